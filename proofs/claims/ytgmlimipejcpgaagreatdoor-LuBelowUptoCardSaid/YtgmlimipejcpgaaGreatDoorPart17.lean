/-
  YtgmlimipejcpgaaGreatDoorPart17: steps of the proof of a law of the program: what these texts prove holds under the hypotheses that their theorems name, and no others.
-/
import Derived.Test.YtgmlimipejcpgaaGreatDoorPart16
import Derived.Test.YtgmlimipejcpgaaGreatDoorPart14
import Derived.Test.YtgmlimipejcpgaaGreatDoorPart10
section
set_option linter.unusedVariables false
set_option linter.unusedSimpArgs false
namespace Go.Proofs.YtgmlimipejcpgaaGreatDoor
open Go Go.AM Fx
/-- A heap that leaves another one as it was, with more behind it. -/
structure Old (h hc : List B) : Prop where
  hl : HL hc
  len : h.length ≤ hc.length
  old : ∀ k, k < h.length → hc[k]? = h[k]?
section
variable {h hc hd : List B}
theorem Old.rfl (hl : HL h) : Old h h := ⟨hl, Nat.le_refl _, fun _ _ => Eq.refl _⟩
theorem Old.trans (p : Old h hc) (q : Old hc hd) : Old h hd := ⟨q.hl, Nat.le_trans p.len q.len, fun k hk => (q.old k (Nat.lt_of_lt_of_le hk p.len)).trans (p.old k hk)⟩
theorem Old.app (p : Old h hc) {x : List B} (hx : HL (hc ++ x)) : Old h (hc ++ x) := ⟨hx, by have := p.len; simp; omega, fun k hk => by rw [get_app (Nat.lt_of_lt_of_le hk p.len)]; exact p.old k hk⟩
theorem Old.set (p : Old h hc) {b : Nat} {y : B} (hb : h.length ≤ b) (hx : HL (hc.set b y)) : Old h (hc.set b y) := ⟨hx, by rw [List.length_set]; exact p.len, fun k hk => by rw [get_set_ne (by omega)]; exact p.old k hk⟩
theorem HL.setapp {x : List B} {b : Nat} {y : B} (hl : HL h) (hy : y.lt (h.length + x.length)) (hx : ∀ z ∈ x, z.lt (h.length + x.length)) : HL (h.set b y ++ x) := fun z hz => by
  rw [List.length_append, List.length_set]
  rcases List.mem_append.1 hz with hz | hz
  · rcases List.mem_or_eq_of_mem_set hz with hz | hz
    · exact B.lt_mono (by omega) (hl z hz)
    · subst hz; exact hy
  · exact hx z hz
theorem Old.setapp (p : Old h hc) {x : List B} {b : Nat} {y : B} (hb : h.length ≤ b) (hx : HL (hc.set b y ++ x)) : Old h (hc.set b y ++ x) :=
  ⟨hx, by have := p.len; simp; omega, fun k hk => by rw [get_app (by rw [List.length_set]; exact Nat.lt_of_lt_of_le hk p.len), get_set_ne (by omega)]; exact p.old k hk⟩
theorem Old.get (p : Old h hc) {k : Nat} {y : B} (hy : h[k]? = some y) : hc[k]? = some y := by rw [p.old k (List.getElem?_eq_some_iff.1 hy).1]; exact hy
end
structure HA where
  i : Nat
  hc : List B
  fl : Bool
  T : List (Nat × Nat × Bool × List (Nat × Nat × Nat))
structure HB where
  j : Nat
  hc : List B
  fl : Bool
  ids : List (Nat × Nat × Nat)
theorem ivs_rep0 {N : Nat} : List.replicate N [V.int .i64 0] = ivs (List.replicate N 0) := by simp [ivs]
theorem refs_lt {ids : List (Nat × Nat × Nat)} {n : Nat} (h : ∀ x ∈ ids, x.1 < n) : ∀ y ∈ ids.map (fun x => [rv x]), V.lts n y = true := fun y hy => by
  obtain ⟨x, hx, rfl⟩ := List.mem_map.1 hy
  simp [rv, h x hx]
theorem planA_len {gs : List (List PartD)} {M : List Int} {a : AutoD} : (planA gs M a).length = a.locs.length := by simp [planA]
theorem planA_at {gs : List (List PartD)} {M : List Int} {a : AutoD} {j : Nat} (hj : j < a.locs.length) : (planA gs M a).take (j + 1) = (planA gs M a).take j ++ [planRow a gs M j] := by
  rw [List.take_add_one, List.getElem?_eq_getElem (by rw [planA_len]; exact hj)]; simp [planA]
theorem planP_at {n : NetD} {gs : List (List PartD)} {M : List Int} {i : Nat} (hi : i < n.autos.length) : (planP n gs M).take (i + 1) = (planP n gs M).take i ++ [planA gs M n.autos[i]] := by
  rw [List.take_add_one, List.getElem?_eq_getElem (by simp [planP]; exact hi)]; simp [planP]
set_option maxRecDepth 20000 in
set_option maxHeartbeats 16000000 in
theorem c_half (n : NetD) (hn : n.ok) (gs : List (List PartD)) (hgl : gs.length ≤ 1048576) (hgs : ∀ g ∈ gs, okGoal g) (he : lookE n gs = 0) (M : List Int) (hM : M.length = n.clocks.length) {h : List B} {bn bg bm : Nat} (hl : HL h)
    (h1 : h[bn]? = some (.var n.cells)) (h2 : h[bg]? = some (.var [gsV gs])) (h3 : h[bm]? = some (.var [.vec (ivs M) n.clocks.length])) :
    GCall Tryz.prog GV 111 [.ptr bn 0, .ptr bg 0, .ptr bm 0] h (fun v h' => ∃ b g fl T, v = .ref b g 0 T.length ∧ Old h h' ∧ N3 h.length h' b g fl T (planP n gs M)) := by
  have hN := hn.1.1
  have hal := hn.2.2.2.1
  have l1 := (List.getElem?_eq_some_iff.1 h1).1
  have l2 := (List.getElem?_eq_some_iff.1 h2).1
  have l3 := (List.getElem?_eq_some_iff.1 h3).1
  have hiM : (ivs M).length = n.clocks.length := by simp [ivs, hM]
  have hgM : ∀ q (hq : q < n.clocks.length), (ivs M)[q]'(by omega) = [V.int .i64 (M.getD q 0)] := fun q hq => by simp [ivs, List.getD, List.getElem?_eq_getElem (show q < M.length by omega)]
  simp only [NetD.cells, vl, gsV] at h1 h2
  refine GCall_body Tryz.func111 rfl (by decide) Tryz.ntmps111 (by simp) Tryz.results111 ?_
  repeat' (first
 |refine AW_seq_k fun K hK=>?_|refine Step.by1 ?_|refine SBlock_exit_ne (by decide) ?_|refine cz rfl ?_|refine Fork.by2 (fun h=>?_) fun h=>?_
 |(refine AW_region_AO ?_;simp [h1])
 |(refine Split.by2 (fun h=>?_) (fun h=>?_)<;>(simp [h, h1]))
 |(apply hK;clear hK K)|refine AWh (by assumption) ?_)
  refine AW_nilrow 4 54 rfl (by simp) ?_
  refine AW_loopGL [0, 1, 2, 14, 15] (fun s : HA => [(4, .ref h.length s.i 0 s.i), (16, .int .i64 s.i)]) (fun s => s.hc) (fun s => s.i ≤ n.autos.length ∧ Old h s.hc ∧ s.T.length = s.i ∧ N3 h.length s.hc h.length s.i s.fl s.T ((planP n gs M).take s.i)) (fun s => n.autos.length - s.i) ⟨0, h ++ [B.row 54 0 0 true []], true, []⟩
    ⟨Nat.zero_le _, (Old.rfl hl).app (hl.app (by simp)), rfl, ⟨by rw [ga0 rfl]; rfl, fun _ => rfl, by simp, fun i y hy => by simp at hy, Nat.le_refl _, by simp⟩⟩
    (Weak.sym (x := []) (by simp) (hl.app (by simp)) (by simp [vl]; omega)) (fun s hs => by have := hs.2.2.2.b_lt; simp; omega) ?_
  rintro ⟨i, hc, fl, T⟩ ⟨hi, ho, hT, hp⟩
  simp only at hi ho hT hp
  by_cases hlt : i < n.autos.length
  · obtain ⟨a, haa⟩ : ∃ a, n.autos[i] = a := ⟨_, rfl⟩
    have ham : a ∈ n.autos := haa ▸ List.getElem_mem hlt
    have hcA := c_ofA n hn a ham gs hgl hgs he
    have hpi := planP_at (gs := gs) (M := M) hlt
    have hll := (hn.2.2.2.2 a ham).2.1.1
    have hlt' : (i : Int) < n.autos.length := by omega
    have w1 : IntKind.i64.wrap ((i : Int) + 1) = i + 1 := wrap_i64 (by omega) (by omega)
    have hby : (i + 1) * 24 ≤ 140737488355328 := by omega
    obtain ⟨mv, hmv, hml, hmg⟩ : ∃ mv, markV a gs n.clocks.length = mv ∧ mv.length = a.locs.length ∧ ∀ j, j < a.locs.length → mv[j]? = some [V.vec (bvs (actR a gs n.clocks.length j)) n.clocks.length] := ⟨_, rfl, by simp [markV], fun j hj => by simp [markV, hj]⟩
    rw [hmv] at hcA
    rw [haa] at hpi
    simp only [NetD.cells, AutoD.cells, vl, gsV] at hcA
    have k1 := fun x : List B => (get_app (x := x) (Nat.lt_of_lt_of_le l1 ho.len)).trans (ho.get h1)
    have k2 := fun x : List B => (get_app (x := x) (Nat.lt_of_lt_of_le l2 ho.len)).trans (ho.get h2)
    have g0 := fun x : List B => ga0 (h := hc) (x := x) rfl
    repeat' (first
 |refine AW_seq_k fun K hK=>?_|refine Step.by1 ?_|refine SBlock_exit_ne (by decide) ?_|refine cz rfl ?_|refine Fork.by2 (fun h=>?_) fun h=>?_
 |((first|refine AW_region_AO ?_|refine AS_call1 (f:=99) rfl rfl (hcA) rfl rfl rfl ?_);simp [vl, AutoD.cells, hlt, hlt', haa, k1, k2, g0])
 |(refine Split.by2 (fun h=>?_) (fun h=>?_)<;>(simp [h, vl, AutoD.cells, hlt, hlt', haa, k1, k2, g0]))
 |(apply hK;clear hK K)|refine AWh (by assumption) ?_)
    refine AW_nilrow 7 47 rfl (by simp) ?_
    clear g0
    have hA0 : HL (hc ++ [B.var a.cells, B.row 47 0 0 true []]) := ho.hl.app (by simp [AutoD.cells, vl])
    refine AW_loopGL [0, 1, 2, 4, 14, 15, 16, 23, 24] (fun s : HB => [(7, .ref (hc.length + 1) s.j 0 s.j), (25, .int .i64 s.j)]) (fun s => s.hc) (fun s => s.j ≤ a.locs.length ∧ Old hc s.hc ∧ s.ids.length = s.j ∧ N2 hc.length s.hc (hc.length + 1) s.j s.fl s.ids ((planA gs M a).take s.j)) (fun s => a.locs.length - s.j) ⟨0, hc ++ [B.var a.cells, B.row 47 0 0 true []], true, []⟩
      ⟨Nat.zero_le _, (Old.rfl ho.hl).app hA0, rfl, ⟨by rw [ga1 rfl]; rfl, fun _ => rfl, by simp, fun i y hy => by simp at hy, ⟨Nat.le_succ _, by simp⟩, by simp⟩⟩
      (Weak.sym (x := []) (by simp [AutoD.cells, vl]) hA0 (by have := ho.len; have := hp.b_lt; simp [vl]; omega)) (fun s hs => by have := hs.2.2.2.b_lt; simp; omega) ?_
    rintro ⟨j, hd, fl2, ids⟩ ⟨hj, ho2, hil, hq⟩
    simp only at hj ho2 hil hq
    have hb2 := hq.b_lt
    by_cases hjl : j < a.locs.length
    · have hpa := planA_at (gs := gs) (M := M) hjl
      have hjl' : (j : Int) < a.locs.length := by omega
      have w2 : IntKind.i64.wrap ((j : Int) + 1) = j + 1 := wrap_i64 (by omega) (by omega)
      have hby2 : (j + 1) * 24 ≤ 140737488355328 := by omega
      have hNb : (n.clocks.length : Int) * 8 ≤ 281474976710656 := by omega
      have hNc : n.clocks.length * 8 ≤ 140737488355328 := by omega
      have hmj : mv[j]'(by omega) = [V.vec (bvs (actR a gs n.clocks.length j)) n.clocks.length] := by have := hmg j hjl; rw [List.getElem?_eq_getElem (by omega)] at this; exact Option.some.inj this
      obtain ⟨rr, hrr, hrl, hrg⟩ : ∃ rr, bvs (actR a gs n.clocks.length j) = rr ∧ rr.length = n.clocks.length ∧ ∀ c, c < n.clocks.length → rr[c]? = some [V.bool (actB a gs ((c : Int) + 1) j)] := ⟨_, rfl, by simp [bvs, actR], fun c hc => by simp [bvs, actR, hc]⟩
      rw [hrr] at hmj
      have g0 := fun x : List B => ga0 (h := hd) (x := x) rfl
      have kb := fun x : List B => (get_app (x := x) hb2).trans hq.at0
      have sb := fun (x : List B) (y : B) => set_app (x := x) (y := y) hb2
      have hml2 : (ids.map fun x => [rv x]).length = j := by simp [hil]
      have k3 := fun x : List B => (get_app (x := x) (Nat.lt_of_lt_of_le l3 (ho.trans ho2).len)).trans ((ho.trans ho2).get h3)
      repeat' (first
 |refine AW_seq_k fun K hK=>?_|refine Step.by1 ?_|refine SBlock_exit_ne (by decide) ?_|refine cz rfl ?_|refine Fork.by2 (fun h=>?_) fun h=>?_
 |(refine AW_region_AO ?_;simp [hml, hmj, hjl, hjl', hNb, hNc, g0, ivs_rep0])
 |(refine Split.by2 (fun h=>?_) (fun h=>?_)<;>(simp [h, hml, hmj, hjl, hjl', hNb, hNc, g0, ivs_rep0]))
 |(apply hK;clear hK K)|refine AWh (by assumption) ?_)
      refine AW_loopL [0, 1, 2, 4, 7, 10, 14, 15, 16, 23, 24, 25, 32, 33] (fun s : Nat × List Int => [(34, .int .i64 s.1)]) (fun s => hd ++ [B.row 3 0 0 true (ivs s.2)]) (fun s => s.1 ≤ n.clocks.length ∧ s.2.length = n.clocks.length ∧ ∀ q, q < s.1 → s.2[q]? = some (if actB a gs ((q : Int) + 1) j = true then M.getD q 0 else -1)) (fun s => n.clocks.length - s.1) (0, List.replicate n.clocks.length 0)
        ⟨Nat.zero_le _, by simp, fun q hq => by omega⟩ (Weak.sym (x := []) (by simp) (ho2.hl.app (by simp)) (by have := ho2.len; have := ho.len; have := hp.b_lt; simp [vl]; omega)) (fun s hs => by simp) ?_
      rintro ⟨k, c⟩ ⟨hk, hcl, hcv⟩
      simp only at hk hcl hcv
      have hcl2 : (ivs c).length = n.clocks.length := by simp [ivs, hcl]
      by_cases hkl : k < n.clocks.length
      · have hkl' : (k : Int) < n.clocks.length := by omega
        have w3 : IntKind.i64.wrap ((k : Int) + 1) = k + 1 := wrap_i64 (by omega) (by omega)
        have hrk : rr[k]'(by omega) = [V.bool (actB a gs ((k : Int) + 1) j)] := by have := hrg k hkl; rw [List.getElem?_eq_getElem (by omega)] at this; exact Option.some.inj this
        have hMk := hgM k hkl
        have s0 := fun (x : List B) (y : B) => sa0 (h := hd) (x := x) (y := y) rfl
        have hck : (ivs c)[k]'(by omega) = [V.int .i64 (c[k]'(by omega))] := by simp [ivs]
        have hcl3 : (ivs (c.set k (-1))).length = n.clocks.length := by simp [ivs, hcl]
        have hck3 : (ivs (c.set k (-1)))[k]'(by omega) = [V.int .i64 (-1)] := by simp [ivs]
        have hs3 : ∀ v, (ivs (c.set k (-1))).set k [V.int .i64 v] = ivs (c.set k v) := fun v => by simp [ivs, ← List.map_set]
        have hs1 : ∀ v, (ivs c).set k [V.int .i64 v] = ivs (c.set k v) := fun v => by simp [ivs, List.map_set]
        have hnext : ∀ v, (if actB a gs ((k : Int) + 1) j = true then M.getD k 0 else -1) = v → ∀ q, q < k + 1 → (c.set k v)[q]? = some (if actB a gs ((q : Int) + 1) j = true then M.getD q 0 else -1) := fun v hv q hq => by
          rw [List.getElem?_set]
          by_cases e : k = q
          · subst e; rw [if_pos rfl, if_pos (by omega), hv]
          · rw [if_neg e]; exact hcv q (by omega)
        generalize actB a gs ((k : Int) + 1) j = b at *
        generalize M.getD k 0 = mk at *
        cases b
        · have hn2 := hnext (-1) (by simp)
          repeat' (first
 |refine AW_seq_k fun K hK=>?_|refine Step.by1 ?_|refine SBlock_exit_ne (by decide) ?_|refine cz rfl ?_|refine Fork.by2 (fun h=>?_) fun h=>?_
 |(refine AW_region_AO ?_;simp [hrl, hrk, hkl, hkl', w3, g0, s0, hcl2, hck, hs1])
 |(refine Split.by2 (fun h=>?_) (fun h=>?_)<;>(simp [h, hrl, hrk, hkl, hkl', w3, g0, s0, hcl2, hck, hs1]))
 |(apply hK;clear hK K)|refine AWh (by assumption) ?_)
          exact ⟨k + 1, c.set k (-1), ⟨by show k + 1 ≤ _; omega, by simp [hcl], hn2⟩, by show _ - (k + 1) < _ - k; omega, Weak.sym (x := []) (by simp) (ho2.hl.app (by simp)) (by have := ho2.len; have := ho.len; have := hp.b_lt; simp [vl]; omega)⟩
        · have hn2 := hnext mk (by simp)
          repeat' (first
 |refine AW_seq_k fun K hK=>?_|refine Step.by1 ?_|refine SBlock_exit_ne (by decide) ?_|refine cz rfl ?_|refine Fork.by2 (fun h=>?_) fun h=>?_
 |(refine AW_region_AO ?_;simp [hrl, hrk, hkl, hkl', w3, g0, s0, hcl2, hck, hs1, hcl3, hck3, hs3, k3, hiM, hMk])
 |(refine Split.by2 (fun h=>?_) (fun h=>?_)<;>(simp [h, hrl, hrk, hkl, hkl', w3, g0, s0, hcl2, hck, hs1, hcl3, hck3, hs3, k3, hiM, hMk]))
 |(apply hK;clear hK K)|refine AWh (by assumption) ?_)
          exact ⟨k + 1, c.set k mk, ⟨by show k + 1 ≤ _; omega, by simp [hcl], hn2⟩, by show _ - (k + 1) < _ - k; omega, Weak.sym (x := []) (by simp) (ho2.hl.app (by simp)) (by have := ho2.len; have := ho.len; have := hp.b_lt; simp [vl]; omega)⟩
      · obtain rfl : k = n.clocks.length := by omega
        have hce : c = planRow a gs M j := by
          apply List.ext_getElem?
          intro q
          by_cases hq : q < n.clocks.length
          · rw [hcv q hq]; simp [planRow, hM, hq]
          · rw [List.getElem?_eq_none (by omega), List.getElem?_eq_none (by simp [planRow, hM]; omega)]
        have hsn := hq.snoc (ns := c) ho2.len
        rw [hcl] at hsn
        rw [← hce] at hpa
        repeat' (first
 |refine AW_seq_k fun K hK=>?_|refine Step.by1 ?_|refine SBlock_exit_ne (by decide) ?_|refine cz rfl ?_|refine Fork.by2 (fun h=>?_) fun h=>?_
 |(refine AW_region_AO ?_;simp [kb, sb, hml2, hby2, w2, g0])
 |(refine Split.by2 (fun h=>?_) (fun h=>?_)<;>(simp [h, kb, sb, hml2, hby2, w2, g0]))
 |(apply hK;clear hK K)|refine AWh (by assumption) ?_)
        have hold := ho2.setapp (b := hc.length + 1) (y := B.row 47 (j + 1) 0 false (ids.map (fun x => [rv x]) ++ [[rv (hd.length, 0, n.clocks.length)]])) (x := [B.row 3 0 0 true (ivs c)]) (by omega) (ho2.hl.setapp (rowR_lt fun y hy => by
          rcases List.mem_append.1 hy with hy | hy
          · exact refs_lt (fun x hx => by have := hq.ids_lt x hx; simp; omega) y hy
          · simp at hy; subst hy; simp [rv]) (by simp))
        exact ⟨⟨j + 1, _, false, ids ++ [(hd.length, 0, n.clocks.length)]⟩, ⟨by show j + 1 ≤ _; omega, hold, by simp [hil], by rw [hpa]; exact hsn⟩, by show _ - (j + 1) < _ - j; omega,
          Weak.sym (x := [B.row 47 0 0 false [[V.ref hd.length 0 0 n.clocks.length]]]) (by simp [rv]) hold.hl (by have := ho2.len; have := ho.len; have := hp.b_lt; simp [vl]; omega)⟩
    · obtain rfl : j = a.locs.length := by omega
      have kb := fun x : List B => (get_app (x := x) (Nat.lt_of_lt_of_le hp.b_lt ho2.len)).trans (ho2.get hp.at0)
      have sb := fun (x : List B) (y : B) => set_app (x := x) (y := y) (Nat.lt_of_lt_of_le hp.b_lt ho2.len)
      have hml2 : (T.map fun y => [V.ref y.1 y.2.1 0 y.2.2.2.length]).length = i := by simp [hT]
      have hqe : (planA gs M a).take a.locs.length = planA gs M a := List.take_of_length_le (by simp [planA])
      rw [hqe] at hq
      have hsn := hp.snoc ho.len ho2.old hq
      rw [hil] at hsn
      repeat' (first
 |refine AW_seq_k fun K hK=>?_|refine Step.by1 ?_|refine SBlock_exit_ne (by decide) ?_|refine cz rfl ?_|refine Fork.by2 (fun h=>?_) fun h=>?_
 |(refine AW_region_AO ?_;simp [kb, sb, hml2, hby, w1])
 |(refine Split.by2 (fun h=>?_) (fun h=>?_)<;>(simp [h, kb, sb, hml2, hby, w1]))
 |(apply hK;clear hK K)|refine AWh (by assumption) ?_)
      have hold := (ho.trans ho2).set (b := h.length) (y := B.row 54 (i + 1) 0 false (T.map (fun y => [V.ref y.1 y.2.1 0 y.2.2.2.length]) ++ [[V.ref (hc.length + 1) a.locs.length 0 a.locs.length]])) (Nat.le_refl _) (ho2.hl.set (rowR_lt fun y hy => by
        rcases List.mem_append.1 hy with hy | hy
        · obtain ⟨x, hx, rfl⟩ := List.mem_map.1 hy
          obtain ⟨q, hq2⟩ := List.getElem?_of_mem hx
          obtain ⟨_, _, h5⟩ := hp.rows q x hq2
          have := h5.b_lt
          have := ho2.len
          simp; omega
        · simp at hy; subst hy; simp; omega))
      exact ⟨⟨i + 1, _, false, T ++ [(hc.length + 1, a.locs.length, fl2, ids)]⟩, ⟨by show i + 1 ≤ _; omega, hold, by simp [hT], by rw [hpi]; exact hsn⟩, by show _ - (i + 1) < _ - i; omega,
        Weak.sym (x := [B.row 54 0 0 false [[V.ref (hc.length + 1) a.locs.length 0 a.locs.length]]]) (by simp) hold.hl (by have := ho2.len; have := ho.len; have := hp.b_lt; simp [vl]; omega)⟩
  · obtain rfl : i = n.autos.length := by omega
    have hpe : (planP n gs M).take n.autos.length = planP n gs M := List.take_of_length_le (by simp [planP])
    rw [hpe] at hp
    repeat' (first
 |refine AW_seq_k fun K hK=>?_|refine Step.by1 ?_|refine SBlock_exit_ne (by decide) ?_|refine cz rfl ?_|refine Fork.by2 (fun h=>?_) fun h=>?_
 |(refine AW_region_AO ?_;simp [vl])
 |(refine Split.by2 (fun h=>?_) (fun h=>?_)<;>(simp [h, vl]))
 |(apply hK;clear hK K)|refine AWh (by assumption) ?_)
    exact retg1 ⟨h.length, n.autos.length, fl, T, by rw [hT]; rfl, ho, hp⟩ (by simp; exact hp.b_lt) (Go.AM.Leaves.sym ho.len ho.hl)
end Go.Proofs.YtgmlimipejcpgaaGreatDoor
end

section
set_option linter.unusedVariables false
set_option linter.unusedSimpArgs false
namespace Go.Proofs.YtgmlimipejcpgaaGreatDoor
open Go Go.AM Fx
set_option maxRecDepth 20000 in
set_option maxHeartbeats 8000000 in
theorem c_luLook (n : NetD) (hn : n.ok) (gs : List (List PartD)) (hgl : gs.length ≤ 1048576) (hgs : ∀ g ∈ gs, okGoal g) : PC 103 [.agg n.cells, gsV gs] (.int .i64 (lookE n gs)) := by
  have hN := c_Net n hn
  obtain ⟨r, hr⟩ : ∃ r, lookE n gs = r := ⟨_, rfl⟩
  rw [hr]
  unfold lookE at hr
  simp only [vl, NetD.cells] at hN
  refine PCall_body Tryz.func103 rfl (by decide) Tryz.ntmps103 (by simp) Tryz.results103 ?_
  by_cases hz : netE n = 0
  · rw [if_neg (by simp [hz])] at hr
    rw [hz] at hN
    repeat' (first
 |refine AW_seq_k fun K hK=>?_|refine Step.by1 ?_|refine SBlock_exit_ne (by decide) ?_|refine cz rfl ?_|refine Fork.by2 (fun h=>?_) fun h=>?_
 |((first|refine AW_region_AO ?_|refine AS_call1 (f:=15) rfl rfl (hN) rfl rfl rfl ?_);simp [gsV, vl, NetD.cells])
 |(refine Split.by2 (fun h=>?_) (fun h=>?_)<;>(simp [h, gsV, vl, NetD.cells]))
 |(apply hK;clear hK K)|refine AWh (by assumption) ?_)
    refine AW_scan (r := r) gs 16 [2, 14, 15] (lookF n) hr (by apply Weak.mk' <;> simp [gsV, vl, NetD.cells]) ?_ ?_
    · intro i g _ hlt hg hF
      rw [lookF_cons] at hF
      have hc := c_Goal n hn g (hgs g (hg ▸ List.getElem_mem hlt))
      have hlt' : (i : Int) < gs.length := by omega
      have w1 : IntKind.i64.wrap ((i : Int) + 1) = i + 1 := wrap_i64 (by omega) (by omega)
      simp only [vl, NetD.cells] at hc
      generalize goalE n g = e at *
      by_cases he : e = 0
      · rw [if_neg (by simp [he])] at hF
        rw [he] at hc
        repeat' (first
 |refine AW_seq_k fun K hK=>?_|refine Step.by1 ?_|refine SBlock_exit_ne (by decide) ?_|refine cz rfl ?_|refine Fork.by2 (fun h=>?_) fun h=>?_
 |((first|refine AW_region_AO ?_|refine AS_call1 (f:=19) rfl rfl (hc) rfl rfl rfl ?_);simp [gsV, vl, NetD.cells, hlt, hlt', hg, w1])
 |(refine Split.by2 (fun h=>?_) (fun h=>?_)<;>(simp [h, gsV, vl, NetD.cells, hlt, hlt', hg, w1]))
 |(apply hK;clear hK K)|refine AWh (by assumption) ?_)
        refine ⟨hF, ?_⟩; apply Weak.mk' <;> simp [gsV, vl, NetD.cells]
      · rw [if_pos he] at hF
        subst hF
        repeat' (first
 |refine AW_seq_k fun K hK=>?_|refine Step.by1 ?_|refine SBlock_exit_ne (by decide) ?_|refine cz rfl ?_|refine Fork.by2 (fun h=>?_) fun h=>?_
 |((first|refine AW_region_AO ?_|refine AS_call1 (f:=19) rfl rfl (hc) rfl rfl rfl ?_);simp [gsV, vl, NetD.cells, hlt, hlt', hg, he])
 |(refine Split.by2 (fun h=>?_) (fun h=>?_)<;>(simp [h, gsV, vl, NetD.cells, hlt, hlt', hg, he]))
 |(apply hK;clear hK K)|refine AWh (by assumption) ?_)
        exact retq1 (conv_eq rfl rfl)
    · intro hF
      rw [lookF_nil] at hF
      repeat' (first
 |refine AW_seq_k fun K hK=>?_|refine Step.by1 ?_|refine SBlock_exit_ne (by decide) ?_|refine cz rfl ?_|refine Fork.by2 (fun h=>?_) fun h=>?_
 |(refine AW_region_AO ?_;simp [gsV, vl, NetD.cells])
 |(refine Split.by2 (fun h=>?_) (fun h=>?_)<;>(simp [h, gsV, vl, NetD.cells]))
 |(apply hK;clear hK K)|refine AWh (by assumption) ?_)
      exact retq1 (conv_eq (by rw [← hF]; rfl) rfl)
  · rw [if_pos hz] at hr
    subst hr
    repeat' (first
 |refine AW_seq_k fun K hK=>?_|refine Step.by1 ?_|refine SBlock_exit_ne (by decide) ?_|refine cz rfl ?_|refine Fork.by2 (fun h=>?_) fun h=>?_
 |((first|refine AW_region_AO ?_|refine AS_call1 (f:=15) rfl rfl (hN) rfl rfl rfl ?_);simp [gsV, vl, NetD.cells, hz])
 |(refine Split.by2 (fun h=>?_) (fun h=>?_)<;>(simp [h, gsV, vl, NetD.cells, hz]))
 |(apply hK;clear hK K)|refine AWh (by assumption) ?_)
    exact retq1 (conv_eq rfl rfl)
theorem c_isBelow (c : Int) : PC 105 [.int .u8 c] (.bool (lowB c)) := by
  refine PCall_body Tryz.func105 rfl (by decide) Tryz.ntmps105 (by simp) Tryz.results105 ?_
  repeat' (first
 |refine AW_seq_k fun K hK=>?_|refine Step.by1 ?_|refine SBlock_exit_ne (by decide) ?_|refine cz rfl ?_|refine Fork.by2 (fun h=>?_) fun h=>?_
 |(refine AW_region_AO ?_;simp)
 |(refine Split.by2 (fun h=>?_) (fun h=>?_)<;>(simp [h]))
 |(apply hK;clear hK K)|refine AWh (by assumption) ?_)
  all_goals exact retq1 (conv_eq (by simp [lowB, *]) rfl)
theorem c_isAbove (c : Int) : PC 106 [.int .u8 c] (.bool (upB c)) := by
  refine PCall_body Tryz.func106 rfl (by decide) Tryz.ntmps106 (by simp) Tryz.results106 ?_
  repeat' (first
 |refine AW_seq_k fun K hK=>?_|refine Step.by1 ?_|refine SBlock_exit_ne (by decide) ?_|refine cz rfl ?_|refine Fork.by2 (fun h=>?_) fun h=>?_
 |(refine AW_region_AO ?_;simp)
 |(refine Split.by2 (fun h=>?_) (fun h=>?_)<;>(simp [h]))
 |(apply hK;clear hK K)|refine AWh (by assumption) ?_)
  all_goals exact retq1 (conv_eq (by simp [upB, *]) rfl)
set_option maxRecDepth 20000 in
set_option maxHeartbeats 8000000 in
theorem c_luRaise {h : List B} {mr gm N : Nat} {fl : Bool} {ids : List (Nat × Nat)} {m : List (List Int)} (p0 : MR 47 3 ivs h mr gm fl ids N m h) (hN : N ≤ 1048576) (fso : Nat) (so : Int → Bool) (hso : ∀ c, PC fso [.int .u8 c] (.bool (so c))) {p : Nat} {x : Nat × Nat} {r : List Int} (hx : ids[p]? = some x) (hr : m[p]? = some r)
    (l : List GuardD) (hl : l.length ≤ 1048576) (hg : ∀ g ∈ l, okG N g) :
    GCall Tryz.prog GV 167 [.ref mr gm 0 ids.length, .int .i64 p, vl GuardD.cells l, .fn (.func fso) [] []] h (fun v h' => v = .tup [] ∧ h' = h.set x.1 (.row 3 x.2 0 true (ivs (raiseL so l r)))) := by
  obtain ⟨r0, hr0, hrl, hrow⟩ := p0.rows p x hx
  have e0 : r0 = r := by rw [hr] at hr0; cases hr0; rfl
  rw [e0] at hrl hrow
  have hmr := (List.getElem?_eq_some_iff.1 p0.mr).1
  have hxl := (List.getElem?_eq_some_iff.1 hrow).1
  have hpl := (List.getElem?_eq_some_iff.1 hx).1
  have hne : x.1 ≠ mr := fun e => by have := p0.mr; rw [← e, hrow] at this; cases this
  have hml : (mrefs ids N).length = ids.length := by simp [mrefs]
  obtain ⟨x', hx', hmp⟩ := p0.at hpl
  obtain rfl : x' = x := by rw [hx] at hx'; cases hx'; rfl
  have hpl' : (p : Int) < ids.length := by omega
  refine GCall_body Tryz.func167 rfl (by decide) Tryz.ntmps167 (by simp) Tryz.results167 ?_
  repeat' (first
 |refine AW_seq_k fun K hK=>?_|refine Step.by1 ?_|refine SBlock_exit_ne (by decide) ?_|refine cz rfl ?_|refine Fork.by2 (fun h=>?_) fun h=>?_
 |(refine AW_region_AO ?_;simp [vl])
 |(refine Split.by2 (fun h=>?_) (fun h=>?_)<;>(simp [h, vl]))
 |(apply hK;clear hK K)|refine AWh (by assumption) ?_)
  refine AW_range (r := raiseL so l r) l 12 [0, 1, 3, 10, 11] (fun c : List Int => []) (fun c => h.set x'.1 (.row 3 x'.2 0 true (ivs c))) (fun i c => c.length = N) (raiseL so) r
    rfl hrl (Weak.sym (x := []) (by simp [set_same hrow]) (p0.hl.set rowF_lt) (by simp [vl, hmr])) (fun _ c _ => by simp) ?_ ?_
  · intro i c g _ hlt hge hJ hF
    rw [raiseL_cons] at hF
    obtain ⟨g1, g2⟩ := hg g (hge ▸ List.getElem_mem hlt)
    have hlt' : (i : Int) < l.length := by omega
    have w1 : IntKind.i64.wrap ((i : Int) + 1) = i + 1 := wrap_i64 (by omega) (by omega)
    have w2 : IntKind.i64.wrap (g.clock - 1) = g.clock - 1 := wrap_i64 (by omega) (by omega)
    obtain ⟨q, hq⟩ := Int.eq_ofNat_of_zero_le (show 0 ≤ g.clock - 1 by omega)
    have hql : q < c.length := by omega
    have hqN : q < N := by omega
    have hqN' : (q : Int) < N := by omega
    have hc := hso g.cmp
    have h1 : raise1 so c g = if so g.cmp = true then c.set q (if g.n > c[q] then g.n else c[q]) else c := by
      unfold raise1; rw [hq]; simp [hql]
    rw [h1] at hF
    obtain ⟨y, hy⟩ : ∃ y, c[q] = y := ⟨_, rfl⟩
    rw [hy] at hF
    rw [hq] at w2
    have hHl := p0.hl.set (i := x'.1) (y := .row 3 x'.2 0 true (ivs c)) rowF_lt
    have hlen : (h.set x'.1 (B.row 3 x'.2 0 true (ivs c))).length = h.length := by simp
    have f0 := fun y : List B => ga0 (x := y) hlen
    have f1 := fun y : List B => (get_app (x := y) (by rw [hlen]; exact hxl)).trans (get_set_eq (y := B.row 3 x'.2 0 true (ivs c)) hrow)
    have f2 := fun y : List B => (get_app (x := y) (by rw [hlen]; exact hmr)).trans ((get_set_ne (y := B.row 3 x'.2 0 true (ivs c)) hne).trans p0.mr)
    have f3 := fun (y : List B) (z : B) => set_app (x := y) (y := z) (h := h.set x'.1 (B.row 3 x'.2 0 true (ivs c))) (i := x'.1) (by rw [hlen]; exact hxl)
    have f4 : ∀ z, (h.set x'.1 (B.row 3 x'.2 0 true (ivs c))).set x'.1 z = h.set x'.1 z := fun z => by rw [List.set_set]
    have hcl : (ivs c).length = N := by simp [ivs, hJ]
    have hcq : (ivs c)[q]'(by omega) = [V.int .i64 y] := by simp [ivs, hy]
    have hcs : ∀ v, (ivs c).set q [V.int .i64 v] = ivs (c.set q v) := fun v => by simp [ivs, List.map_set]
    generalize hH : h.set x'.1 (B.row 3 x'.2 0 true (ivs c)) = H at *
    cases hs : so g.cmp
    · rw [hs] at hc hF
      rw [if_neg (by simp)] at hF
      repeat' (first
 |refine AW_seq_k fun K hK=>?_|refine Step.by1 ?_|refine SBlock_exit_ne (by decide) ?_|refine cz rfl ?_|refine Fork.by2 (fun h=>?_) fun h=>?_
 |(refine AW_region_AO ?_;simp [vl, GuardD.cells, hlt, hlt', hge, w1, f0, hlen])
 |(refine Split.by2 (fun h=>?_) (fun h=>?_)<;>(simp [h, vl, GuardD.cells, hlt, hlt', hge, w1, f0, hlen]))
 |(refine AS_call1 (f := fso) rfl rfl hc rfl rfl rfl ?_; simp [vl, GuardD.cells, f0, hlen])
 |(apply hK;clear hK K)|refine AWh (by assumption) ?_)
      exact ⟨c, hF, hJ, Weak.sym (x := [B.var g.cells]) (by simp [GuardD.cells, hH]) (by rw [hH]; exact hHl) (by simp [vl, hmr])⟩
    · rw [hs] at hc hF
      rw [if_pos rfl] at hF
      repeat' (first
 |refine AW_seq_k fun K hK=>?_|refine Step.by1 ?_|refine SBlock_exit_ne (by decide) ?_|refine cz rfl ?_|refine Fork.by2 (fun h=>?_) fun h=>?_
 |((first|refine AW_region_AO ?_|refine AW_region_APx (id:=4) 20 mixed (by decide) ?_);simp [vl, GuardD.cells, hlt, hlt', hge, w1, f0, f1, f2, f3, f4, hlen, hq, w2, hpl, hpl', hml, hmp, hqN, hqN', hcl, hcq, hcs])
 |(refine Split.by2 (fun h=>?_) (fun h=>?_)<;>(simp [h, vl, GuardD.cells, hlt, hlt', hge, w1, f0, f1, f2, f3, f4, hlen, hq, w2, hpl, hpl', hml, hmp, hqN, hqN', hcl, hcq, hcs]))
 |(refine AS_call1 (f := fso) rfl rfl hc rfl rfl rfl ?_; simp [vl, GuardD.cells, f0, hlen])
 |(apply hK;clear hK K)|refine AWh (by assumption) ?_)
      exact ⟨_, hF, by simp [hJ], Weak.sym (x := [B.var g.cells]) (by simp [GuardD.cells, hq]) (p0.hl.set rowF_lt) (by simp [vl, hmr])⟩
  · intro c hJ hF
    rw [raiseL_nil] at hF
    subst hF
    repeat' (first
 |refine AW_seq_k fun K hK=>?_|refine Step.by1 ?_|refine SBlock_exit_ne (by decide) ?_|refine cz rfl ?_|refine Fork.by2 (fun h=>?_) fun h=>?_
 |(refine AW_region_AO ?_;simp [vl])
 |(refine Split.by2 (fun h=>?_) (fun h=>?_)<;>(simp [h, vl]))
 |(apply hK;clear hK K)|refine AWh (by assumption) ?_)
    exact ⟨.inl rfl, _, _, ⟨[], rfl, trivial⟩, ⟨rfl, rfl⟩, rfl, Go.AM.Leaves.sym (by simp) (p0.hl.set rowF_lt)⟩
end Go.Proofs.YtgmlimipejcpgaaGreatDoor
end

section
set_option linter.unusedVariables false
set_option linter.unusedSimpArgs false
namespace Go.Proofs.YtgmlimipejcpgaaGreatDoor
open Go Go.AM Fx
/-- A place whose numbers of a clock count at another one. -/
inductive Rch (a : AutoD) (c : Int) : Nat → Nat → Prop
  | refl {i : Nat} (hi : i < a.locs.length) : Rch a c i i
  | edge {e : EdgeD} {j : Nat} (he : e ∈ a.edges) (hs : setsB c e.sets = false) (h : Rch a c e.to.toNat j) : Rch a c e.frm.toNat j
theorem Rch.lt {a : AutoD} {c : Int} {i j : Nat} (h : Rch a c i j) : j < a.locs.length := by
  induction h with
  | refl hi => exact hi
  | edge _ _ _ ih => exact ih
def nget (m : List (List Int)) (i c : Nat) : Option Int := (m[i]?).bind fun r => r[c]?
theorem nget_some {m : List (List Int)} {i c : Nat} {v : Int} (h : nget m i c = some v) : ∃ r, m[i]? = some r ∧ r[c]? = some v := by
  unfold nget at h
  cases hr : m[i]? with
  | none => rw [hr] at h; cases h
  | some r => rw [hr] at h; exact ⟨r, rfl, h⟩
theorem nget_of {m : List (List Int)} {i c : Nat} {v : Int} {r : List Int} (h : m[i]? = some r) (h2 : r[c]? = some v) : nget m i c = some v := by unfold nget; rw [h]; exact h2
theorem nget_set {m : List (List Int)} {i c : Nat} {r : List Int} {u : Int} (h : m[i]? = some r) (hc : c < r.length) (i2 c2 : Nat) : nget (m.set i (r.set c u)) i2 c2 = if i = i2 ∧ c = c2 then some u else nget m i2 c2 := by
  have hi := (List.getElem?_eq_some_iff.1 h).1
  unfold nget
  rw [List.getElem?_set]
  by_cases e : i = i2
  · subst e
    rw [if_pos rfl, if_pos hi, h]
    simp only [Option.bind_some, true_and]
    rw [List.getElem?_set]
    by_cases e2 : c = c2
    · subst e2; rw [if_pos rfl, if_pos hc, if_pos rfl]
    · rw [if_neg e2, if_neg e2]
  · rw [if_neg e, if_neg (fun h => e h.1)]
/-- What stands there so far is of a place that counts, and no less than the place's own. -/
structure LS (a : AutoD) (N : Nat) (b : Nat → Nat → Int) (m : List (List Int)) : Prop where
  len : m.length = a.locs.length
  row : ∀ (i : Nat) (r : List Int), m[i]? = some r → r.length = N
  snd : ∀ i c v, nget m i c = some v → ∃ j, Rch a ((c : Int) + 1) i j ∧ v = b j c
  ge : ∀ i c v, nget m i c = some v → b i c ≤ v
def nclos (m : List (List Int)) (e : EdgeD) (c : Nat) : Prop := ∀ u v, nget m e.to.toNat c = some u → setsB ((c : Int) + 1) e.sets = false → nget m e.frm.toNat c = some v → u ≤ v
section
variable {a : AutoD} {N : Nat} {b : Nat → Nat → Int} {m m0 : List (List Int)}
theorem LS.step (s : LS a N b m) {e : EdgeD} (he : e ∈ a.edges) {c : Nat} {r : List Int} {u v : Int} (hr : m[e.frm.toNat]? = some r) (hu : nget m e.to.toNat c = some u) (hs : setsB ((c : Int) + 1) e.sets = false) (hv : r[c]? = some v) (huv : v < u) :
    LS a N b (m.set e.frm.toNat (r.set c u)) := by
  have hrl := s.row _ r hr
  have hc := (List.getElem?_eq_some_iff.1 hv).1
  have hg := nget_set (u := u) hr hc
  refine ⟨by rw [List.length_set]; exact s.len, fun i q hq => ?_, fun i c2 w h => ?_, fun i c2 w h => ?_⟩
  · rw [List.getElem?_set] at hq
    by_cases e2 : e.frm.toNat = i
    · rw [if_pos e2, if_pos (List.getElem?_eq_some_iff.1 hr).1] at hq; cases hq; rw [List.length_set]; exact hrl
    · rw [if_neg e2] at hq; exact s.row i q hq
  · rw [hg] at h
    by_cases e2 : e.frm.toNat = i ∧ c = c2
    · rw [if_pos e2] at h; cases h
      obtain ⟨rfl, rfl⟩ := e2
      obtain ⟨j, h1, h2⟩ := s.snd _ _ _ hu
      exact ⟨j, .edge he hs h1, h2⟩
    · rw [if_neg e2] at h; exact s.snd i c2 w h
  · rw [hg] at h
    by_cases e2 : e.frm.toNat = i ∧ c = c2
    · rw [if_pos e2] at h; cases h
      obtain ⟨rfl, rfl⟩ := e2
      have := s.ge _ _ _ (nget_of hr hv); omega
    · rw [if_neg e2] at h; exact s.ge i c2 w h
/-- How far there is to go. -/
def rk (a : AutoD) (b : Nat → Nat → Int) (c : Nat) (v : Int) : Nat := ((List.range a.locs.length).filter fun j => decide (v < b j c)).length
def rkR (a : AutoD) (b : Nat → Nat → Int) (r : List Int) : Nat := ((List.range r.length).map fun c => rk a b c (r.getD c 0)).sum
def nM (a : AutoD) (b : Nat → Nat → Int) (m : List (List Int)) : Nat := (m.map (rkR a b)).sum
theorem rk_lt {c j : Nat} {u v : Int} (hj : j < a.locs.length) (hu : u = b j c) (h : v < u) : rk a b c u < rk a b c v := by
  unfold rk
  refine Go.AM.filter_lt (i := j) (by simp; omega) (by simp; omega) _ (fun x _ hx => ?_) (List.mem_range.2 hj)
  simp only [decide_eq_true_eq] at hx ⊢; omega
theorem sum_set_lt : ∀ {l : List Nat} {i x y : Nat}, l[i]? = some x → y < x → (l.set i y).sum < l.sum
  | [], i, x, y, h, _ => by simp at h
  | a :: l, 0, x, y, h, e => by simp at h; subst h; simp; omega
  | a :: l, i + 1, x, y, h, e => by
    have := sum_set_lt (l := l) (i := i) (x := x) (y := y) (by simpa using h) e
    simp only [List.set_cons_succ, List.sum_cons]; omega
theorem rkR_set {r : List Int} {c : Nat} {u v : Int} (hv : r[c]? = some v) (h : rk a b c u < rk a b c v) : rkR a b (r.set c u) < rkR a b r := by
  have hc := (List.getElem?_eq_some_iff.1 hv).1
  unfold rkR
  have e : ((List.range (r.set c u).length).map fun q => rk a b q ((r.set c u).getD q 0)) = ((List.range r.length).map fun q => rk a b q (r.getD q 0)).set c (rk a b c u) := by
    apply List.ext_getElem?
    intro q
    rw [List.getElem?_set]
    by_cases hq : q < r.length
    · by_cases e : c = q
      · subst e; simp [hq, List.getD]
      · simp [hq, List.getD, e]
    · rw [List.getElem?_eq_none (by simp; omega)]
      by_cases e : c = q
      · omega
      · rw [if_neg e, List.getElem?_eq_none (by simp; omega)]
  rw [e]
  have e3 : r[c] = v := by rw [List.getElem?_eq_getElem hc] at hv; exact Option.some.inj hv
  exact sum_set_lt (x := rk a b c v) (by simp [hc, List.getD, e3]) h
theorem nM_set {p : Nat} {r r' : List Int} (hr : m[p]? = some r) (h : rkR a b r' < rkR a b r) : nM a b (m.set p r') < nM a b m := by
  unfold nM
  rw [List.map_set]
  exact sum_set_lt (x := rkR a b r) (by rw [List.getElem?_map, hr]; rfl) h
/-- Within a pass: ahead of edge k's clock j. -/
structure NPass (a : AutoD) (N : Nat) (b : Nat → Nat → Int) (m0 : List (List Int)) (k j : Nat) (more : Bool) (m : List (List Int)) : Prop where
  s : LS a N b m
  lt : more = true → nM a b m < nM a b m0
  eq : more = false → m = m0 ∧ (∀ q e, q < k → a.edges[q]? = some e → ∀ c, c < N → nclos m e c) ∧ ∀ e, a.edges[k]? = some e → ∀ c, c < j → nclos m e c
variable {k j : Nat} {more : Bool}
theorem NPass.init (s : LS a N b m) : NPass a N b m 0 0 false m := ⟨s, fun h => (by cases h), fun _ => ⟨rfl, fun q e hq => (by omega), fun e _ c hc => (by omega)⟩⟩
theorem NPass.keep (p : NPass a N b m0 k j more m) {e : EdgeD} (he : a.edges[k]? = some e) (h : nclos m e j) : NPass a N b m0 k (j + 1) more m :=
  ⟨p.s, p.lt, fun hm => ⟨(p.eq hm).1, (p.eq hm).2.1, fun x hx c hc => by
    rw [he] at hx; cases hx
    by_cases e2 : c = j
    · subst e2; exact h
    · exact (p.eq hm).2.2 e he c (by omega)⟩⟩
theorem NPass.step (p : NPass a N b m0 k j more m) {e : EdgeD} (he : a.edges[k]? = some e) {r : List Int} {u v : Int} (hr : m[e.frm.toNat]? = some r) (hu : nget m e.to.toNat j = some u) (hs : setsB ((j : Int) + 1) e.sets = false) (hv : r[j]? = some v) (huv : v < u) :
    NPass a N b m0 k (j + 1) true (m.set e.frm.toNat (r.set j u)) := by
  obtain ⟨i, h1, h2⟩ := p.s.snd _ _ _ hu
  have h4 := nM_set (a := a) (b := b) hr (rkR_set (a := a) (b := b) hv (rk_lt h1.lt h2 huv))
  refine ⟨p.s.step (List.mem_of_getElem? he) hr hu hs hv huv, fun _ => ?_, fun h => (by cases h)⟩
  cases hm : more
  · rw [← (p.eq hm).1]; exact h4
  · have := p.lt hm; omega
theorem NPass.next (p : NPass a N b m0 k N more m) : NPass a N b m0 (k + 1) 0 more m :=
  ⟨p.s, p.lt, fun hm => ⟨(p.eq hm).1, fun q e hq he => by
    by_cases e2 : q = k
    · subst e2; exact (p.eq hm).2.2 e he
    · exact (p.eq hm).2.1 q e (by omega) he, fun e _ c hc => (by omega)⟩⟩
theorem NPass.done (p : NPass a N b m0 a.edges.length j false m) : ∀ e ∈ a.edges, ∀ c, c < N → nclos m e c := fun e he => by
  obtain ⟨q, hq⟩ := List.getElem?_of_mem he
  exact (p.eq rfl).2.1 q e (List.getElem?_eq_some_iff.1 hq).1 hq
/-- The numbers where nothing spreads any more. -/
structure IsLu (a : AutoD) (N : Nat) (b : Nat → Nat → Int) (m : List (List Int)) : Prop where
  s : LS a N b m
  c : ∀ e ∈ a.edges, ∀ c, c < N → nclos m e c
theorem LS.get (s : LS a N b m) {i c : Nat} (hi : i < a.locs.length) (hc : c < N) : ∃ v, nget m i c = some v := by
  have hil : i < m.length := by rw [s.len]; exact hi
  have h1 : m[i]? = some m[i] := List.getElem?_eq_getElem hil
  have h2 := s.row i _ h1
  exact ⟨_, nget_of h1 (List.getElem?_eq_getElem (by omega))⟩
theorem IsLu.le {m' : List (List Int)} (hE : okE a) (p : IsLu a N b m) (q : IsLu a N b m') {i c : Nat} {v w : Int} (hc : c < N) (hv : nget m i c = some v) (hw : nget m' i c = some w) : v ≤ w := by
  obtain ⟨j, h1, h2⟩ := p.s.snd _ _ _ hv
  have key : ∀ i, Rch a ((c : Int) + 1) i j → ∀ w, nget m' i c = some w → b j c ≤ w := by
    intro i h
    clear h1
    induction h with
    | refl hi => exact fun w hw => q.s.ge _ _ _ hw
    | @edge e j he hs _ ih =>
      intro w hw
      obtain ⟨_, t1, t2⟩ := hE e he
      obtain ⟨u, hu⟩ := q.s.get (i := e.to.toNat) (c := c) (by omega) hc
      have h3 := ih h2 u hu
      have h4 := q.c e he c hc u w hu hs hw
      omega
  rw [h2]; exact key i h1 w hw
theorem IsLu.eq {m' : List (List Int)} (hE : okE a) (p : IsLu a N b m) (q : IsLu a N b m') : m = m' := by
  apply List.ext_getElem?
  intro i
  rcases Nat.lt_or_ge i a.locs.length with hi | hi
  · have hil : i < m.length := by rw [p.s.len]; exact hi
    have hil' : i < m'.length := by rw [q.s.len]; exact hi
    have h1 : m[i]? = some m[i] := List.getElem?_eq_getElem hil
    have h2 : m'[i]? = some m'[i] := List.getElem?_eq_getElem hil'
    rw [h1, h2]
    congr 1
    apply List.ext_getElem?
    intro c
    rcases Nat.lt_or_ge c N with hc | hc
    · obtain ⟨v, hv⟩ := p.s.get hi hc
      obtain ⟨w, hw⟩ := q.s.get hi hc
      have e : v = w := Int.le_antisymm (p.le hE q hc hv hw) (q.le hE p hc hw hv)
      subst e
      have e1 : nget m i c = (m[i])[c]? := by unfold nget; rw [h1]; rfl
      have e2 : nget m' i c = (m'[i])[c]? := by unfold nget; rw [h2]; rfl
      rw [← e1, ← e2, hv, hw]
    · rw [List.getElem?_eq_none (by rw [p.s.row i _ h1]; exact hc), List.getElem?_eq_none (by rw [q.s.row i _ h2]; exact hc)]
  · rw [List.getElem?_eq_none (by rw [p.s.len]; exact hi), List.getElem?_eq_none (by rw [q.s.len]; exact hi)]
open Classical in
noncomputable def luM (a : AutoD) (N : Nat) (b : Nat → Nat → Int) : List (List Int) := if h : ∃ m, IsLu a N b m then h.choose else []
theorem IsLu.luM (hE : okE a) (p : IsLu a N b m) : m = Go.Proofs.YtgmlimipejcpgaaGreatDoor.luM a N b := by
  have h : ∃ m, IsLu a N b m := ⟨m, p⟩
  unfold Go.Proofs.YtgmlimipejcpgaaGreatDoor.luM
  rw [dif_pos h]
  exact p.eq hE h.choose_spec
end
end Go.Proofs.YtgmlimipejcpgaaGreatDoor
end

section
set_option linter.unusedVariables false
set_option linter.unusedSimpArgs false
namespace Go.Proofs.YtgmlimipejcpgaaGreatDoor
open Go Go.AM Fx
def idxE (P : SetD → Bool) : List SetD → Nat → Int
  | [], _ => -1
  | s :: r, i => if P s = true then i else idxE P r (i + 1)
theorem idxE_any {P : SetD → Bool} : ∀ {l : List SetD} {i : Nat}, 0 ≤ idxE P l i ↔ anyL P l = true
  | [], i => by simp [idxE, anyL_nil]
  | s :: r, i => by
    rw [idxE, anyL_cons, Bool.or_eq_true]
    by_cases h : P s = true
    · rw [if_pos h]; simp [h]
    · rw [if_neg h, idxE_any]; simp [h]
set_option maxHeartbeats 4000000 in
theorem c_idxSet {h : List B} (hl : HL h) (f : Nat) (C : List V) (hC : V.lts h.length C = true) (P : SetD → Bool) (hf : ∀ s : SetD, GCall Tryz.prog GV f (.agg s.cells :: C) h (fun v h' => v = .bool (P s) ∧ h' = h)) (l : List SetD) (hll : l.length ≤ 1048576) :
    GCall Tryz.prog GV 229 [vl SetD.cells l, .fn (.func f) [] C] h (fun v h' => v = .int .i64 (idxE P l 0) ∧ h' = h) := by
  refine GCall_body Tryz.func229 rfl (by decide) Tryz.ntmps229 (by simp) Tryz.results229 ?_
  repeat' (first
 |refine AW_seq_k fun K hK=>?_|refine Step.by1 ?_|refine SBlock_exit_ne (by decide) ?_|refine cz rfl ?_|refine Fork.by2 (fun h=>?_) fun h=>?_
 |(refine AW_region_AO ?_;simp [vl])
 |(refine Split.by2 (fun h=>?_) (fun h=>?_)<;>(simp [h, vl]))
 |(apply hK;clear hK K)|refine AWh (by assumption) ?_)
  refine AW_loopL [0, 1, 7] (fun i : Nat => [(8, .int .i64 i)]) (fun _ => h) (fun i => i ≤ l.length ∧ idxE P (l.drop i) i = idxE P l 0) (fun i => l.length - i) 0 ⟨Nat.zero_le _, rfl⟩ (Weak.sym (x := []) (by simp) hl (by simp [vl, hC])) (fun _ _ => rfl) ?_
  rintro i ⟨hi, hk⟩
  by_cases hlt : i < l.length
  · obtain ⟨s, hs⟩ : ∃ s, l[i] = s := ⟨_, rfl⟩
    rw [List.drop_eq_getElem_cons hlt, hs, idxE] at hk
    have hlt' : (i : Int) < l.length := by omega
    have w1 : IntKind.i64.wrap ((i : Int) + 1) = i + 1 := wrap_i64 (by omega) (by omega)
    have hc := hf s
    simp only [SetD.cells, vl] at hc
    generalize P s = b at *
    cases b
    · rw [if_neg (by simp)] at hk
      repeat' (first
 |refine AW_seq_k fun K hK=>?_|refine Step.by1 ?_|refine SBlock_exit_ne (by decide) ?_|refine cz rfl ?_|refine Fork.by2 (fun h=>?_) fun h=>?_
 |(refine AW_region_AO ?_;simp [vl, SetD.cells, hlt, hlt', hs, w1])
 |(refine Split.by2 (fun h=>?_) (fun h=>?_)<;>(simp [h, vl, SetD.cells, hlt, hlt', hs, w1]))
 |(refine AS_callG (f := f) rfl rfl hc rfl (fun v h' hq => ?_); obtain ⟨rfl, rfl⟩ := hq; simp)
 |(apply hK;clear hK K)|refine AWh (by assumption) ?_)
      exact ⟨i + 1, ⟨by omega, hk⟩, by omega, Weak.sym (x := []) (by simp) hl (by simp [vl, hC])⟩
    · rw [if_pos rfl] at hk
      repeat' (first
 |refine AW_seq_k fun K hK=>?_|refine Step.by1 ?_|refine SBlock_exit_ne (by decide) ?_|refine cz rfl ?_|refine Fork.by2 (fun h=>?_) fun h=>?_
 |(refine AW_region_AO ?_;simp [vl, SetD.cells, hlt, hlt', hs, w1])
 |(refine Split.by2 (fun h=>?_) (fun h=>?_)<;>(simp [h, vl, SetD.cells, hlt, hlt', hs, w1]))
 |(refine AS_callG (f := f) rfl rfl hc rfl (fun v h' hq => ?_); obtain ⟨rfl, rfl⟩ := hq; simp)
 |(apply hK;clear hK K)|refine AWh (by assumption) ?_)
      exact retg1 ⟨by rw [← hk]; rfl, rfl⟩ rfl (Go.AM.Leaves.sym (Nat.le_refl _) hl)
  · obtain rfl : i = l.length := by omega
    rw [List.drop_length, idxE] at hk
    repeat' (first
 |refine AW_seq_k fun K hK=>?_|refine Step.by1 ?_|refine SBlock_exit_ne (by decide) ?_|refine cz rfl ?_|refine Fork.by2 (fun h=>?_) fun h=>?_
 |(refine AW_region_AO ?_;simp [vl])
 |(refine Split.by2 (fun h=>?_) (fun h=>?_)<;>(simp [h, vl]))
 |(apply hK;clear hK K)|refine AWh (by assumption) ?_)
    exact retg1 ⟨by rw [← hk]; rfl, rfl⟩ rfl (Go.AM.Leaves.sym (Nat.le_refl _) hl)
set_option maxHeartbeats 4000000 in
theorem c_hasSet {h : List B} (hl : HL h) (f : Nat) (C : List V) (hC : V.lts h.length C = true) (P : SetD → Bool) (hf : ∀ s : SetD, GCall Tryz.prog GV f (.agg s.cells :: C) h (fun v h' => v = .bool (P s) ∧ h' = h)) (l : List SetD) (hll : l.length ≤ 1048576) :
    GCall Tryz.prog GV 208 [vl SetD.cells l, .fn (.func f) [] C] h (fun v h' => v = .bool (anyL P l) ∧ h' = h) := by
  have hc := c_idxSet hl f C hC P hf l hll
  have ha := idxE_any (P := P) (l := l) (i := 0)
  generalize idxE P l 0 = k at *
  simp only [vl] at hc
  refine GCall_body Tryz.func208 rfl (by decide) Tryz.ntmps208 (by simp) Tryz.results208 ?_
  by_cases hk : 0 ≤ k
  · rw [ha.1 hk]
    repeat' (first
 |refine AW_seq_k fun K hK=>?_|refine Step.by1 ?_|refine SBlock_exit_ne (by decide) ?_|refine cz rfl ?_|refine Fork.by2 (fun h=>?_) fun h=>?_
 |(refine AW_region_AO ?_;simp [vl, hk])
 |(refine Split.by2 (fun h=>?_) (fun h=>?_)<;>(simp [h, vl, hk]))
 |(refine AS_callG (f := 229) rfl rfl hc rfl (fun v h' hq => ?_); obtain ⟨rfl, rfl⟩ := hq; simp [hk])
 |(apply hK;clear hK K)|refine AWh (by assumption) ?_)
    exact retg1 ⟨rfl, rfl⟩ rfl (Go.AM.Leaves.sym (Nat.le_refl _) hl)
  · have hb : anyL P l = false := by
      cases h : anyL P l
      · rfl
      · exact absurd (ha.2 h) hk
    rw [hb]
    repeat' (first
 |refine AW_seq_k fun K hK=>?_|refine Step.by1 ?_|refine SBlock_exit_ne (by decide) ?_|refine cz rfl ?_|refine Fork.by2 (fun h=>?_) fun h=>?_
 |(refine AW_region_AO ?_;simp [vl, hk])
 |(refine Split.by2 (fun h=>?_) (fun h=>?_)<;>(simp [h, vl, hk]))
 |(refine AS_callG (f := 229) rfl rfl hc rfl (fun v h' hq => ?_); obtain ⟨rfl, rfl⟩ := hq; simp [hk])
 |(apply hK;clear hK K)|refine AWh (by assumption) ?_)
    exact retg1 ⟨rfl, rfl⟩ rfl (Go.AM.Leaves.sym (Nat.le_refl _) hl)
set_option maxHeartbeats 4000000 in
theorem c_spread1 {h : List B} (hl : HL h) {b c : Nat} (hb : h[b]? = some (.var [.int .i64 c])) (hc : c ≤ 1048576) (s : SetD) : GCall Tryz.prog GV 209 [.agg s.cells, .ptr b 0] h (fun v h' => v = .bool (decide (s.clock = (c : Int) + 1)) ∧ h' = h) := by
  have hbl := (List.getElem?_eq_some_iff.1 hb).1
  have w1 : IntKind.i64.wrap ((c : Int) + 1) = c + 1 := wrap_i64 (by omega) (by omega)
  have f0 := fun x : List B => ga0 (h := h) (x := x) rfl
  have f1 := fun x : List B => (get_app (x := x) hbl).trans hb
  refine GCall_body Tryz.func209 rfl (by decide) Tryz.ntmps209 (by simp) Tryz.results209 ?_
  repeat' (first
 |refine AW_seq_k fun K hK=>?_|refine Step.by1 ?_|refine SBlock_exit_ne (by decide) ?_|refine cz rfl ?_|refine Fork.by2 (fun h=>?_) fun h=>?_
 |(refine AW_region_AO ?_;simp [vl, SetD.cells, f0, f1, w1])
 |(refine Split.by2 (fun h=>?_) (fun h=>?_)<;>(simp [h, vl, SetD.cells, f0, f1, w1]))
 |(apply hK;clear hK K)|refine AWh (by assumption) ?_)
  exact retg1 ⟨rfl, rfl⟩ rfl (Leaves.symx (Nat.le_refl _) hl)
end Go.Proofs.YtgmlimipejcpgaaGreatDoor
end

section
set_option linter.unusedVariables false
set_option linter.unusedSimpArgs false
namespace Go.Proofs.YtgmlimipejcpgaaGreatDoor
open Go Go.AM Fx
structure NS where
  k : Nat
  more : Bool
  m : List (List Int)
  hc : List B
set_option maxRecDepth 20000 in
set_option maxHeartbeats 16000000 in
theorem c_luSpread {h : List B} {mr gm N : Nat} {fl : Bool} {ids : List (Nat × Nat)} {m0 : List (List Int)} (p0 : MR 47 3 ivs h mr gm fl ids N m0 h) (a : AutoD) (ha : a.ok) (hE : okE a) (b : Nat → Nat → Int) (hs : LS a N b m0) (hN : N ≤ 1048576) :
    GCall Tryz.prog GV 168 [.ref mr gm 0 ids.length, .agg a.cells] h (fun v h' => ∃ more m', v = .bool more ∧ NPass a N b m0 a.edges.length 0 more m' ∧ MR 47 3 ivs h mr gm fl ids N m' h') := by
  have hal := ha.2.1
  have hae := ha.2.2
  have hids : ids.length = a.locs.length := by rw [← p0.ml, hs.len]
  have hmr : mr < h.length := (List.getElem?_eq_some_iff.1 p0.mr).1
  have hml : (mrefs ids N).length = ids.length := by simp [mrefs]
  have hl3 : ∀ {m : List (List Int)} {hc : List B} {e : EdgeD}, MR 47 3 ivs h mr gm fl ids N m hc → HL (hc ++ [B.var a.cells, B.var e.cells]) := fun hm => hm.hl.app (by simp [AutoD.cells, EdgeD.cells, vl])
  refine GCall_body Tryz.func168 rfl (by decide) Tryz.ntmps168 (by simp) Tryz.results168 ?_
  repeat' (first
 |refine AW_seq_k fun K hK=>?_|refine Step.by1 ?_|refine SBlock_exit_ne (by decide) ?_|refine cz rfl ?_|refine Fork.by2 (fun h=>?_) fun h=>?_
 |(refine AW_region_AO ?_;simp [vl, AutoD.cells])
 |(refine Split.by2 (fun h=>?_) (fun h=>?_)<;>(simp [h, vl, AutoD.cells]))
 |(apply hK;clear hK K)|refine AWh (by assumption) ?_)
  refine AW_loopL [0, 12, 13] (fun s : NS => [(5, .bool s.more), (14, .int .i64 s.k)]) (fun s => s.hc ++ [B.var a.cells]) (fun s => s.k ≤ a.edges.length ∧ NPass a N b m0 s.k 0 s.more s.m ∧ MR 47 3 ivs h mr gm fl ids N s.m s.hc) (fun s => a.edges.length - s.k) ⟨0, false, m0, h⟩ ⟨Nat.zero_le _, .init hs, p0⟩
    (Weak.sym (x := []) (by simp [AutoD.cells, vl]) (p0.hl.app (by simp [AutoD.cells, vl])) (by simp [vl, AutoD.cells]; omega)) (fun s hs => by simp [hs.2.2.len]) ?_
  rintro ⟨k, more, m, hc⟩ ⟨hk, hp, hm⟩
  simp only at hk hp hm
  have hlen := hm.len
  have g0 := fun x : List B => ga0 (x := x) hlen
  have g1 := fun (x : List B) (k : Nat) => ga1 (x := x) (k := k) hlen
  have gr : ∀ x : List B, (hc ++ x)[mr]? = some (.row 47 gm 0 fl (mrefs ids N)) := fun x => by rw [get_app (by omega)]; exact hm.mr
  by_cases hkt : k < a.edges.length
  · obtain ⟨e, he⟩ : ∃ e, a.edges[k] = e := ⟨_, rfl⟩
    have he' : a.edges[k]? = some e := by rw [List.getElem?_eq_getElem hkt, he]
    have hem := List.mem_of_getElem? he'
    obtain ⟨⟨f1, f2⟩, t1, t2⟩ := hE e hem
    obtain ⟨p, hpp⟩ := Int.eq_ofNat_of_zero_le f1
    obtain ⟨q, hqq⟩ := Int.eq_ofNat_of_zero_le t1
    have hes := (hae.2 e hem).2.2.2.2.2.2.1
    have hkt' : (k : Int) < a.edges.length := by omega
    have w1 : IntKind.i64.wrap ((k : Int) + 1) = k + 1 := wrap_i64 (by omega) (by omega)
    have hpl : p < ids.length := by omega
    have hql : q < ids.length := by omega
    have hpl' : (p : Int) < ids.length := by omega
    have hql' : (q : Int) < ids.length := by omega
    obtain ⟨xf, hxf, hmp⟩ := hm.at hpl
    obtain ⟨xt, hxt, hmq⟩ := hm.at hql
    have hxl : xt.1 < h.length := by obtain ⟨_, _, _, h3⟩ := hm.rows q xt hxt; rw [← hlen]; exact (List.getElem?_eq_some_iff.1 h3).1
    repeat' (first
 |refine AW_seq_k fun K hK=>?_|refine Step.by1 ?_|refine SBlock_exit_ne (by decide) ?_|refine cz rfl ?_|refine Fork.by2 (fun h=>?_) fun h=>?_
 |(refine AW_region_AO ?_;simp [vl, AutoD.cells, EdgeD.cells, hkt, hkt', he, hpp, hqq, hlen, g0, g1, gr, hml, hql, hql', hmq])
 |(refine Split.by2 (fun h=>?_) (fun h=>?_)<;>(simp [h, vl, AutoD.cells, EdgeD.cells, hkt, hkt', he, hpp, hqq, hlen, g0, g1, gr, hml, hql, hql', hmq]))
 |(apply hK;clear hK K)|refine AWh (by assumption) ?_)
    refine AW_loopL [0, 7, 12, 13, 14, 22, 23] (fun s : NS => [(5, .bool s.more), (24, .int .i64 s.k)]) (fun s => s.hc ++ [B.var a.cells, B.var e.cells]) (fun s => s.k ≤ N ∧ NPass a N b m0 k s.k s.more s.m ∧ MR 47 3 ivs h mr gm fl ids N s.m s.hc) (fun s => N - s.k) ⟨0, more, m, hc⟩ ⟨Nat.zero_le _, hp, hm⟩
      (Weak.sym (x := []) (by simp [AutoD.cells, EdgeD.cells, vl, hpp, hqq]) (hl3 hm) (by simp [vl, AutoD.cells, EdgeD.cells, hlen]; omega)) (fun s hs => by simp [hs.2.2.len, hlen]) ?_
    clear hp hm hlen g0 g1 gr
    rintro ⟨j, more, m, hc⟩ ⟨hj, hp, hm⟩
    simp only at hj hp hm
    have hlen := hm.len
    have g0 := fun x : List B => ga0 (x := x) hlen
    have g1 := fun (x : List B) (k : Nat) => ga1 (x := x) (k := k) hlen
    have gr : ∀ x : List B, (hc ++ x)[mr]? = some (.row 47 gm 0 fl (mrefs ids N)) := fun x => by rw [get_app (by omega)]; exact hm.mr
    by_cases hjt : j < N
    · obtain ⟨rt, hrt, hrtl, ht⟩ := hm.rows q xt hxt
      obtain ⟨rf, hrf, hrfl, hf⟩ := hm.rows p xf hxf
      have htl := (List.getElem?_eq_some_iff.1 ht).1
      have hfl := (List.getElem?_eq_some_iff.1 hf).1
      have gt : ∀ x : List B, (hc ++ x)[xt.1]? = some (.row 3 xt.2 0 true (ivs rt)) := fun x => by rw [get_app htl]; exact ht
      have gf : ∀ x : List B, (hc ++ x)[xf.1]? = some (.row 3 xf.2 0 true (ivs rf)) := fun x => by rw [get_app hfl]; exact hf
      have sf : ∀ (x : List B) (y : B), (hc ++ x).set xf.1 y = hc.set xf.1 y ++ x := fun x y => set_app hfl
      have hjt' : (j : Int) < N := by omega
      have w2 : IntKind.i64.wrap ((j : Int) + 1) = j + 1 := wrap_i64 (by omega) (by omega)
      obtain ⟨v, hv⟩ : ∃ v, rf[j]? = some v := ⟨_, List.getElem?_eq_getElem (by omega)⟩
      obtain ⟨u, hu⟩ : ∃ u, rt[j]? = some u := ⟨_, List.getElem?_eq_getElem (by omega)⟩
      have hcl : (ivs rt).length = N := by simp [ivs, hrtl]
      have hcl2 : (ivs rf).length = N := by simp [ivs, hrfl]
      have hct : (ivs rt)[j]'(by omega) = [V.int .i64 u] := by rw [List.getElem_eq_iff]; simp [ivs, hu]
      have hcf : (ivs rf)[j]'(by omega) = [V.int .i64 v] := by rw [List.getElem_eq_iff]; simp [ivs, hv]
      have hbs : (ivs rf).set j [V.int .i64 u] = ivs (rf.set j u) := by simp [ivs, List.map_set]
      have hpt : e.frm.toNat = p := by omega
      have hqt : e.to.toNat = q := by omega
      have mt : nget m e.to.toNat j = some u := nget_of (r := rt) (by rw [hqt]; exact hrt) hu
      have mf : nget m e.frm.toNat j = some v := nget_of (r := rf) (by rw [hpt]; exact hrf) hv
      have hk1 := hp.keep he'
      have hk2 := fun hsb huv => hp.step he' (r := rf) (by rw [hpt]; exact hrf) mt hsb hv huv
      rw [hpt] at hk2
      have hHl : HL (hc ++ [B.var a.cells, B.var e.cells, B.var [.int .i64 j]]) := hm.hl.app (by simp [AutoD.cells, EdgeD.cells, vl])
      have hb3 : (hc ++ [B.var a.cells, B.var e.cells, B.var [.int .i64 j]])[h.length + 2]? = some (.var [.int .i64 j]) := g1 _ 2
      have hcon := c_hasSet hHl 209 [.ptr (h.length + 2) 0] (by simp [hlen]) (fun s => decide (s.clock = (j : Int) + 1)) (fun s => c_spread1 hHl hb3 (by omega) s) e.sets hes
      have hsbe : anyL (fun s : SetD => decide (s.clock = (j : Int) + 1)) e.sets = setsB ((j : Int) + 1) e.sets := rfl
      rw [hsbe] at hcon
      obtain ⟨sb, hsb⟩ : ∃ sb, setsB ((j : Int) + 1) e.sets = sb := ⟨_, rfl⟩
      rw [hsb] at hcon hk2
      simp only [AutoD.cells, EdgeD.cells, vl, hpp, hqq] at hcon
      have hncl : (sb = true ∨ ¬ v < u) → nclos m e j := fun hor x y hx hs2 hy => by
        rw [mt] at hx; rw [mf] at hy; cases hx; cases hy
        rw [hsb] at hs2
        rcases hor with h | h
        · rw [h] at hs2; cases hs2
        · omega
      by_cases hall : sb = false ∧ v < u
      · obtain ⟨rfl, huv⟩ := hall
        have hm' := hm.upd hxf (r := rf.set j u) (by simp [hrfl])
        have hlen' : (hc.set xf.1 (B.row 3 xf.2 0 true (ivs (rf.set j u)))).length = h.length := hm'.len
        repeat' (first
 |refine AW_seq_k fun K hK=>?_|refine Step.by1 ?_|refine SBlock_exit_ne (by decide) ?_|refine cz rfl ?_|refine Fork.by2 (fun h=>?_) fun h=>?_
 |((first|refine AW_region_AO ?_|refine AW_region_APx (id:=9) 14 mixed (by decide) ?_|refine AW_region_APx (id:=10) 8 mixed (by decide) ?_);simp [vl, AutoD.cells, EdgeD.cells, hpp, hqq, hlen, g0, g1, gr, gt, gf, sf, hml, hpl, hpl', hmp, hjt, hjt', w2, hcl, hcl2, hct, hcf, hbs, huv])
 |(refine Split.by2 (fun h=>?_) (fun h=>?_)<;>(simp [h, vl, AutoD.cells, EdgeD.cells, hpp, hqq, hlen, g0, g1, gr, gt, gf, sf, hml, hpl, hpl', hmp, hjt, hjt', w2, hcl, hcl2, hct, hcf, hbs, huv]))
 |(refine AS_callG (f := 208) rfl rfl hcon rfl (fun v h' hq => ?_); obtain ⟨rfl, rfl⟩ := hq; simp [hlen, g0, g1])
 |(apply hK;clear hK K)|refine AWh (by assumption) ?_)
        exact ⟨⟨j + 1, true, m.set p (rf.set j u), hc.set xf.1 (.row 3 xf.2 0 true (ivs (rf.set j u)))⟩, ⟨by show j + 1 ≤ _; omega, hk2 rfl huv, hm'⟩, by show _ - (j + 1) < _ - j; omega, Weak.sym (x := [B.var [.int .i64 j]]) (by simp [vl, AutoD.cells, EdgeD.cells]) (hm'.hl.app (by simp [AutoD.cells, EdgeD.cells, vl])) (by simp [vl, AutoD.cells, EdgeD.cells, hlen']; omega)⟩
      · have hor : sb = true ∨ ¬ v < u := by
          cases sb
          · exact .inr fun h => hall ⟨rfl, h⟩
          · exact .inl rfl
        have hkk := hk1 (hncl hor)
        cases sb
        · have huv : ¬ v < u := fun h => hall ⟨rfl, h⟩
          repeat' (first
 |refine AW_seq_k fun K hK=>?_|refine Step.by1 ?_|refine SBlock_exit_ne (by decide) ?_|refine cz rfl ?_|refine Fork.by2 (fun h=>?_) fun h=>?_
 |((first|refine AW_region_AO ?_|refine AW_region_APx (id:=9) 14 mixed (by decide) ?_);simp [vl, AutoD.cells, EdgeD.cells, hpp, hqq, hlen, g0, g1, gr, gt, gf, hml, hpl, hpl', hmp, hjt, hjt', w2, hcl, hcl2, hct, hcf, huv])
 |(refine Split.by2 (fun h=>?_) (fun h=>?_)<;>(simp [h, vl, AutoD.cells, EdgeD.cells, hpp, hqq, hlen, g0, g1, gr, gt, gf, hml, hpl, hpl', hmp, hjt, hjt', w2, hcl, hcl2, hct, hcf, huv]))
 |(refine AS_callG (f := 208) rfl rfl hcon rfl (fun v h' hq => ?_); obtain ⟨rfl, rfl⟩ := hq; simp [hlen, g0, g1])
 |(apply hK;clear hK K)|refine AWh (by assumption) ?_)
          exact ⟨⟨j + 1, more, m, hc⟩, ⟨by show j + 1 ≤ _; omega, hkk, hm⟩, by show _ - (j + 1) < _ - j; omega, Weak.sym (x := [B.var [.int .i64 j]]) (by simp [vl, AutoD.cells, EdgeD.cells]) (hm.hl.app (by simp [AutoD.cells, EdgeD.cells, vl])) (by simp [vl, AutoD.cells, EdgeD.cells, hlen]; omega)⟩
        · repeat' (first
 |refine AW_seq_k fun K hK=>?_|refine Step.by1 ?_|refine SBlock_exit_ne (by decide) ?_|refine cz rfl ?_|refine Fork.by2 (fun h=>?_) fun h=>?_
 |((first|refine AW_region_AO ?_|refine AW_region_APx (id:=9) 14 mixed (by decide) ?_);simp [vl, AutoD.cells, EdgeD.cells, hpp, hqq, hlen, g0, g1, gr, gt, gf, hml, hpl, hpl', hmp, hjt, hjt', w2, hcl, hcl2, hct, hcf])
 |(refine Split.by2 (fun h=>?_) (fun h=>?_)<;>(simp [h, vl, AutoD.cells, EdgeD.cells, hpp, hqq, hlen, g0, g1, gr, gt, gf, hml, hpl, hpl', hmp, hjt, hjt', w2, hcl, hcl2, hct, hcf]))
 |(refine AS_callG (f := 208) rfl rfl hcon rfl (fun v h' hq => ?_); obtain ⟨rfl, rfl⟩ := hq; simp [hlen, g0, g1])
 |(apply hK;clear hK K)|refine AWh (by assumption) ?_)
          exact ⟨⟨j + 1, more, m, hc⟩, ⟨by show j + 1 ≤ _; omega, hkk, hm⟩, by show _ - (j + 1) < _ - j; omega, Weak.sym (x := [B.var [.int .i64 j]]) (by simp [vl, AutoD.cells, EdgeD.cells]) (hm.hl.app (by simp [AutoD.cells, EdgeD.cells, vl])) (by simp [vl, AutoD.cells, EdgeD.cells, hlen]; omega)⟩
    · obtain rfl : j = N := by omega
      repeat' (first
 |refine AW_seq_k fun K hK=>?_|refine Step.by1 ?_|refine SBlock_exit_ne (by decide) ?_|refine cz rfl ?_|refine Fork.by2 (fun h=>?_) fun h=>?_
 |(refine AW_region_AO ?_;simp [vl, AutoD.cells, EdgeD.cells, w1])
 |(refine Split.by2 (fun h=>?_) (fun h=>?_)<;>(simp [h, vl, AutoD.cells, EdgeD.cells, w1]))
 |(apply hK;clear hK K)|refine AWh (by assumption) ?_)
      exact ⟨⟨k + 1, more, m, hc⟩, ⟨by show k + 1 ≤ _; omega, hp.next, hm⟩, by show _ - (k + 1) < _ - k; omega, Weak.sym (x := [B.var e.cells]) (by simp [vl, AutoD.cells, EdgeD.cells, hpp, hqq]) (hm.hl.app (by simp [AutoD.cells, vl])) (by simp [vl, AutoD.cells, EdgeD.cells, hlen]; omega)⟩
  · obtain rfl : k = a.edges.length := by omega
    repeat' (first
 |refine AW_seq_k fun K hK=>?_|refine Step.by1 ?_|refine SBlock_exit_ne (by decide) ?_|refine cz rfl ?_|refine Fork.by2 (fun h=>?_) fun h=>?_
 |(refine AW_region_AO ?_;simp [vl, AutoD.cells])
 |(refine Split.by2 (fun h=>?_) (fun h=>?_)<;>(simp [h, vl, AutoD.cells]))
 |(apply hK;clear hK K)|refine AWh (by assumption) ?_)
    exact retg1 ⟨more, m, rfl, hp, hm⟩ rfl (Leaves.symx (by omega) hm.hl)
end Go.Proofs.YtgmlimipejcpgaaGreatDoor
end

section
set_option linter.unusedVariables false
set_option linter.unusedSimpArgs false
namespace Go.Proofs.YtgmlimipejcpgaaGreatDoor
open Go Go.AM Fx
theorem wrap_u64 (n : Int) : IntKind.u64.wrap n = n % 18446744073709551616 := by
  unfold IntKind.wrap; simp [IntKind.bits, IntKind.signed]
theorem and_mask (x : Int) (hx : 0 ≤ x) (hx' : x < 18446744073709551616) : bits .and .u64 x 4294967295 = x % 4294967296 := by
  have h : (BitVec.ofInt 64 x &&& BitVec.ofInt 64 4294967295).toNat = (x % 4294967296).toNat := by
    have h1 : BitVec.ofInt 64 4294967295 = 4294967295#64 := by decide
    rw [h1, BitVec.toNat_and]
    have h2 : (4294967295#64).toNat = 2 ^ 32 - 1 := by decide
    rw [h2, Nat.and_two_pow_sub_one_eq_mod, BitVec.toNat_ofInt]
    omega
  show IntKind.u64.wrap ((BitVec.ofInt 64 x &&& BitVec.ofInt 64 4294967295).toNat : Int) = x % 4294967296
  rw [h, wrap_u64]
  omega
theorem shr32 (x : Int) : x.fdiv (2 ^ min 32 IntKind.u64.bits) = x / 4294967296 := by
  have : (2 : Int) ^ min 32 IntKind.u64.bits = 4294967296 := by decide
  rw [this, Int.fdiv_eq_ediv_of_nonneg _ (by decide)]
theorem mul_lt {a b n : Int} (ha : 0 ≤ a) (hb : 0 ≤ b) (ha' : a ≤ n) (hb' : b ≤ n) : 0 ≤ a * b ∧ a * b ≤ n * n :=
  ⟨Int.mul_nonneg ha hb, Int.mul_le_mul ha' hb' hb (by omega)⟩
theorem mul64_law (x y : Int) (hx : 0 ≤ x) (hx' : x < 18446744073709551616) (hy : 0 ≤ y) (hy' : y < 18446744073709551616) :
    ((x / 4294967296) * (y / 4294967296) % 18446744073709551616 + ((x / 4294967296) * (y % 4294967296) % 18446744073709551616 + (x % 4294967296) * (y % 4294967296) % 18446744073709551616 / 4294967296) % 18446744073709551616 / 4294967296) % 18446744073709551616 +
      (((x / 4294967296) * (y % 4294967296) % 18446744073709551616 + (x % 4294967296) * (y % 4294967296) % 18446744073709551616 / 4294967296) % 18446744073709551616 % 4294967296 + (x % 4294967296) * (y / 4294967296) % 18446744073709551616) % 18446744073709551616 / 4294967296 = x * y / 18446744073709551616 := by
  have h1 : x = x / 4294967296 * 4294967296 + x % 4294967296 := by omega
  have h2 : y = y / 4294967296 * 4294967296 + y % 4294967296 := by omega
  have b1 : 0 ≤ x / 4294967296 ∧ x / 4294967296 ≤ 4294967295 := by omega
  have b2 : 0 ≤ x % 4294967296 ∧ x % 4294967296 ≤ 4294967295 := by omega
  have b3 : 0 ≤ y / 4294967296 ∧ y / 4294967296 ≤ 4294967295 := by omega
  have b4 : 0 ≤ y % 4294967296 ∧ y % 4294967296 ≤ 4294967295 := by omega
  generalize x / 4294967296 = a at *
  generalize x % 4294967296 = b at *
  generalize y / 4294967296 = c at *
  generalize y % 4294967296 = d at *
  have hxy : x * y = a * c * 18446744073709551616 + (a * d + b * c) * 4294967296 + b * d := by
    rw [h1, h2]
    have e : (18446744073709551616 : Int) = 4294967296 * 4294967296 := by decide
    rw [e]
    generalize (4294967296 : Int) = m
    simp only [Int.add_mul, Int.mul_add, Int.mul_assoc, Int.mul_left_comm, Int.mul_comm, Int.add_assoc, Int.add_left_comm, Int.add_comm]
  have p1 := mul_lt b1.1 b3.1 b1.2 b3.2
  have p2 := mul_lt b1.1 b4.1 b1.2 b4.2
  have p3 := mul_lt b2.1 b3.1 b2.2 b3.2
  have p4 := mul_lt b2.1 b4.1 b2.2 b4.2
  rw [hxy]
  generalize a * c = s at *
  generalize a * d = q at *
  generalize b * c = r at *
  generalize b * d = p at *
  clear h1 h2 hxy b1 b2 b3 b4 hx hx' hy hy'
  omega
theorem mul_hi (x y : Int) (hx : 0 ≤ x) (hx' : x < 18446744073709551616) (hy : 0 ≤ y) (hy' : y < 18446744073709551616) : 0 ≤ x * y ∧ x * y ≤ 340282366920938463426481119284349108225 :=
  mul_lt (n := 18446744073709551615) hx hy (by omega) (by omega)
theorem c_mul64 (x y : Int) (hx : 0 ≤ x) (hx' : x < 18446744073709551616) (hy : 0 ≤ y) (hy' : y < 18446744073709551616) : PC 228 [.int .u64 x, .int .u64 y] (.tup [.int .u64 (x * y / 18446744073709551616), .int .u64 (x * y % 18446744073709551616)]) := by
  refine PCall_body Tryz.func228 rfl (by decide) Tryz.ntmps228 (by simp) Tryz.results228 ?_
  repeat' (first
 |refine AW_seq_k fun K hK=>?_|refine Step.by1 ?_|refine SBlock_exit_ne (by decide) ?_|refine cz rfl ?_|refine Fork.by2 (fun h=>?_) fun h=>?_
 |(refine AW_region_AO ?_;simp)
 |(refine Split.by2 (fun h=>?_) (fun h=>?_)<;>(simp [h]))
 |(apply hK;clear hK K)|refine AWh (by assumption) ?_)
  refine retq2 (conv_eq ?_ rfl)
  simp [and_mask x hx hx', and_mask y hy hy', shr32, wrap_u64]
  rw [and_mask _ (by omega) (by omega)]
  have hl := mul64_law x y hx hx' hy hy'
  have hm := mul_hi x y hx hx' hy hy'
  omega
set_option maxHeartbeats 4000000 in
theorem c_bitsMul (x y : Int) (hx : 0 ≤ x) (hx' : x < 18446744073709551616) (hy : 0 ≤ y) (hy' : y < 18446744073709551616) : PC 207 [.int .u64 x, .int .u64 y] (.tup [.int .u64 (x * y / 18446744073709551616), .int .u64 (x * y % 18446744073709551616)]) := by
  have hc := c_mul64 x y hx hx' hy hy'
  refine PCall_body Tryz.func207 rfl (by decide) Tryz.ntmps207 (by simp) Tryz.results207 ?_
  repeat' (first
 |refine AW_seq_k fun K hK=>?_|refine Step.by1 ?_|refine SBlock_exit_ne (by decide) ?_|refine cz rfl ?_|refine Fork.by2 (fun h=>?_) fun h=>?_
 |((first|refine AW_region_AO ?_|refine AS_call1 (f:=228) rfl rfl (hc) rfl rfl rfl ?_);simp)
 |(refine Split.by2 (fun h=>?_) (fun h=>?_)<;>(simp [h]))
 |(apply hK;clear hK K)|refine AWh (by assumption) ?_)
  exact retq2 (conv_eq rfl rfl)
end Go.Proofs.YtgmlimipejcpgaaGreatDoor
end

section
set_option linter.unusedVariables false
set_option linter.unusedSimpArgs false
namespace Go.AM
end Go.AM
end
