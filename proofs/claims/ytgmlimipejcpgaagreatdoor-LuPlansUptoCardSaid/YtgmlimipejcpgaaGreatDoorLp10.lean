/-
  YtgmlimipejcpgaaGreatDoorLp10: steps of the proof of a law of the program: what these texts prove holds under the hypotheses that their theorems name, and no others.
-/
import Derived.Test.YtgmlimipejcpgaaGreatDoorLp09
import Derived.Test.YtgmlimipejcpgaaGreatDoorCo35
section
set_option linter.unusedSimpArgs false
set_option linter.unusedVariables false
namespace Go.Proofs.YtgmlimipejcpgaaGreatDoor
open Go Go.AM Fx
def outB (m : Int) : Bool := decide (m < -1 ∨ 1048576 < m)
theorem c_out (m : Int) : PC 183 [.int .i64 m] (.bool (outB m)) := by
  refine pB Tryz.func183 rfl (by decide) Tryz.ntmps183 (by simp) Tryz.results183 ?_
  repeat' (first
 |refine aK fun K hK=>?_|refine Step.by1 ?_|refine sE (by decide) ?_|refine cz rfl ?_|refine Fork.by2 (fun h=>?_) fun h=>?_
 |(refine aR ?_;simp)
 |(refine Split.by2 (fun h=>?_) (fun h=>?_)<;>(simp [h]))
 |(apply hK;clear hK K)|refine AWh ‹_› ?_)
  all_goals first
    | exact r1q (cE (by simp [outB, *]; done) rfl)
    | exact r1q (cE (by simp [outB, *]; omega) rfl)
def idxL (P : Int → Bool) : List Int → Nat → Int
  | [], _ => -1
  | s :: r, i => if P s = true then i else idxL P r (i + 1)
theorem idxL_any {P : Int → Bool} : ∀ {l : List Int} {i : Nat}, 0 ≤ idxL P l i ↔ anyL P l = true
  | [], i => by simp [idxL, anyL_nil]
  | s :: r, i => by
    rw [idxL, anC, Bool.or_eq_true]
    by_cases h : P s = true
    · rw [if_pos h]; simp [h]
    · rw [if_neg h, idxL_any]; simp [h]
set_option maxHeartbeats 4000000 in
theorem c_idxInt (f : Nat) (P : Int → Bool) (hf : ∀ s : Int, PC f [.int .i64 s] (.bool (P s))) (l : List Int) (hll : l.length ≤ 1048576) :
    PC 214 [.vec (ivs l) l.length, .fn (.func f) [] []] (.int .i64 (idxL P l 0)) := by
  refine pB Tryz.func214 rfl (by decide) Tryz.ntmps214 (by simp) Tryz.results214 ?_
  repeat' (first
 |refine aK fun K hK=>?_|refine Step.by1 ?_|refine sE (by decide) ?_|refine cz rfl ?_|refine Fork.by2 (fun h=>?_) fun h=>?_
 |(refine aR ?_;simp [ivs])
 |(refine Split.by2 (fun h=>?_) (fun h=>?_)<;>(simp [h, ivs]))
 |(apply hK;clear hK K)|refine AWh ‹_› ?_)
  refine aL [0, 1, 7] (fun i : Nat => [(8, .int .i64 i)]) (fun _ => []) (fun i => i ≤ l.length ∧ idxL P (l.drop i) i = idxL P l 0) (fun i => l.length - i) 0 ⟨Nat.zero_le _, rfl⟩ (by apply Weak.mk' <;> simp [ivs]) (fun _ _ => rfl) ?_
  rintro i ⟨hi, hk⟩
  by_cases hlt : i < l.length
  · obtain ⟨s, hs⟩ : ∃ s, l[i] = s := ⟨_, rfl⟩
    rw [List.drop_eq_getElem_cons hlt, hs, idxL] at hk
    have hlt' : (i : Int) < l.length := by omega
    have w1 : IntKind.i64.wrap ((i : Int) + 1) = i + 1 := wI (by omega) (by omega)
    have hc := hf s
    generalize P s = b at *
    cases b
    · rw [if_neg (by simp)] at hk
      repeat' (first
 |refine aK fun K hK=>?_|refine Step.by1 ?_|refine sE (by decide) ?_|refine cz rfl ?_|refine Fork.by2 (fun h=>?_) fun h=>?_
 |(refine aR ?_;simp [ivs, hlt, hlt', hs, w1])
 |(refine Split.by2 (fun h=>?_) (fun h=>?_)<;>(simp [h, ivs, hlt, hlt', hs, w1]))
 |(refine aC (f := f) rfl rfl hc rfl rfl rfl ?_; simp [hs])
 |(apply hK;clear hK K)|refine AWh ‹_› ?_)
      refine ⟨i + 1, ⟨by omega, hk⟩, by omega, ?_⟩
      apply Weak.mk' <;> simp [ivs]
    · rw [if_pos rfl] at hk
      repeat' (first
 |refine aK fun K hK=>?_|refine Step.by1 ?_|refine sE (by decide) ?_|refine cz rfl ?_|refine Fork.by2 (fun h=>?_) fun h=>?_
 |(refine aR ?_;simp [ivs, hlt, hlt', hs, w1])
 |(refine Split.by2 (fun h=>?_) (fun h=>?_)<;>(simp [h, ivs, hlt, hlt', hs, w1]))
 |(refine aC (f := f) rfl rfl hc rfl rfl rfl ?_; simp [hs])
 |(apply hK;clear hK K)|refine AWh ‹_› ?_)
      exact r1q (cE (by simp [← hk]) rfl)
  · obtain rfl : i = l.length := by omega
    rw [List.drop_length, idxL] at hk
    repeat' (first
 |refine aK fun K hK=>?_|refine Step.by1 ?_|refine sE (by decide) ?_|refine cz rfl ?_|refine Fork.by2 (fun h=>?_) fun h=>?_
 |(refine aR ?_;simp [ivs])
 |(refine Split.by2 (fun h=>?_) (fun h=>?_)<;>(simp [h, ivs]))
 |(apply hK;clear hK K)|refine AWh ‹_› ?_)
    exact r1q (cE (by simp [← hk]) rfl)
set_option maxHeartbeats 4000000 in
theorem c_hasInt (f : Nat) (P : Int → Bool) (hf : ∀ s : Int, PC f [.int .i64 s] (.bool (P s))) (l : List Int) (hll : l.length ≤ 1048576) :
    PC 182 [.vec (ivs l) l.length, .fn (.func f) [] []] (.bool (anyL P l)) := by
  have hc := c_idxInt f P hf l hll
  have ha := idxL_any (P := P) (l := l) (i := 0)
  generalize idxL P l 0 = k at *
  generalize ivs l = L at *
  refine pB Tryz.func182 rfl (by decide) Tryz.ntmps182 (by simp) Tryz.results182 ?_
  by_cases hk : 0 ≤ k
  · rw [ha.1 hk]
    repeat' (first
 |refine aK fun K hK=>?_|refine Step.by1 ?_|refine sE (by decide) ?_|refine cz rfl ?_|refine Fork.by2 (fun h=>?_) fun h=>?_
 |((first|refine aR ?_|refine aC (f:=214) rfl rfl (hc) rfl rfl rfl ?_);simp [hk])
 |(refine Split.by2 (fun h=>?_) (fun h=>?_)<;>(simp [h, hk]))
 |(apply hK;clear hK K)|refine AWh ‹_› ?_)
    exact r1q (cE rfl rfl)
  · have hb : anyL P l = false := by
      cases h : anyL P l
      · rfl
      · exact absurd (ha.2 h) hk
    rw [hb]
    repeat' (first
 |refine aK fun K hK=>?_|refine Step.by1 ?_|refine sE (by decide) ?_|refine cz rfl ?_|refine Fork.by2 (fun h=>?_) fun h=>?_
 |((first|refine aR ?_|refine aC (f:=214) rfl rfl (hc) rfl rfl rfl ?_);simp [hk])
 |(refine Split.by2 (fun h=>?_) (fun h=>?_)<;>(simp [h, hk]))
 |(apply hK;clear hK K)|refine AWh ‹_› ?_)
    exact r1q (cE rfl rfl)
def rowOk (N : Nat) (r : List Int) : Bool := decide (r.length = N) && !anyL outB r
set_option maxHeartbeats 8000000 in
theorem g_eqLocs {h : List B} (hl : HL h) {b : Nat} {cs : List V} (hb : h[b]? = some (.var cs)) (f : Nat) (p : LocD → List Int → Bool) (l : List LocD) (m : List (List Int))
    (hf : ∀ (H : List B), HL H → H[b]? = some (.var cs) → ∀ a ∈ l, ∀ r ∈ m, GCall Tryz.prog GV f [.agg a.cells, .vec (ivs r) r.length, .ptr b 0] H (fun v h' => v = .bool (p a r) ∧ h' = H)) (hll : l.length ≤ 1048576) :
    GCall Tryz.prog GV 180 [vl LocD.cells l, .vec (rows2V m) m.length, .fn (.func f) [] [.ptr b 0]] h (fun v h' => v = .bool (eqF p l m) ∧ h' = h) := by
  have hrl : (rows2V m).length = m.length := by simp
  have hbl := (List.getElem?_eq_some_iff.1 hb).1
  have g0 := fun x : List B => ga0 (h := h) (x := x) rfl
  by_cases hlen : l.length = m.length
  · have hlen' : (l.length : Int) = m.length := by omega
    refine gB1 Tryz.func180 rfl (by decide) Tryz.ntmps180 (by simp) Tryz.results180 ?_
    repeat' (first
 |refine aK fun K hK=>?_|refine Step.by1 ?_|refine sE (by decide) ?_|refine cz rfl ?_|refine Fork.by2 (fun h=>?_) fun h=>?_
 |(refine aR ?_;simp [vl, hlen, hlen'])
 |(refine Split.by2 (fun h=>?_) (fun h=>?_)<;>(simp [h, vl, hlen, hlen']))
 |(apply hK;clear hK K)|refine AWh ‹_› ?_)
    refine aL [1, 2, 15, 16] (fun i : Nat => [(17, .int .i64 i)]) (fun _ => h) (fun i => i ≤ l.length ∧ eqF p (l.drop i) (m.drop i) = eqF p l m) (fun i => l.length - i) 0 ⟨Nat.zero_le _, rfl⟩ (Weak.sym (x := []) (by simp) hl (by simp [hbl, hlen])) (fun _ _ => rfl) ?_
    rintro i ⟨hi, hk⟩
    by_cases hlt : i < l.length
    · obtain ⟨a, haa⟩ : ∃ a, l[i] = a := ⟨_, rfl⟩
      have hlm : i < m.length := by omega
      obtain ⟨r, hrr⟩ : ∃ r, m[i] = r := ⟨_, rfl⟩
      rw [List.drop_eq_getElem_cons hlt, List.drop_eq_getElem_cons hlm, haa, hrr, eqF] at hk
      have hlt' : (i : Int) < l.length := by omega
      have hlm' : (i : Int) < m.length := by omega
      have w1 : IntKind.i64.wrap ((i : Int) + 1) = i + 1 := wI (by omega) (by omega)
      have c2 := rows2V_get (P := m) (i := i) (by rw [List.getElem?_eq_getElem hlm, hrr])
      have c3 : (rows2V m)[i]'(by omega) = [.vec (ivs r) r.length] := by rw [List.getElem?_eq_getElem (by omega)] at c2; exact Option.some.inj c2
      have hH : HL (h ++ [B.var a.cells]) := hl.push (by simp [LocD.cells, vl])
      have hc := hf (h ++ [B.var a.cells]) hH (by rw [List.getElem?_append_left hbl]; exact hb) a (haa ▸ List.getElem_mem hlt) r (hrr ▸ List.getElem_mem hlm)
      simp only [LocD.cells, vl] at hc
      generalize p a r = q at *
      cases q
      · rw [Bool.false_and] at hk
        repeat' (first
 |refine aK fun K hK=>?_|refine Step.by1 ?_|refine sE (by decide) ?_|refine cz rfl ?_|refine Fork.by2 (fun h=>?_) fun h=>?_
 |(refine aR ?_;simp [vl, LocD.cells, hlt, hlt', hlm, hlm', haa, c2, c3, w1, hrl, g0, hlen])
 |(refine Split.by2 (fun h=>?_) (fun h=>?_)<;>(simp [h, vl, LocD.cells, hlt, hlt', hlm, hlm', haa, c2, c3, w1, hrl, g0, hlen]))
 |(refine aG (f := f) rfl rfl hc rfl (fun v h' hq => ?_); obtain ⟨rfl, rfl⟩ := hq; simp [g0])
 |(apply hK;clear hK K)|refine AWh ‹_› ?_)
        exact retg1 ⟨by rw [← hk]; rfl, rfl⟩ rfl (Go.Proofs.YtgmlimipejcpgaaGreatDoor.Leaves.symx (Nat.le_refl _) hl)
      · rw [Bool.true_and] at hk
        repeat' (first
 |refine aK fun K hK=>?_|refine Step.by1 ?_|refine sE (by decide) ?_|refine cz rfl ?_|refine Fork.by2 (fun h=>?_) fun h=>?_
 |(refine aR ?_;simp [vl, LocD.cells, hlt, hlt', hlm, hlm', haa, c2, c3, w1, hrl, g0, hlen])
 |(refine Split.by2 (fun h=>?_) (fun h=>?_)<;>(simp [h, vl, LocD.cells, hlt, hlt', hlm, hlm', haa, c2, c3, w1, hrl, g0, hlen]))
 |(refine aG (f := f) rfl rfl hc rfl (fun v h' hq => ?_); obtain ⟨rfl, rfl⟩ := hq; simp [g0])
 |(apply hK;clear hK K)|refine AWh ‹_› ?_)
        exact ⟨i + 1, ⟨by omega, hk⟩, by omega, Weak.sym (x := [B.var a.cells]) (by simp [LocD.cells, vl]) hl (by simp [hbl, hlen])⟩
    · obtain rfl : i = l.length := by omega
      rw [List.drop_length, hlen, List.drop_length, eqF] at hk
      repeat' (first
 |refine aK fun K hK=>?_|refine Step.by1 ?_|refine sE (by decide) ?_|refine cz rfl ?_|refine Fork.by2 (fun h=>?_) fun h=>?_
 |(refine aR ?_;simp [vl, hlen])
 |(refine Split.by2 (fun h=>?_) (fun h=>?_)<;>(simp [h, vl, hlen]))
 |(apply hK;clear hK K)|refine AWh ‹_› ?_)
      exact retg1 ⟨by rw [← hk]; rfl, rfl⟩ rfl (Go.AM.Leaves.sym (Nat.le_refl _) hl)
  · have hlen' : ¬ (l.length : Int) = m.length := by omega
    rw [eqF_ne hlen]
    refine gB1 Tryz.func180 rfl (by decide) Tryz.ntmps180 (by simp) Tryz.results180 ?_
    repeat' (first
 |refine aK fun K hK=>?_|refine Step.by1 ?_|refine sE (by decide) ?_|refine cz rfl ?_|refine Fork.by2 (fun h=>?_) fun h=>?_
 |(refine aR ?_;simp [vl, hlen, hlen'])
 |(refine Split.by2 (fun h=>?_) (fun h=>?_)<;>(simp [h, vl, hlen, hlen']))
 |(apply hK;clear hK K)|refine AWh ‹_› ?_)
    exact retg1 ⟨rfl, rfl⟩ rfl (Go.AM.Leaves.sym (Nat.le_refl _) hl)
set_option maxHeartbeats 8000000 in
theorem g_rowRight {H : List B} (hH : HL H) (n : NetD) {b : Nat} (hb : H[b]? = some (.var n.cells)) (a : LocD) (r : List Int) (hr : r.length ≤ 1048576) :
    GCall Tryz.prog GV 181 [.agg a.cells, .vec (ivs r) r.length, .ptr b 0] H (fun v h' => v = .bool (rowOk n.clocks.length r) ∧ h' = H) := by
  have hbl := (List.getElem?_eq_some_iff.1 hb).1
  have hc := c_hasInt 183 outB c_out r hr
  have hn : (H ++ [B.var a.cells])[b]? = some (.var n.cells) := by rw [List.getElem?_append_left hbl]; exact hb
  unfold rowOk
  generalize anyL outB r = q at *
  generalize ivs r = R at *
  simp only [LocD.cells, NetD.cells, vl] at hn hb ⊢
  refine gB1 Tryz.func181 rfl (by decide) Tryz.ntmps181 (by simp) Tryz.results181 ?_
  by_cases hk : r.length = n.clocks.length
  · have hk' : (r.length : Int) = n.clocks.length := by omega
    rw [hk] at hc
    repeat' (first
 |refine aK fun K hK=>?_|refine Step.by1 ?_|refine sE (by decide) ?_|refine cz rfl ?_|refine Fork.by2 (fun h=>?_) fun h=>?_
 |((first|refine aR ?_|refine aC (f:=182) rfl rfl (hc) rfl rfl rfl ?_);simp [hn, hk, hk'])
 |(refine Split.by2 (fun h=>?_) (fun h=>?_)<;>(simp [h, hn, hk, hk']))
 |(apply hK;clear hK K)|refine AWh ‹_› ?_)
    exact retg1 ⟨by simp [hk], rfl⟩ rfl (Go.Proofs.YtgmlimipejcpgaaGreatDoor.Leaves.symx (Nat.le_refl _) hH)
  · have hk' : ¬ (r.length : Int) = n.clocks.length := by omega
    repeat' (first
 |refine aK fun K hK=>?_|refine Step.by1 ?_|refine sE (by decide) ?_|refine cz rfl ?_|refine Fork.by2 (fun h=>?_) fun h=>?_
 |((first|refine aR ?_|refine aC (f:=182) rfl rfl (hc) rfl rfl rfl ?_);simp [hn, hk, hk'])
 |(refine Split.by2 (fun h=>?_) (fun h=>?_)<;>(simp [h, hn, hk, hk']))
 |(apply hK;clear hK K)|refine AWh ‹_› ?_)
    exact retg1 ⟨by simp [hk], rfl⟩ rfl (Go.Proofs.YtgmlimipejcpgaaGreatDoor.Leaves.symx (Nat.le_refl _) hH)
def locsOk (N : Nat) (a : AutoD) (Q : List (List Int)) : Bool := eqF (fun _ r => rowOk N r) a.locs Q
set_option maxHeartbeats 8000000 in
theorem g_eqAutos {h : List B} (hl : HL h) {b : Nat} {cs : List V} (hb : h[b]? = some (.var cs)) (f : Nat) (p : AutoD → List (List Int) → Bool) (l : List AutoD) (m : List (List (List Int)))
    (hf : ∀ (H : List B), HL H → H[b]? = some (.var cs) → ∀ a ∈ l, ∀ r ∈ m, GCall Tryz.prog GV f [.agg a.cells, .vec (rows2V r) r.length, .ptr b 0] H (fun v h' => v = .bool (p a r) ∧ h' = H)) (hll : l.length ≤ 1048576) :
    GCall Tryz.prog GV 178 [vl AutoD.cells l, .vec (rows3V m) m.length, .fn (.func f) [] [.ptr b 0]] h (fun v h' => v = .bool (eqF p l m) ∧ h' = h) := by
  have hrl : (rows3V m).length = m.length := by simp
  have hbl := (List.getElem?_eq_some_iff.1 hb).1
  have g0 := fun x : List B => ga0 (h := h) (x := x) rfl
  by_cases hlen : l.length = m.length
  · have hlen' : (l.length : Int) = m.length := by omega
    refine gB1 Tryz.func178 rfl (by decide) Tryz.ntmps178 (by simp) Tryz.results178 ?_
    repeat' (first
 |refine aK fun K hK=>?_|refine Step.by1 ?_|refine sE (by decide) ?_|refine cz rfl ?_|refine Fork.by2 (fun h=>?_) fun h=>?_
 |(refine aR ?_;simp [vl, hlen, hlen'])
 |(refine Split.by2 (fun h=>?_) (fun h=>?_)<;>(simp [h, vl, hlen, hlen']))
 |(apply hK;clear hK K)|refine AWh ‹_› ?_)
    refine aL [1, 2, 15, 16] (fun i : Nat => [(17, .int .i64 i)]) (fun _ => h) (fun i => i ≤ l.length ∧ eqF p (l.drop i) (m.drop i) = eqF p l m) (fun i => l.length - i) 0 ⟨Nat.zero_le _, rfl⟩ (Weak.sym (x := []) (by simp) hl (by simp [hbl, hlen])) (fun _ _ => rfl) ?_
    rintro i ⟨hi, hk⟩
    by_cases hlt : i < l.length
    · obtain ⟨a, haa⟩ : ∃ a, l[i] = a := ⟨_, rfl⟩
      have hlm : i < m.length := by omega
      obtain ⟨r, hrr⟩ : ∃ r, m[i] = r := ⟨_, rfl⟩
      rw [List.drop_eq_getElem_cons hlt, List.drop_eq_getElem_cons hlm, haa, hrr, eqF] at hk
      have hlt' : (i : Int) < l.length := by omega
      have hlm' : (i : Int) < m.length := by omega
      have w1 : IntKind.i64.wrap ((i : Int) + 1) = i + 1 := wI (by omega) (by omega)
      have c2 := rows3V_get (P := m) (i := i) (by rw [List.getElem?_eq_getElem hlm, hrr])
      have c3 : (rows3V m)[i]'(by omega) = [.vec (rows2V r) r.length] := by rw [List.getElem?_eq_getElem (by omega)] at c2; exact Option.some.inj c2
      have hH : HL (h ++ [B.var a.cells]) := hl.push (by simp [AutoD.cells, vl])
      have hc := hf (h ++ [B.var a.cells]) hH (by rw [List.getElem?_append_left hbl]; exact hb) a (haa ▸ List.getElem_mem hlt) r (hrr ▸ List.getElem_mem hlm)
      simp only [AutoD.cells, vl] at hc
      generalize p a r = q at *
      cases q
      · rw [Bool.false_and] at hk
        repeat' (first
 |refine aK fun K hK=>?_|refine Step.by1 ?_|refine sE (by decide) ?_|refine cz rfl ?_|refine Fork.by2 (fun h=>?_) fun h=>?_
 |(refine aR ?_;simp [vl, AutoD.cells, hlt, hlt', hlm, hlm', haa, c2, c3, w1, hrl, g0, hlen])
 |(refine Split.by2 (fun h=>?_) (fun h=>?_)<;>(simp [h, vl, AutoD.cells, hlt, hlt', hlm, hlm', haa, c2, c3, w1, hrl, g0, hlen]))
 |(refine aG (f := f) rfl rfl hc rfl (fun v h' hq => ?_); obtain ⟨rfl, rfl⟩ := hq; simp [g0])
 |(apply hK;clear hK K)|refine AWh ‹_› ?_)
        exact retg1 ⟨by rw [← hk]; rfl, rfl⟩ rfl (Go.Proofs.YtgmlimipejcpgaaGreatDoor.Leaves.symx (Nat.le_refl _) hl)
      · rw [Bool.true_and] at hk
        repeat' (first
 |refine aK fun K hK=>?_|refine Step.by1 ?_|refine sE (by decide) ?_|refine cz rfl ?_|refine Fork.by2 (fun h=>?_) fun h=>?_
 |(refine aR ?_;simp [vl, AutoD.cells, hlt, hlt', hlm, hlm', haa, c2, c3, w1, hrl, g0, hlen])
 |(refine Split.by2 (fun h=>?_) (fun h=>?_)<;>(simp [h, vl, AutoD.cells, hlt, hlt', hlm, hlm', haa, c2, c3, w1, hrl, g0, hlen]))
 |(refine aG (f := f) rfl rfl hc rfl (fun v h' hq => ?_); obtain ⟨rfl, rfl⟩ := hq; simp [g0])
 |(apply hK;clear hK K)|refine AWh ‹_› ?_)
        exact ⟨i + 1, ⟨by omega, hk⟩, by omega, Weak.sym (x := [B.var a.cells]) (by simp [AutoD.cells, vl]) hl (by simp [hbl, hlen])⟩
    · obtain rfl : i = l.length := by omega
      rw [List.drop_length, hlen, List.drop_length, eqF] at hk
      repeat' (first
 |refine aK fun K hK=>?_|refine Step.by1 ?_|refine sE (by decide) ?_|refine cz rfl ?_|refine Fork.by2 (fun h=>?_) fun h=>?_
 |(refine aR ?_;simp [vl, hlen])
 |(refine Split.by2 (fun h=>?_) (fun h=>?_)<;>(simp [h, vl, hlen]))
 |(apply hK;clear hK K)|refine AWh ‹_› ?_)
      exact retg1 ⟨by rw [← hk]; rfl, rfl⟩ rfl (Go.AM.Leaves.sym (Nat.le_refl _) hl)
  · have hlen' : ¬ (l.length : Int) = m.length := by omega
    rw [eqF_ne hlen]
    refine gB1 Tryz.func178 rfl (by decide) Tryz.ntmps178 (by simp) Tryz.results178 ?_
    repeat' (first
 |refine aK fun K hK=>?_|refine Step.by1 ?_|refine sE (by decide) ?_|refine cz rfl ?_|refine Fork.by2 (fun h=>?_) fun h=>?_
 |(refine aR ?_;simp [vl, hlen, hlen'])
 |(refine Split.by2 (fun h=>?_) (fun h=>?_)<;>(simp [h, vl, hlen, hlen']))
 |(apply hK;clear hK K)|refine AWh ‹_› ?_)
    exact retg1 ⟨rfl, rfl⟩ rfl (Go.AM.Leaves.sym (Nat.le_refl _) hl)
set_option maxHeartbeats 8000000 in
theorem g_halfRight {H : List B} (hH : HL H) (n : NetD) {b : Nat} (hb : H[b]? = some (.var n.cells)) (a : AutoD) (hal : a.locs.length ≤ 1048576) (Q : List (List Int)) (hQ : ∀ r ∈ Q, r.length ≤ 1048576) :
    GCall Tryz.prog GV 179 [.agg a.cells, .vec (rows2V Q) Q.length, .ptr b 0] H (fun v h' => v = .bool (locsOk n.clocks.length a Q) ∧ h' = H) := by
  have hbl := (List.getElem?_eq_some_iff.1 hb).1
  have hn : (H ++ [B.var a.cells])[b]? = some (.var n.cells) := by rw [List.getElem?_append_left hbl]; exact hb
  have hH2 : HL (H ++ [B.var a.cells]) := hH.push (by simp [AutoD.cells, vl])
  have hc := g_eqLocs hH2 hn 181 (fun _ r => rowOk n.clocks.length r) a.locs Q (fun H' hl' hb' x _ r hr => g_rowRight hl' n hb' x r (hQ r hr)) hal
  have g0 := fun x : List B => ga0 (h := H) (x := x) rfl
  unfold locsOk
  generalize eqF (fun _ r => rowOk n.clocks.length r) a.locs Q = q at *
  generalize rows2V Q = R at *
  simp only [AutoD.cells, vl] at hc ⊢
  refine gB1 Tryz.func179 rfl (by decide) Tryz.ntmps179 (by simp) Tryz.results179 ?_
  repeat' (first
 |refine aK fun K hK=>?_|refine Step.by1 ?_|refine sE (by decide) ?_|refine cz rfl ?_|refine Fork.by2 (fun h=>?_) fun h=>?_
 |(refine aR ?_;simp [g0, hbl])
 |(refine Split.by2 (fun h=>?_) (fun h=>?_)<;>(simp [h, g0, hbl]))
 |(refine aG (f := 180) rfl rfl hc rfl (fun v h' hq => ?_); obtain ⟨rfl, rfl⟩ := hq; simp)
 |(apply hK;clear hK K)|refine AWh ‹_› ?_)
  exact retg1 ⟨rfl, rfl⟩ rfl (Go.Proofs.YtgmlimipejcpgaaGreatDoor.Leaves.symx (Nat.le_refl _) hH)
def halfOk (n : NetD) (P : List (List (List Int))) : Bool := eqF (fun a Q => locsOk n.clocks.length a Q) n.autos P
set_option maxHeartbeats 8000000 in
theorem c_luright (n : NetD) (hn : n.ok) (P : List (List (List Int))) (hP : planOk P) : PC 121 [.agg n.cells, halfV P] (.bool (halfOk n P)) := by
  have hH : HL [B.var n.cells] := by simp [HL, NetD.cells, vl]
  have hal := hn.2.2.2.1
  have hc := g_eqAutos (h := [B.var n.cells]) hH (b := 0) rfl 179 (fun a Q => locsOk n.clocks.length a Q) n.autos P (fun H' hl' hb' a ha Q hQ => g_halfRight hl' n hb' a (by have := (hn.2.2.2.2 a ha).2.1.1; omega) Q (hP.2 Q hQ).2) (by omega)
  unfold halfOk halfV
  generalize eqF (fun a Q => locsOk n.clocks.length a Q) n.autos P = q at *
  generalize rows3V P = R at *
  simp only [NetD.cells, vl] at hc ⊢
  refine pB Tryz.func121 rfl (by decide) Tryz.ntmps121 (by simp) Tryz.results121 ?_
  repeat' (first
 |refine aK fun K hK=>?_|refine Step.by1 ?_|refine sE (by decide) ?_|refine cz rfl ?_|refine Fork.by2 (fun h=>?_) fun h=>?_
 |(refine aR ?_;simp)
 |(refine Split.by2 (fun h=>?_) (fun h=>?_)<;>(simp [h]))
 |(refine aG (f := 178) rfl rfl hc rfl (fun v h' hq => ?_); obtain ⟨rfl, rfl⟩ := hq; simp)
 |(apply hK;clear hK K)|refine AWh ‹_› ?_)
  exact r1q (cE rfl rfl)
def rightPE (n : NetD) (P1 P2 : List (List (List Int))) : Bool := decide (wholeE n = 0) && halfOk n P1 && halfOk n P2
set_option maxHeartbeats 8000000 in
theorem c_luRight (n : NetD) (hn : n.ok) (P1 P2 : List (List (List Int))) (h1 : planOk P1) (h2 : planOk P2) : PC 50 [.agg n.cells, .agg [halfV P1, halfV P2]] (.bool (rightPE n P1 P2)) := by
  have hc := c_netRight n hn
  have c1 := c_luright n hn P1 h1
  have c2 := c_luright n hn P2 h2
  unfold rightPE
  generalize decide (wholeE n = 0) = b0 at *
  generalize halfOk n P1 = b1 at *
  generalize halfOk n P2 = b2 at *
  simp only [NetD.cells, vl, halfV] at hc c1 c2 ⊢
  generalize rows3V P1 = R1 at *
  generalize rows3V P2 = R2 at *
  refine pB Tryz.func50 rfl (by decide) Tryz.ntmps50 (by simp) Tryz.results50 ?_
  cases b0
  · repeat' (first
 |refine aK fun K hK=>?_|refine Step.by1 ?_|refine sE (by decide) ?_|refine cz rfl ?_|refine Fork.by2 (fun h=>?_) fun h=>?_
 |((first|refine aR ?_|refine aC (f:=120) rfl rfl (hc) rfl rfl rfl ?_);simp)
 |(refine Split.by2 (fun h=>?_) (fun h=>?_)<;>(simp [h]))
 |(apply hK;clear hK K)|refine AWh ‹_› ?_)
    exact r1q (cE rfl rfl)
  · cases b1
    · repeat' (first
 |refine aK fun K hK=>?_|refine Step.by1 ?_|refine sE (by decide) ?_|refine cz rfl ?_|refine Fork.by2 (fun h=>?_) fun h=>?_
 |((first|refine aR ?_|refine aC (f:=120) rfl rfl (hc) rfl rfl rfl ?_|refine aC (f:=121) rfl rfl (c1) rfl rfl rfl ?_);simp)
 |(refine Split.by2 (fun h=>?_) (fun h=>?_)<;>(simp [h]))
 |(apply hK;clear hK K)|refine AWh ‹_› ?_)
      exact r1q (cE rfl rfl)
    · repeat' (first
 |refine aK fun K hK=>?_|refine Step.by1 ?_|refine sE (by decide) ?_|refine cz rfl ?_|refine Fork.by2 (fun h=>?_) fun h=>?_
 |((first|refine aR ?_|refine aC (f:=120) rfl rfl (hc) rfl rfl rfl ?_|refine aC (f:=121) rfl rfl (c1) rfl rfl rfl ?_|refine aC (f:=121) rfl rfl (c2) rfl rfl rfl ?_);simp)
 |(refine Split.by2 (fun h=>?_) (fun h=>?_)<;>(simp [h]))
 |(apply hK;clear hK K)|refine AWh ‹_› ?_)
      exact r1q (cE rfl rfl)
theorem smallA_E : okE smallA := by
  intro e he
  simp [smallA, smallN] at he
  subst he
  simp [smallA, smallN]
theorem luM_small (so : Int → Bool) : luM smallA 1 (luB smallA 1 so []) = (List.range 2).map (luBase smallA 1 so []) := by
  refine (IsLu.luM smallA_E ⟨L3.ls ⟨by simp [smallA, smallN], fun i hi => ?_⟩, fun e he c hc u v hu hs hv => ?_⟩).symm
  · have hi2 : i < 2 := hi
    simp [hi2, luBase]
  · exfalso
    simp [smallA, smallN] at he
    subst he
    have : c = 0 := by omega
    subst this
    revert hs; decide
theorem base_smallL : (List.range 2).map (luBase smallA 1 lowB []) = [[3], [-1]] := by kernel_rfl
theorem base_smallU : (List.range 2).map (luBase smallA 1 upB []) = [[5], [-1]] := by kernel_rfl
theorem luP_smallL : luP smallN lowB [] = [[[3], [-1]]] := by
  have : luP smallN lowB [] = [luM smallA 1 (luB smallA 1 lowB [])] := rfl
  rw [this, luM_small, base_smallL]
theorem luP_smallU : luP smallN upB [] = [[[5], [-1]]] := by
  have : luP smallN upB [] = [luM smallA 1 (luB smallA 1 upB [])] := rfl
  rw [this, luM_small, base_smallU]
theorem luAt_small0 (so : Int → Bool) : luAtL smallN so 0 0 [] = (luM smallA 1 (luB smallA 1 so [])).getD 0 [] := by
  have h : ¬ badLoc smallN 0 0 := by unfold badLoc; decide
  unfold luAtL
  rw [if_neg (by simp [look_small]), if_neg h]; rfl
theorem luAt_small1 (so : Int → Bool) : luAtL smallN so 0 1 [] = (luM smallA 1 (luB smallA 1 so [])).getD 1 [] := by
  have h : ¬ badLoc smallN 0 1 := by unfold badLoc; decide
  unfold luAtL
  rw [if_neg (by simp [look_small]), if_neg h]; rfl
theorem luAt_s0L : luAtL smallN lowB 0 0 [] = [3] := by rw [luAt_small0, luM_small, base_smallL]; rfl
theorem luAt_s0U : luAtL smallN upB 0 0 [] = [5] := by rw [luAt_small0, luM_small, base_smallU]; rfl
theorem luAt_s1L : luAtL smallN lowB 0 1 [] = [-1] := by rw [luAt_small1, luM_small, base_smallL]; rfl
theorem luAt_s1U : luAtL smallN upB 0 1 [] = [-1] := by rw [luAt_small1, luM_small, base_smallU]; rfl
theorem luP_ok {n : NetD} (hn : n.ok) {so : Int → Bool} {gs : List (List PartD)} : planOk (luP n so gs) := by
  refine ⟨by simp [luP]; exact hn.2.2.2.1, fun Q hQ => ?_⟩
  obtain ⟨a, ha, rfl⟩ := List.mem_map.1 hQ
  have hl := (hn.2.2.2.2 a ha).2.1.1
  refine ⟨by rw [luM_len]; omega, fun r hr => ?_⟩
  obtain ⟨i, hi⟩ := List.getElem?_of_mem hr
  rw [(luM_ok (a := a) (N := n.clocks.length) (so := so) (gs := gs)).s.row i r hi]
  have := hn.1.1; omega
theorem c_luPlanF (n : NetD) (hn : n.ok) (gs : List (List PartD)) (hgl : gs.length ≤ 1048576) (hgs : ∀ g ∈ gs, okGoal g) (he : lookE n gs = 0) :
    PC 38 [.agg n.cells, gsV gs] (.tup [.agg [halfV (luP n lowB gs), halfV (luP n upB gs)], .int .i64 0]) :=
  PCall_of_GCall (c_luPlan n hn gs hgl hgs he (h := []) (by simp [HL])) fun v h' ⟨b1, g1, f1, T1, b2, g2, f2, T2, hv, hO, p1, p2, _⟩ => .inl ⟨5, by
    rw [hv]
    show _ = V.tup [V.agg [Go.AM.frz h' 3 (.ref b1 g1 0 T1.length), Go.AM.frz h' 3 (.ref b2 g2 0 T2.length)], Go.AM.frz h' 4 (.int .i64 0)]
    rw [p1.frz, p2.frz]
    rfl, rfl⟩
set_option maxRecDepth 20000 in
set_option maxHeartbeats 4000000 in
theorem c_small26 : PC 108 [] (.agg smallN.cells) := by
  have h : PC 108 [] (.agg [.vec [[.str ⟨#[120]⟩]] 1, .nils, .nils, .vec [[.str ⟨#[65]⟩, .vec [[.str ⟨#[97]⟩, .int .u8 0, .vec [[.int .i64 1, .int .i64 0, .int .u8 2, .int .i64 5]] 1], [.str ⟨#[98]⟩, .int .u8 0, .nils]] 2, .vec [[.int .i64 0, .int .i64 1, .vec [[.int .i64 1, .int .i64 0, .int .u8 4, .int .i64 3]] 1, .nils, .int .i64 0, .bool false, .vec [[.int .i64 1, .int .i64 0, .int .i64 0, .nils]] 1]] 1]] 1]) := by
    refine pB Tryz.func108 rfl (by decide) Tryz.ntmps108 (by simp) Tryz.results108 ?_
    repeat' (first
 |(refine AW_region_AOL (id := 1) ?_;simp)
 |refine aK fun K hK=>?_|refine Step.by1 ?_|refine sE (by decide) ?_|refine cz rfl ?_|refine Fork.by2 (fun h=>?_) fun h=>?_
 |(refine aR ?_;simp)
 |(refine Split.by2 (fun h=>?_) (fun h=>?_)<;>(simp [h]))
 |(apply hK;clear hK K)|refine AWh ‹_› ?_)
    exact retqc rfl (by simp) (cE (by simp) (by simp))
  exact h.dnr rfl rfl (fun _ _ h => by cases h) (fun _ h => by cases h)
theorem right_small1 : rightPE smallN [[[3], [-1]]] [[[5], [-1]]] = true := by kernel_rfl
theorem right_small0 : rightPE smallN [] [] = false := by kernel_rfl
set_option maxRecDepth 20000 in
set_option maxHeartbeats 4000000 in
theorem c_live26 : PC 40 [] (.bool true) := by
  have h0 := c_small26
  have h1 := c_luAt smallN small_ok 0 0 [] (by simp) (by simp)
  have h2 := c_luAt smallN small_ok 0 1 [] (by simp) (by simp)
  have h3 := c_luPlanF smallN small_ok [] (by simp) (by simp) look_small
  have h4 := c_luRight smallN small_ok [[[3], [-1]]] [[[5], [-1]]] (by simp [planOk]) (by simp [planOk])
  have h5 := c_luRight smallN small_ok [] [] (by simp [planOk]) (by simp [planOk])
  rw [luAt_s0L, luAt_s0U, clks_small0.2] at h1
  rw [luAt_s1L, luAt_s1U, clks_small1.2] at h2
  rw [luP_smallL, luP_smallU] at h3
  rw [right_small1] at h4
  rw [right_small0] at h5
  have h1' := PCall.denil (args := [.agg smallN.cells, .int .i64 0, .int .i64 0, .nils]) h1 rfl
  have h2' := PCall.denil (args := [.agg smallN.cells, .int .i64 0, .int .i64 1, .nils]) h2 rfl
  have h3' := PCall.denil (args := [.agg smallN.cells, .nils]) h3 rfl
  have h5' := PCall.dn (args := [.agg smallN.cells, .agg [.nils, .nils]]) h5 rfl
  have s3 := c_SameInts [3] (by simp)
  have s5 := c_SameInts [5] (by simp)
  have s1 := c_SameInts [-1] (by simp)
  clear h1 h2 h3 h5
  have hcs : smallN.cells = [.vec [[.str ⟨#[120]⟩]] 1, .vec [] 0, .vec [] 0, .vec [[.str ⟨#[65]⟩, .vec [[.str ⟨#[97]⟩, .int .u8 0, .vec [[.int .i64 1, .int .i64 0, .int .u8 2, .int .i64 5]] 1], [.str ⟨#[98]⟩, .int .u8 0, .vec [] 0]] 2, .vec [[.int .i64 0, .int .i64 1, .vec [[.int .i64 1, .int .i64 0, .int .u8 4, .int .i64 3]] 1, .vec [] 0, .int .i64 0, .bool false, .vec [[.int .i64 1, .int .i64 0, .int .i64 0, .vec [] 0]] 1]] 1]] 1] := rfl
  simp only [halfV, rows3V, rows2V, ivs, isV, List.map_cons, List.map_nil, List.length_cons, List.length_nil, Nat.zero_add] at h1' h2' h3' h4 s3 s5 s1
  rw [hcs] at h0 h1' h2' h3' h4 h5'
  refine pB Tryz.func40 rfl (by decide) Tryz.ntmps40 (by simp) Tryz.results40 ?_
  repeat' (first
 |refine aK fun K hK=>?_|refine Step.by1 ?_|refine sE (by decide) ?_|refine cz rfl ?_|refine Fork.by2 (fun h=>?_) fun h=>?_
 |((first|refine aR ?_|refine aX (id:=4) 42 mixed (by decide) ?_|refine aC (f:=108) rfl rfl (h0) rfl rfl rfl ?_|refine aP1 (f:=108) rfl rfl (h0) rfl rfl rfl ?_|refine AS_callT (f:=36) rfl rfl (h1') rfl rfl ?_|refine AS_callT (f:=36) rfl rfl (h2') rfl rfl ?_|refine aC (f:=38) rfl rfl (h3') rfl rfl rfl ?_|refine aP1 (f:=50) rfl rfl (h4) rfl rfl rfl ?_|refine aP1 (f:=50) rfl rfl (h5') rfl rfl rfl ?_);simp)
 |(refine Split.by2 (fun h=>?_) (fun h=>?_)<;>(simp [h]))
 |(refine AP_lit rfl (by simp) ?_;simp)
 |(refine AP_scall (f:=26) rfl ?_ (s3) rfl rfl rfl ?_;(focus (first|rfl|(simp [seenV];done)));simp)
 |(refine AP_scall (f:=26) rfl ?_ (s5) rfl rfl rfl ?_;(focus (first|rfl|(simp [seenV];done)));simp)
 |(refine AP_scall (f:=26) rfl ?_ (s1) rfl rfl rfl ?_;(focus (first|rfl|(simp [seenV];done)));simp)
 |(apply hK;clear hK K)|refine AWh ‹_› ?_)
  exact r1q (cE rfl rfl)
structure PlaceD where
  au : Int
  lo : Int
def PlaceD.ok (p : PlaceD) : Prop := I64 p.au ∧ I64 p.lo
def PlaceD.cells (p : PlaceD) : List V := [.int .i64 p.au, .int .i64 p.lo]
@[simp] theorem PlaceD.cells_len (x : PlaceD) : x.cells.length = 2 := rfl
end Go.Proofs.YtgmlimipejcpgaaGreatDoor
end
