/-
  YtgmlimipejcpgaaGreatDoorLj30: steps of the proof of a law of the program: what these texts prove holds under the hypotheses that their theorems name, and no others.
-/
import Derived.Test.YtgmlimipejcpgaaGreatDoorLj29
import Derived.Test.YtgmlimipejcpgaaGreatDoorLj20
import Derived.Test.YtgmlimipejcpgaaGreatDoorLj25
section
set_option linter.unusedSimpArgs false
set_option linter.unusedVariables false
namespace Go.Proofs.YtgmlimipejcpgaaGreatDoor
open Go Go.AM Fx
def eqF {α β : Type} (p : α → β → Bool) : List α → List β → Bool
  | [], [] => true
  | x :: r, y :: s => p x y && eqF p r s
  | _, _ => false
theorem eqF_ne {α β : Type} {p : α → β → Bool} : ∀ {l : List α} {m : List β}, ¬ l.length = m.length → eqF p l m = false
  | [], [], h => absurd rfl h
  | [], _ :: _, _ => rfl
  | _ :: _, [], _ => rfl
  | x :: r, y :: s, h => by rw [eqF, eqF_ne (fun e => h (by simp [e])), Bool.and_false]
theorem eqF_iff {α β : Type} {p : α → β → Bool} : ∀ {l : List α} {m : List β}, eqF p l m = true ↔ l.length = m.length ∧ ∀ (i : Nat) (a : α) (r : β), l[i]? = some a → m[i]? = some r → p a r = true
  | [], [] => by simp [eqF]
  | [], _ :: _ => by simp [eqF]
  | _ :: _, [] => by simp [eqF]
  | x :: r, y :: s => by
    rw [eqF, Bool.and_eq_true, eqF_iff]
    constructor
    · rintro ⟨h1, h2, h3⟩
      refine ⟨by simp [h2], fun i a b ha hb => ?_⟩
      rcases i with _ | i
      · simp at ha hb; subst ha; subst hb; exact h1
      · exact h3 i a b (by simpa using ha) (by simpa using hb)
    · rintro ⟨h2, h3⟩
      exact ⟨h3 0 x y rfl rfl, by simpa using h2, fun i a b ha hb => h3 (i + 1) a b (by simpa using ha) (by simpa using hb)⟩
def outB (m : Int) : Bool := decide (m < -1 ∨ 1048576 < m)
theorem c_out (m : Int) : PC 183 [.int .i64 m] (.bool (outB m)) := by
  refine pB Tryz.func183 rfl (by decide) Tryz.ntmps183 (by simp) Tryz.results183 ?_
  repeat' (first
 |refine aK fun K hK=>?_|refine Step.by1 ?_|refine sE (by decide) ?_|refine cz rfl ?_|refine Fork.by2 (fun h=>?_) fun h=>?_
 |(refine aR ?_;simp)
 |(refine Split.by2 (fun h=>?_) (fun h=>?_)<;>(simp [h]))
 |(apply hK;clear hK K)|refine AWh ‹_› ?_)
  all_goals first
    | exact r1q (cE (by simp [outB, *]; done) rfl)
    | exact r1q (cE (by simp [outB, *]; omega) rfl)
def idxL (P : Int → Bool) : List Int → Nat → Int
  | [], _ => -1
  | s :: r, i => if P s = true then i else idxL P r (i + 1)
theorem idxL_any {P : Int → Bool} : ∀ {l : List Int} {i : Nat}, 0 ≤ idxL P l i ↔ anyL P l = true
  | [], i => by simp [idxL, anyL_nil]
  | s :: r, i => by
    rw [idxL, anC, Bool.or_eq_true]
    by_cases h : P s = true
    · rw [if_pos h]; simp [h]
    · rw [if_neg h, idxL_any]; simp [h]
set_option maxHeartbeats 4000000 in
theorem c_idxInt (f : Nat) (P : Int → Bool) (hf : ∀ s : Int, PC f [.int .i64 s] (.bool (P s))) (l : List Int) (hll : l.length ≤ 1048576) :
    PC 214 [.vec (ivs l) l.length, .fn (.func f) [] []] (.int .i64 (idxL P l 0)) := by
  refine pB Tryz.func214 rfl (by decide) Tryz.ntmps214 (by simp) Tryz.results214 ?_
  repeat' (first
 |refine aK fun K hK=>?_|refine Step.by1 ?_|refine sE (by decide) ?_|refine cz rfl ?_|refine Fork.by2 (fun h=>?_) fun h=>?_
 |(refine aR ?_;simp [ivs])
 |(refine Split.by2 (fun h=>?_) (fun h=>?_)<;>(simp [h, ivs]))
 |(apply hK;clear hK K)|refine AWh ‹_› ?_)
  refine aL [0, 1, 7] (fun i : Nat => [(8, .int .i64 i)]) (fun _ => []) (fun i => i ≤ l.length ∧ idxL P (l.drop i) i = idxL P l 0) (fun i => l.length - i) 0 ⟨Nat.zero_le _, rfl⟩ (by apply Weak.mk' <;> simp [ivs]) (fun _ _ => rfl) ?_
  rintro i ⟨hi, hk⟩
  by_cases hlt : i < l.length
  · obtain ⟨s, hs⟩ : ∃ s, l[i] = s := ⟨_, rfl⟩
    rw [List.drop_eq_getElem_cons hlt, hs, idxL] at hk
    have hlt' : (i : Int) < l.length := by omega
    have w1 : IntKind.i64.wrap ((i : Int) + 1) = i + 1 := wI (by omega) (by omega)
    have hc := hf s
    generalize P s = b at *
    cases b
    · rw [if_neg (by simp)] at hk
      repeat' (first
 |refine aK fun K hK=>?_|refine Step.by1 ?_|refine sE (by decide) ?_|refine cz rfl ?_|refine Fork.by2 (fun h=>?_) fun h=>?_
 |(refine aR ?_;simp [ivs, hlt, hlt', hs, w1])
 |(refine Split.by2 (fun h=>?_) (fun h=>?_)<;>(simp [h, ivs, hlt, hlt', hs, w1]))
 |(refine aC (f := f) rfl rfl hc rfl rfl rfl ?_; simp [hs])
 |(apply hK;clear hK K)|refine AWh ‹_› ?_)
      refine ⟨i + 1, ⟨by omega, hk⟩, by omega, ?_⟩
      apply Weak.mk' <;> simp [ivs]
    · rw [if_pos rfl] at hk
      repeat' (first
 |refine aK fun K hK=>?_|refine Step.by1 ?_|refine sE (by decide) ?_|refine cz rfl ?_|refine Fork.by2 (fun h=>?_) fun h=>?_
 |(refine aR ?_;simp [ivs, hlt, hlt', hs, w1])
 |(refine Split.by2 (fun h=>?_) (fun h=>?_)<;>(simp [h, ivs, hlt, hlt', hs, w1]))
 |(refine aC (f := f) rfl rfl hc rfl rfl rfl ?_; simp [hs])
 |(apply hK;clear hK K)|refine AWh ‹_› ?_)
      exact r1q (cE (by simp [← hk]) rfl)
  · obtain rfl : i = l.length := by omega
    rw [List.drop_length, idxL] at hk
    repeat' (first
 |refine aK fun K hK=>?_|refine Step.by1 ?_|refine sE (by decide) ?_|refine cz rfl ?_|refine Fork.by2 (fun h=>?_) fun h=>?_
 |(refine aR ?_;simp [ivs])
 |(refine Split.by2 (fun h=>?_) (fun h=>?_)<;>(simp [h, ivs]))
 |(apply hK;clear hK K)|refine AWh ‹_› ?_)
    exact r1q (cE (by simp [← hk]) rfl)
set_option maxHeartbeats 4000000 in
theorem c_hasInt (f : Nat) (P : Int → Bool) (hf : ∀ s : Int, PC f [.int .i64 s] (.bool (P s))) (l : List Int) (hll : l.length ≤ 1048576) :
    PC 182 [.vec (ivs l) l.length, .fn (.func f) [] []] (.bool (anyL P l)) := by
  have hc := c_idxInt f P hf l hll
  have ha := idxL_any (P := P) (l := l) (i := 0)
  generalize idxL P l 0 = k at *
  generalize ivs l = L at *
  refine pB Tryz.func182 rfl (by decide) Tryz.ntmps182 (by simp) Tryz.results182 ?_
  by_cases hk : 0 ≤ k
  · rw [ha.1 hk]
    repeat' (first
 |refine aK fun K hK=>?_|refine Step.by1 ?_|refine sE (by decide) ?_|refine cz rfl ?_|refine Fork.by2 (fun h=>?_) fun h=>?_
 |((first|refine aR ?_|refine aC (f:=214) rfl rfl (hc) rfl rfl rfl ?_);simp [hk])
 |(refine Split.by2 (fun h=>?_) (fun h=>?_)<;>(simp [h, hk]))
 |(apply hK;clear hK K)|refine AWh ‹_› ?_)
    exact r1q (cE rfl rfl)
  · have hb : anyL P l = false := by
      cases h : anyL P l
      · rfl
      · exact absurd (ha.2 h) hk
    rw [hb]
    repeat' (first
 |refine aK fun K hK=>?_|refine Step.by1 ?_|refine sE (by decide) ?_|refine cz rfl ?_|refine Fork.by2 (fun h=>?_) fun h=>?_
 |((first|refine aR ?_|refine aC (f:=214) rfl rfl (hc) rfl rfl rfl ?_);simp [hk])
 |(refine Split.by2 (fun h=>?_) (fun h=>?_)<;>(simp [h, hk]))
 |(apply hK;clear hK K)|refine AWh ‹_› ?_)
    exact r1q (cE rfl rfl)
def rowOk (N : Nat) (r : List Int) : Bool := decide (r.length = N) && !anyL outB r
set_option maxHeartbeats 8000000 in
theorem g_eqLocs {h : List B} (hl : HL h) {b : Nat} {cs : List V} (hb : h[b]? = some (.var cs)) (f : Nat) (p : LocD → List Int → Bool) (l : List LocD) (m : List (List Int))
    (hf : ∀ (H : List B), HL H → H[b]? = some (.var cs) → ∀ a ∈ l, ∀ r ∈ m, GCall Tryz.prog GV f [.agg a.cells, .vec (ivs r) r.length, .ptr b 0] H (fun v h' => v = .bool (p a r) ∧ h' = H)) (hll : l.length ≤ 1048576) :
    GCall Tryz.prog GV 180 [vl LocD.cells l, .vec (rows2V m) m.length, .fn (.func f) [] [.ptr b 0]] h (fun v h' => v = .bool (eqF p l m) ∧ h' = h) := by
  have hrl : (rows2V m).length = m.length := by simp
  have hbl := (List.getElem?_eq_some_iff.1 hb).1
  have g0 := fun x : List B => ga0 (h := h) (x := x) rfl
  by_cases hlen : l.length = m.length
  · have hlen' : (l.length : Int) = m.length := by omega
    refine gB1 Tryz.func180 rfl (by decide) Tryz.ntmps180 (by simp) Tryz.results180 ?_
    repeat' (first
 |refine aK fun K hK=>?_|refine Step.by1 ?_|refine sE (by decide) ?_|refine cz rfl ?_|refine Fork.by2 (fun h=>?_) fun h=>?_
 |(refine aR ?_;simp [vl, hlen, hlen'])
 |(refine Split.by2 (fun h=>?_) (fun h=>?_)<;>(simp [h, vl, hlen, hlen']))
 |(apply hK;clear hK K)|refine AWh ‹_› ?_)
    refine aL [1, 2, 15, 16] (fun i : Nat => [(17, .int .i64 i)]) (fun _ => h) (fun i => i ≤ l.length ∧ eqF p (l.drop i) (m.drop i) = eqF p l m) (fun i => l.length - i) 0 ⟨Nat.zero_le _, rfl⟩ (Weak.sym (x := []) (by simp) hl (by simp [hbl, hlen])) (fun _ _ => rfl) ?_
    rintro i ⟨hi, hk⟩
    by_cases hlt : i < l.length
    · obtain ⟨a, haa⟩ : ∃ a, l[i] = a := ⟨_, rfl⟩
      have hlm : i < m.length := by omega
      obtain ⟨r, hrr⟩ : ∃ r, m[i] = r := ⟨_, rfl⟩
      rw [List.drop_eq_getElem_cons hlt, List.drop_eq_getElem_cons hlm, haa, hrr, eqF] at hk
      have hlt' : (i : Int) < l.length := by omega
      have hlm' : (i : Int) < m.length := by omega
      have w1 : IntKind.i64.wrap ((i : Int) + 1) = i + 1 := wI (by omega) (by omega)
      have c2 := rows2V_get (P := m) (i := i) (by rw [List.getElem?_eq_getElem hlm, hrr])
      have c3 : (rows2V m)[i]'(by omega) = [.vec (ivs r) r.length] := by rw [List.getElem?_eq_getElem (by omega)] at c2; exact Option.some.inj c2
      have hH : HL (h ++ [B.var a.cells]) := hl.push (by simp [LocD.cells, vl])
      have hc := hf (h ++ [B.var a.cells]) hH (by rw [List.getElem?_append_left hbl]; exact hb) a (haa ▸ List.getElem_mem hlt) r (hrr ▸ List.getElem_mem hlm)
      simp only [LocD.cells, vl] at hc
      generalize p a r = q at *
      cases q
      · rw [Bool.false_and] at hk
        repeat' (first
 |refine aK fun K hK=>?_|refine Step.by1 ?_|refine sE (by decide) ?_|refine cz rfl ?_|refine Fork.by2 (fun h=>?_) fun h=>?_
 |(refine aR ?_;simp [vl, LocD.cells, hlt, hlt', hlm, hlm', haa, c2, c3, w1, hrl, g0, hlen])
 |(refine Split.by2 (fun h=>?_) (fun h=>?_)<;>(simp [h, vl, LocD.cells, hlt, hlt', hlm, hlm', haa, c2, c3, w1, hrl, g0, hlen]))
 |(refine aG (f := f) rfl rfl hc rfl (fun v h' hq => ?_); obtain ⟨rfl, rfl⟩ := hq; simp [g0])
 |(apply hK;clear hK K)|refine AWh ‹_› ?_)
        exact retg1 ⟨by rw [← hk]; rfl, rfl⟩ rfl (Go.Proofs.YtgmlimipejcpgaaGreatDoor.Leaves.symx (Nat.le_refl _) hl)
      · rw [Bool.true_and] at hk
        repeat' (first
 |refine aK fun K hK=>?_|refine Step.by1 ?_|refine sE (by decide) ?_|refine cz rfl ?_|refine Fork.by2 (fun h=>?_) fun h=>?_
 |(refine aR ?_;simp [vl, LocD.cells, hlt, hlt', hlm, hlm', haa, c2, c3, w1, hrl, g0, hlen])
 |(refine Split.by2 (fun h=>?_) (fun h=>?_)<;>(simp [h, vl, LocD.cells, hlt, hlt', hlm, hlm', haa, c2, c3, w1, hrl, g0, hlen]))
 |(refine aG (f := f) rfl rfl hc rfl (fun v h' hq => ?_); obtain ⟨rfl, rfl⟩ := hq; simp [g0])
 |(apply hK;clear hK K)|refine AWh ‹_› ?_)
        exact ⟨i + 1, ⟨by omega, hk⟩, by omega, Weak.sym (x := [B.var a.cells]) (by simp [LocD.cells, vl]) hl (by simp [hbl, hlen])⟩
    · obtain rfl : i = l.length := by omega
      rw [List.drop_length, hlen, List.drop_length, eqF] at hk
      repeat' (first
 |refine aK fun K hK=>?_|refine Step.by1 ?_|refine sE (by decide) ?_|refine cz rfl ?_|refine Fork.by2 (fun h=>?_) fun h=>?_
 |(refine aR ?_;simp [vl, hlen])
 |(refine Split.by2 (fun h=>?_) (fun h=>?_)<;>(simp [h, vl, hlen]))
 |(apply hK;clear hK K)|refine AWh ‹_› ?_)
      exact retg1 ⟨by rw [← hk]; rfl, rfl⟩ rfl (Go.AM.Leaves.sym (Nat.le_refl _) hl)
  · have hlen' : ¬ (l.length : Int) = m.length := by omega
    rw [eqF_ne hlen]
    refine gB1 Tryz.func180 rfl (by decide) Tryz.ntmps180 (by simp) Tryz.results180 ?_
    repeat' (first
 |refine aK fun K hK=>?_|refine Step.by1 ?_|refine sE (by decide) ?_|refine cz rfl ?_|refine Fork.by2 (fun h=>?_) fun h=>?_
 |(refine aR ?_;simp [vl, hlen, hlen'])
 |(refine Split.by2 (fun h=>?_) (fun h=>?_)<;>(simp [h, vl, hlen, hlen']))
 |(apply hK;clear hK K)|refine AWh ‹_› ?_)
    exact retg1 ⟨rfl, rfl⟩ rfl (Go.AM.Leaves.sym (Nat.le_refl _) hl)
set_option maxHeartbeats 8000000 in
theorem g_rowRight {H : List B} (hH : HL H) (n : NetD) {b : Nat} (hb : H[b]? = some (.var n.cells)) (a : LocD) (r : List Int) (hr : r.length ≤ 1048576) :
    GCall Tryz.prog GV 181 [.agg a.cells, .vec (ivs r) r.length, .ptr b 0] H (fun v h' => v = .bool (rowOk n.clocks.length r) ∧ h' = H) := by
  have hbl := (List.getElem?_eq_some_iff.1 hb).1
  have hc := c_hasInt 183 outB c_out r hr
  have hn : (H ++ [B.var a.cells])[b]? = some (.var n.cells) := by rw [List.getElem?_append_left hbl]; exact hb
  unfold rowOk
  generalize anyL outB r = q at *
  generalize ivs r = R at *
  simp only [LocD.cells, NetD.cells, vl] at hn hb ⊢
  refine gB1 Tryz.func181 rfl (by decide) Tryz.ntmps181 (by simp) Tryz.results181 ?_
  by_cases hk : r.length = n.clocks.length
  · have hk' : (r.length : Int) = n.clocks.length := by omega
    rw [hk] at hc
    repeat' (first
 |refine aK fun K hK=>?_|refine Step.by1 ?_|refine sE (by decide) ?_|refine cz rfl ?_|refine Fork.by2 (fun h=>?_) fun h=>?_
 |((first|refine aR ?_|refine aC (f:=182) rfl rfl (hc) rfl rfl rfl ?_);simp [hn, hk, hk'])
 |(refine Split.by2 (fun h=>?_) (fun h=>?_)<;>(simp [h, hn, hk, hk']))
 |(apply hK;clear hK K)|refine AWh ‹_› ?_)
    exact retg1 ⟨by simp [hk], rfl⟩ rfl (Go.Proofs.YtgmlimipejcpgaaGreatDoor.Leaves.symx (Nat.le_refl _) hH)
  · have hk' : ¬ (r.length : Int) = n.clocks.length := by omega
    repeat' (first
 |refine aK fun K hK=>?_|refine Step.by1 ?_|refine sE (by decide) ?_|refine cz rfl ?_|refine Fork.by2 (fun h=>?_) fun h=>?_
 |((first|refine aR ?_|refine aC (f:=182) rfl rfl (hc) rfl rfl rfl ?_);simp [hn, hk, hk'])
 |(refine Split.by2 (fun h=>?_) (fun h=>?_)<;>(simp [h, hn, hk, hk']))
 |(apply hK;clear hK K)|refine AWh ‹_› ?_)
    exact retg1 ⟨by simp [hk], rfl⟩ rfl (Go.Proofs.YtgmlimipejcpgaaGreatDoor.Leaves.symx (Nat.le_refl _) hH)
def locsOk (N : Nat) (a : AutoD) (Q : List (List Int)) : Bool := eqF (fun _ r => rowOk N r) a.locs Q
set_option maxHeartbeats 8000000 in
theorem g_eqAutos {h : List B} (hl : HL h) {b : Nat} {cs : List V} (hb : h[b]? = some (.var cs)) (f : Nat) (p : AutoD → List (List Int) → Bool) (l : List AutoD) (m : List (List (List Int)))
    (hf : ∀ (H : List B), HL H → H[b]? = some (.var cs) → ∀ a ∈ l, ∀ r ∈ m, GCall Tryz.prog GV f [.agg a.cells, .vec (rows2V r) r.length, .ptr b 0] H (fun v h' => v = .bool (p a r) ∧ h' = H)) (hll : l.length ≤ 1048576) :
    GCall Tryz.prog GV 178 [vl AutoD.cells l, .vec (rows3V m) m.length, .fn (.func f) [] [.ptr b 0]] h (fun v h' => v = .bool (eqF p l m) ∧ h' = h) := by
  have hrl : (rows3V m).length = m.length := by simp
  have hbl := (List.getElem?_eq_some_iff.1 hb).1
  have g0 := fun x : List B => ga0 (h := h) (x := x) rfl
  by_cases hlen : l.length = m.length
  · have hlen' : (l.length : Int) = m.length := by omega
    refine gB1 Tryz.func178 rfl (by decide) Tryz.ntmps178 (by simp) Tryz.results178 ?_
    repeat' (first
 |refine aK fun K hK=>?_|refine Step.by1 ?_|refine sE (by decide) ?_|refine cz rfl ?_|refine Fork.by2 (fun h=>?_) fun h=>?_
 |(refine aR ?_;simp [vl, hlen, hlen'])
 |(refine Split.by2 (fun h=>?_) (fun h=>?_)<;>(simp [h, vl, hlen, hlen']))
 |(apply hK;clear hK K)|refine AWh ‹_› ?_)
    refine aL [1, 2, 15, 16] (fun i : Nat => [(17, .int .i64 i)]) (fun _ => h) (fun i => i ≤ l.length ∧ eqF p (l.drop i) (m.drop i) = eqF p l m) (fun i => l.length - i) 0 ⟨Nat.zero_le _, rfl⟩ (Weak.sym (x := []) (by simp) hl (by simp [hbl, hlen])) (fun _ _ => rfl) ?_
    rintro i ⟨hi, hk⟩
    by_cases hlt : i < l.length
    · obtain ⟨a, haa⟩ : ∃ a, l[i] = a := ⟨_, rfl⟩
      have hlm : i < m.length := by omega
      obtain ⟨r, hrr⟩ : ∃ r, m[i] = r := ⟨_, rfl⟩
      rw [List.drop_eq_getElem_cons hlt, List.drop_eq_getElem_cons hlm, haa, hrr, eqF] at hk
      have hlt' : (i : Int) < l.length := by omega
      have hlm' : (i : Int) < m.length := by omega
      have w1 : IntKind.i64.wrap ((i : Int) + 1) = i + 1 := wI (by omega) (by omega)
      have c2 := rows3V_get (P := m) (i := i) (by rw [List.getElem?_eq_getElem hlm, hrr])
      have c3 : (rows3V m)[i]'(by omega) = [.vec (rows2V r) r.length] := by rw [List.getElem?_eq_getElem (by omega)] at c2; exact Option.some.inj c2
      have hH : HL (h ++ [B.var a.cells]) := hl.push (by simp [AutoD.cells, vl])
      have hc := hf (h ++ [B.var a.cells]) hH (by rw [List.getElem?_append_left hbl]; exact hb) a (haa ▸ List.getElem_mem hlt) r (hrr ▸ List.getElem_mem hlm)
      simp only [AutoD.cells, vl] at hc
      generalize p a r = q at *
      cases q
      · rw [Bool.false_and] at hk
        repeat' (first
 |refine aK fun K hK=>?_|refine Step.by1 ?_|refine sE (by decide) ?_|refine cz rfl ?_|refine Fork.by2 (fun h=>?_) fun h=>?_
 |(refine aR ?_;simp [vl, AutoD.cells, hlt, hlt', hlm, hlm', haa, c2, c3, w1, hrl, g0, hlen])
 |(refine Split.by2 (fun h=>?_) (fun h=>?_)<;>(simp [h, vl, AutoD.cells, hlt, hlt', hlm, hlm', haa, c2, c3, w1, hrl, g0, hlen]))
 |(refine aG (f := f) rfl rfl hc rfl (fun v h' hq => ?_); obtain ⟨rfl, rfl⟩ := hq; simp [g0])
 |(apply hK;clear hK K)|refine AWh ‹_› ?_)
        exact retg1 ⟨by rw [← hk]; rfl, rfl⟩ rfl (Go.Proofs.YtgmlimipejcpgaaGreatDoor.Leaves.symx (Nat.le_refl _) hl)
      · rw [Bool.true_and] at hk
        repeat' (first
 |refine aK fun K hK=>?_|refine Step.by1 ?_|refine sE (by decide) ?_|refine cz rfl ?_|refine Fork.by2 (fun h=>?_) fun h=>?_
 |(refine aR ?_;simp [vl, AutoD.cells, hlt, hlt', hlm, hlm', haa, c2, c3, w1, hrl, g0, hlen])
 |(refine Split.by2 (fun h=>?_) (fun h=>?_)<;>(simp [h, vl, AutoD.cells, hlt, hlt', hlm, hlm', haa, c2, c3, w1, hrl, g0, hlen]))
 |(refine aG (f := f) rfl rfl hc rfl (fun v h' hq => ?_); obtain ⟨rfl, rfl⟩ := hq; simp [g0])
 |(apply hK;clear hK K)|refine AWh ‹_› ?_)
        exact ⟨i + 1, ⟨by omega, hk⟩, by omega, Weak.sym (x := [B.var a.cells]) (by simp [AutoD.cells, vl]) hl (by simp [hbl, hlen])⟩
    · obtain rfl : i = l.length := by omega
      rw [List.drop_length, hlen, List.drop_length, eqF] at hk
      repeat' (first
 |refine aK fun K hK=>?_|refine Step.by1 ?_|refine sE (by decide) ?_|refine cz rfl ?_|refine Fork.by2 (fun h=>?_) fun h=>?_
 |(refine aR ?_;simp [vl, hlen])
 |(refine Split.by2 (fun h=>?_) (fun h=>?_)<;>(simp [h, vl, hlen]))
 |(apply hK;clear hK K)|refine AWh ‹_› ?_)
      exact retg1 ⟨by rw [← hk]; rfl, rfl⟩ rfl (Go.AM.Leaves.sym (Nat.le_refl _) hl)
  · have hlen' : ¬ (l.length : Int) = m.length := by omega
    rw [eqF_ne hlen]
    refine gB1 Tryz.func178 rfl (by decide) Tryz.ntmps178 (by simp) Tryz.results178 ?_
    repeat' (first
 |refine aK fun K hK=>?_|refine Step.by1 ?_|refine sE (by decide) ?_|refine cz rfl ?_|refine Fork.by2 (fun h=>?_) fun h=>?_
 |(refine aR ?_;simp [vl, hlen, hlen'])
 |(refine Split.by2 (fun h=>?_) (fun h=>?_)<;>(simp [h, vl, hlen, hlen']))
 |(apply hK;clear hK K)|refine AWh ‹_› ?_)
    exact retg1 ⟨rfl, rfl⟩ rfl (Go.AM.Leaves.sym (Nat.le_refl _) hl)
set_option maxHeartbeats 8000000 in
theorem g_halfRight {H : List B} (hH : HL H) (n : NetD) {b : Nat} (hb : H[b]? = some (.var n.cells)) (a : AutoD) (hal : a.locs.length ≤ 1048576) (Q : List (List Int)) (hQ : ∀ r ∈ Q, r.length ≤ 1048576) :
    GCall Tryz.prog GV 179 [.agg a.cells, .vec (rows2V Q) Q.length, .ptr b 0] H (fun v h' => v = .bool (locsOk n.clocks.length a Q) ∧ h' = H) := by
  have hbl := (List.getElem?_eq_some_iff.1 hb).1
  have hn : (H ++ [B.var a.cells])[b]? = some (.var n.cells) := by rw [List.getElem?_append_left hbl]; exact hb
  have hH2 : HL (H ++ [B.var a.cells]) := hH.push (by simp [AutoD.cells, vl])
  have hc := g_eqLocs hH2 hn 181 (fun _ r => rowOk n.clocks.length r) a.locs Q (fun H' hl' hb' x _ r hr => g_rowRight hl' n hb' x r (hQ r hr)) hal
  have g0 := fun x : List B => ga0 (h := H) (x := x) rfl
  unfold locsOk
  generalize eqF (fun _ r => rowOk n.clocks.length r) a.locs Q = q at *
  generalize rows2V Q = R at *
  simp only [AutoD.cells, vl] at hc ⊢
  refine gB1 Tryz.func179 rfl (by decide) Tryz.ntmps179 (by simp) Tryz.results179 ?_
  repeat' (first
 |refine aK fun K hK=>?_|refine Step.by1 ?_|refine sE (by decide) ?_|refine cz rfl ?_|refine Fork.by2 (fun h=>?_) fun h=>?_
 |(refine aR ?_;simp [g0, hbl])
 |(refine Split.by2 (fun h=>?_) (fun h=>?_)<;>(simp [h, g0, hbl]))
 |(refine aG (f := 180) rfl rfl hc rfl (fun v h' hq => ?_); obtain ⟨rfl, rfl⟩ := hq; simp)
 |(apply hK;clear hK K)|refine AWh ‹_› ?_)
  exact retg1 ⟨rfl, rfl⟩ rfl (Go.Proofs.YtgmlimipejcpgaaGreatDoor.Leaves.symx (Nat.le_refl _) hH)
def halfOk (n : NetD) (P : List (List (List Int))) : Bool := eqF (fun a Q => locsOk n.clocks.length a Q) n.autos P
/-- A plan as it is read. -/
def planOk (P : List (List (List Int))) : Prop := P.length ≤ 1048576 ∧ ∀ Q ∈ P, Q.length ≤ 1048576 ∧ ∀ r ∈ Q, r.length ≤ 1048576
set_option maxHeartbeats 8000000 in
theorem c_luright (n : NetD) (hn : n.ok) (P : List (List (List Int))) (hP : planOk P) : PC 121 [.agg n.cells, halfV P] (.bool (halfOk n P)) := by
  have hH : HL [B.var n.cells] := by simp [HL, NetD.cells, vl]
  have hal := hn.2.2.2.1
  have hc := g_eqAutos (h := [B.var n.cells]) hH (b := 0) rfl 179 (fun a Q => locsOk n.clocks.length a Q) n.autos P (fun H' hl' hb' a ha Q hQ => g_halfRight hl' n hb' a (by have := (hn.2.2.2.2 a ha).2.1.1; omega) Q (hP.2 Q hQ).2) (by omega)
  unfold halfOk halfV
  generalize eqF (fun a Q => locsOk n.clocks.length a Q) n.autos P = q at *
  generalize rows3V P = R at *
  simp only [NetD.cells, vl] at hc ⊢
  refine pB Tryz.func121 rfl (by decide) Tryz.ntmps121 (by simp) Tryz.results121 ?_
  repeat' (first
 |refine aK fun K hK=>?_|refine Step.by1 ?_|refine sE (by decide) ?_|refine cz rfl ?_|refine Fork.by2 (fun h=>?_) fun h=>?_
 |(refine aR ?_;simp)
 |(refine Split.by2 (fun h=>?_) (fun h=>?_)<;>(simp [h]))
 |(refine aG (f := 178) rfl rfl hc rfl (fun v h' hq => ?_); obtain ⟨rfl, rfl⟩ := hq; simp)
 |(apply hK;clear hK K)|refine AWh ‹_› ?_)
  exact r1q (cE rfl rfl)
theorem c_netRight (n : NetD) (hn : n.ok) : PC 120 [.agg n.cells] (.bool (decide (wholeE n = 0))) := by
  have hc := c_Whole n hn
  generalize wholeE n = e at *
  simp only [NetD.cells, vl] at hc
  refine pB Tryz.func120 rfl (by decide) Tryz.ntmps120 (by simp) Tryz.results120 ?_
  repeat' (first
 |refine aK fun K hK=>?_|refine Step.by1 ?_|refine sE (by decide) ?_|refine cz rfl ?_|refine Fork.by2 (fun h=>?_) fun h=>?_
 |((first|refine aR ?_|refine aC (f:=58) rfl rfl (hc) rfl rfl rfl ?_);simp [NetD.cells, vl])
 |(refine Split.by2 (fun h=>?_) (fun h=>?_)<;>(simp [h, NetD.cells, vl]))
 |(apply hK;clear hK K)|refine AWh ‹_› ?_)
  exact r1q (cE rfl rfl)
def rightPE (n : NetD) (P1 P2 : List (List (List Int))) : Bool := decide (wholeE n = 0) && halfOk n P1 && halfOk n P2
set_option maxHeartbeats 8000000 in
theorem c_luRight (n : NetD) (hn : n.ok) (P1 P2 : List (List (List Int))) (h1 : planOk P1) (h2 : planOk P2) : PC 50 [.agg n.cells, .agg [halfV P1, halfV P2]] (.bool (rightPE n P1 P2)) := by
  have hc := c_netRight n hn
  have c1 := c_luright n hn P1 h1
  have c2 := c_luright n hn P2 h2
  unfold rightPE
  generalize decide (wholeE n = 0) = b0 at *
  generalize halfOk n P1 = b1 at *
  generalize halfOk n P2 = b2 at *
  simp only [NetD.cells, vl, halfV] at hc c1 c2 ⊢
  generalize rows3V P1 = R1 at *
  generalize rows3V P2 = R2 at *
  refine pB Tryz.func50 rfl (by decide) Tryz.ntmps50 (by simp) Tryz.results50 ?_
  cases b0
  · repeat' (first
 |refine aK fun K hK=>?_|refine Step.by1 ?_|refine sE (by decide) ?_|refine cz rfl ?_|refine Fork.by2 (fun h=>?_) fun h=>?_
 |((first|refine aR ?_|refine aC (f:=120) rfl rfl (hc) rfl rfl rfl ?_);simp)
 |(refine Split.by2 (fun h=>?_) (fun h=>?_)<;>(simp [h]))
 |(apply hK;clear hK K)|refine AWh ‹_› ?_)
    exact r1q (cE rfl rfl)
  · cases b1
    · repeat' (first
 |refine aK fun K hK=>?_|refine Step.by1 ?_|refine sE (by decide) ?_|refine cz rfl ?_|refine Fork.by2 (fun h=>?_) fun h=>?_
 |((first|refine aR ?_|refine aC (f:=120) rfl rfl (hc) rfl rfl rfl ?_|refine aC (f:=121) rfl rfl (c1) rfl rfl rfl ?_);simp)
 |(refine Split.by2 (fun h=>?_) (fun h=>?_)<;>(simp [h]))
 |(apply hK;clear hK K)|refine AWh ‹_› ?_)
      exact r1q (cE rfl rfl)
    · repeat' (first
 |refine aK fun K hK=>?_|refine Step.by1 ?_|refine sE (by decide) ?_|refine cz rfl ?_|refine Fork.by2 (fun h=>?_) fun h=>?_
 |((first|refine aR ?_|refine aC (f:=120) rfl rfl (hc) rfl rfl rfl ?_|refine aC (f:=121) rfl rfl (c1) rfl rfl rfl ?_|refine aC (f:=121) rfl rfl (c2) rfl rfl rfl ?_);simp)
 |(refine Split.by2 (fun h=>?_) (fun h=>?_)<;>(simp [h]))
 |(apply hK;clear hK K)|refine AWh ‹_› ?_)
      exact r1q (cE rfl rfl)
theorem r_Right10 (n : NetD) (hn : n.ok) : PC 122 [.agg n.cells] (.bool (decide (wholeE n = 0))) := by
  have hc := r_Whole n hn
  generalize wholeE n = e at *
  simp only [NetD.cells, vl] at hc
  refine pB Tryz.func122 rfl (by decide) Tryz.ntmps122 (by simp) Tryz.results122 ?_
  repeat' (first
 |refine aK fun K hK=>?_|refine Step.by1 ?_|refine sE (by decide) ?_|refine cz rfl ?_|refine Fork.by2 (fun h=>?_) fun h=>?_
 |((first|refine aR ?_|refine aC (f:=67) rfl rfl (hc) rfl rfl rfl ?_);simp [NetD.cells, vl])
 |(refine Split.by2 (fun h=>?_) (fun h=>?_)<;>(simp [h, NetD.cells, vl]))
 |(apply hK;clear hK K)|refine AWh ‹_› ?_)
  exact r1q (cE rfl rfl)
theorem ivs_get {r : List Int} {c : Nat} {m : Int} (h : r[c]? = some m) : (ivs r)[c]? = some [V.int .i64 m] := by simp [ivs, h]
theorem ivs_len {r : List Int} : (ivs r).length = r.length := by simp [ivs]
set_option maxRecDepth 20000 in
set_option maxHeartbeats 16000000 in
theorem r_half26 (n : NetD) (hn : n.ok) (P : List (List (List Int))) (hP : planOk P) : PC 123 [.agg n.cells, halfV P] (.bool (halfOk n P)) := by
  obtain ⟨res, hres⟩ : ∃ r, halfOk n P = r := ⟨_, rfl⟩
  rw [hres]
  unfold halfOk at hres
  unfold halfV
  have hrl : (rows3V P).length = P.length := by simp
  have hpl := hP.1
  by_cases hlen : n.autos.length = P.length
  · have hlen' : (P.length : Int) = n.autos.length := by omega
    refine pB Tryz.func123 rfl (by decide) Tryz.ntmps123 (by simp) Tryz.results123 ?_
    repeat' (first
 |refine aK fun K hK=>?_|refine Step.by1 ?_|refine sE (by decide) ?_|refine cz rfl ?_|refine Fork.by2 (fun h=>?_) fun h=>?_
 |(refine aR ?_;simp [NetD.cells, vl, hlen'])
 |(refine Split.by2 (fun h=>?_) (fun h=>?_)<;>(simp [h, NetD.cells, vl, hlen']))
 |(apply hK;clear hK K)|refine AWh ‹_› ?_)
    refine aL [1, 2] (fun i : Nat => [(5, .int .i64 i)]) (fun _ => [.var n.cells]) (fun i => i ≤ P.length ∧ eqF (fun a Q => locsOk n.clocks.length a Q) (n.autos.drop i) (P.drop i) = res) (fun i => P.length - i) 0 ⟨Nat.zero_le _, hres⟩ (by apply Weak.mk' <;> simp [NetD.cells, vl]) (fun _ _ => rfl) ?_
    clear hres
    rintro i ⟨hi, hk⟩
    by_cases hlt : i < P.length
    · have hla : i < n.autos.length := by omega
      obtain ⟨a, haa⟩ : ∃ a, n.autos[i] = a := ⟨_, rfl⟩
      obtain ⟨Q, hQQ⟩ : ∃ Q, P[i] = Q := ⟨_, rfl⟩
      have hQ? : P[i]? = some Q := by rw [List.getElem?_eq_getElem hlt, hQQ]
      rw [List.drop_eq_getElem_cons hla, List.drop_eq_getElem_cons hlt, haa, hQQ, eqF] at hk
      obtain ⟨hq1, hq2⟩ := hP.2 Q (List.mem_of_getElem? hQ?)
      generalize hrest : eqF (fun a Q => locsOk n.clocks.length a Q) (n.autos.drop (i + 1)) (P.drop (i + 1)) = rest at hk
      have hlt' : (i : Int) < P.length := by omega
      have hla' : (i : Int) < n.autos.length := by omega
      have w1 : IntKind.i64.wrap ((i : Int) + 1) = i + 1 := wI (by omega) (by omega)
      have c2 := rows3V_get hQ?
      have c3 : (rows3V P)[i]'(by omega) = [V.vec (rows2V Q) Q.length] := by rw [List.getElem?_eq_getElem (by omega)] at c2; exact Option.some.inj c2
      have hrl2 : (rows2V Q).length = Q.length := by simp
      unfold locsOk at hk
      by_cases hl2 : a.locs.length = Q.length
      · have hl2' : (Q.length : Int) = a.locs.length := by omega
        repeat' (first
 |refine aK fun K hK=>?_|refine Step.by1 ?_|refine sE (by decide) ?_|refine cz rfl ?_|refine Fork.by2 (fun h=>?_) fun h=>?_
 |((first|refine aR ?_|refine aX (id:=6) 13 mixed (by decide) ?_);simp [NetD.cells, AutoD.cells, vl, hlt, hlt', hla, hla', haa, c2, c3, hrl, hrl2, hl2, hl2'])
 |(refine Split.by2 (fun h=>?_) (fun h=>?_)<;>(simp [h, NetD.cells, AutoD.cells, vl, hlt, hlt', hla, hla', haa, c2, c3, hrl, hrl2, hl2, hl2']))
 |(apply hK;clear hK K)|refine AWh ‹_› ?_)
        refine aL [1, 2, 5] (fun k : Nat => [(6, .int .i64 k)]) (fun _ => [.var n.cells]) (fun k => k ≤ Q.length ∧ (eqF (fun _ r => rowOk n.clocks.length r) (a.locs.drop k) (Q.drop k) && rest) = res) (fun k => Q.length - k) 0 ⟨Nat.zero_le _, hk⟩ (by apply Weak.mk' <;> simp [NetD.cells, vl]) (fun _ _ => rfl) ?_
        clear hk
        rintro k ⟨hkq, hk⟩
        by_cases hlk : k < Q.length
        · have hlk2 : k < a.locs.length := by omega
          obtain ⟨r, hrr⟩ : ∃ r, Q[k] = r := ⟨_, rfl⟩
          have hr? : Q[k]? = some r := by rw [List.getElem?_eq_getElem hlk, hrr]
          rw [List.drop_eq_getElem_cons hlk2, List.drop_eq_getElem_cons hlk, hrr, eqF] at hk
          generalize hrest2 : eqF (fun _ r => rowOk n.clocks.length r) (a.locs.drop (k + 1)) (Q.drop (k + 1)) = rest2 at hk
          have hlk' : (k : Int) < Q.length := by omega
          have w2 : IntKind.i64.wrap ((k : Int) + 1) = k + 1 := wI (by omega) (by omega)
          have d2 := rows2V_get hr?
          have d3 : (rows2V Q)[k]'(by omega) = [V.vec (ivs r) r.length] := by rw [List.getElem?_eq_getElem (by omega)] at d2; exact Option.some.inj d2
          have hrm := hq2 r (List.mem_of_getElem? hr?)
          have hil : (ivs r).length = r.length := ivs_len
          unfold rowOk at hk
          by_cases hl3 : r.length = n.clocks.length
          · have hl3' : (r.length : Int) = n.clocks.length := by omega
            rw [decide_eq_true hl3, Bool.true_and] at hk
            repeat' (first
 |refine aK fun K hK=>?_|refine Step.by1 ?_|refine sE (by decide) ?_|refine cz rfl ?_|refine Fork.by2 (fun h=>?_) fun h=>?_
 |((first|refine aR ?_|refine aX (id:=11) 12 mixed (by decide) ?_);simp [NetD.cells, vl, hlt, hlt', c2, c3, hrl, hrl2, hlk, hlk', d2, d3, hil, hl3, hl3'])
 |(refine Split.by2 (fun h=>?_) (fun h=>?_)<;>(simp [h, NetD.cells, vl, hlt, hlt', c2, c3, hrl, hrl2, hlk, hlk', d2, d3, hil, hl3, hl3']))
 |(apply hK;clear hK K)|refine AWh ‹_› ?_)
            refine aL [1, 2, 5, 6] (fun c : Nat => [(7, .int .i64 c)]) (fun _ => [.var n.cells]) (fun c => c ≤ r.length ∧ (!anyL outB (r.drop c) && rest2 && rest) = res) (fun c => r.length - c) 0 ⟨Nat.zero_le _, hk⟩ (by apply Weak.mk' <;> simp [NetD.cells, vl]) (fun _ _ => rfl) ?_
            clear hk
            rintro c ⟨hcr, hk⟩
            by_cases hlc : c < r.length
            · obtain ⟨m, hmm⟩ : ∃ m, r[c] = m := ⟨_, rfl⟩
              have hm? : r[c]? = some m := by rw [List.getElem?_eq_getElem hlc, hmm]
              rw [List.drop_eq_getElem_cons hlc, hmm, anC] at hk
              have hlc' : (c : Int) < r.length := by omega
              have w3 : IntKind.i64.wrap ((c : Int) + 1) = c + 1 := wI (by omega) (by omega)
              have e2 := ivs_get hm?
              have e3 : (ivs r)[c]'(by omega) = [V.int .i64 m] := by rw [List.getElem?_eq_getElem (by omega)] at e2; exact Option.some.inj e2
              unfold outB at hk
              by_cases hm1 : m < -1
              · rw [decide_eq_true (.inl hm1)] at hk
                have hk : false = res := by simpa using hk
                repeat' (first
 |refine aK fun K hK=>?_|refine Step.by1 ?_|refine sE (by decide) ?_|refine cz rfl ?_|refine Fork.by2 (fun h=>?_) fun h=>?_
 |(refine aR ?_;simp [NetD.cells, vl, hlt, hlt', c2, c3, hrl, hrl2, hlk, hlk', d2, d3, hil, hlc, hlc', e2, e3, hm1])
 |(refine Split.by2 (fun h=>?_) (fun h=>?_)<;>(simp [h, NetD.cells, vl, hlt, hlt', c2, c3, hrl, hrl2, hlk, hlk', d2, d3, hil, hlc, hlc', e2, e3, hm1]))
 |(apply hK;clear hK K)|refine AWh ‹_› ?_)
                exact r1q (cE (by simp [← hk]) rfl)
              · by_cases hm2 : 1048576 < m
                · rw [decide_eq_true (.inr hm2)] at hk
                  have hk : false = res := by simpa using hk
                  repeat' (first
 |refine aK fun K hK=>?_|refine Step.by1 ?_|refine sE (by decide) ?_|refine cz rfl ?_|refine Fork.by2 (fun h=>?_) fun h=>?_
 |(refine aR ?_;simp [NetD.cells, vl, hlt, hlt', c2, c3, hrl, hrl2, hlk, hlk', d2, d3, hil, hlc, hlc', e2, e3, hm1, hm2])
 |(refine Split.by2 (fun h=>?_) (fun h=>?_)<;>(simp [h, NetD.cells, vl, hlt, hlt', c2, c3, hrl, hrl2, hlk, hlk', d2, d3, hil, hlc, hlc', e2, e3, hm1, hm2]))
 |(apply hK;clear hK K)|refine AWh ‹_› ?_)
                  exact r1q (cE (by simp [← hk]) rfl)
                · rw [decide_eq_false (by omega), Bool.false_or] at hk
                  repeat' (first
 |refine aK fun K hK=>?_|refine Step.by1 ?_|refine sE (by decide) ?_|refine cz rfl ?_|refine Fork.by2 (fun h=>?_) fun h=>?_
 |(refine aR ?_;simp [NetD.cells, vl, hlt, hlt', c2, c3, hrl, hrl2, hlk, hlk', d2, d3, hil, hlc, hlc', e2, e3, hm1, hm2, w3])
 |(refine Split.by2 (fun h=>?_) (fun h=>?_)<;>(simp [h, NetD.cells, vl, hlt, hlt', c2, c3, hrl, hrl2, hlk, hlk', d2, d3, hil, hlc, hlc', e2, e3, hm1, hm2, w3]))
 |(apply hK;clear hK K)|refine AWh ‹_› ?_)
                  refine ⟨c + 1, ⟨by omega, hk⟩, by omega, ?_⟩
                  apply Weak.mk' <;> simp [NetD.cells, vl]
            · obtain rfl : c = r.length := by omega
              rw [List.drop_length, anyL_nil, Bool.not_false, Bool.true_and] at hk
              subst hrest2
              repeat' (first
 |refine aK fun K hK=>?_|refine Step.by1 ?_|refine sE (by decide) ?_|refine cz rfl ?_|refine Fork.by2 (fun h=>?_) fun h=>?_
 |(refine aR ?_;simp [NetD.cells, vl, hlt, hlt', c2, c3, hrl, hrl2, hlk, hlk', d2, d3, hil, w2])
 |(refine Split.by2 (fun h=>?_) (fun h=>?_)<;>(simp [h, NetD.cells, vl, hlt, hlt', c2, c3, hrl, hrl2, hlk, hlk', d2, d3, hil, w2]))
 |(apply hK;clear hK K)|refine AWh ‹_› ?_)
              refine ⟨k + 1, ⟨by omega, hk⟩, by omega, ?_⟩
              apply Weak.mk' <;> simp [NetD.cells, vl]
          · have hl3' : ¬ (r.length : Int) = n.clocks.length := by omega
            rw [decide_eq_false hl3] at hk
            have hk : false = res := by simpa using hk
            repeat' (first
 |refine aK fun K hK=>?_|refine Step.by1 ?_|refine sE (by decide) ?_|refine cz rfl ?_|refine Fork.by2 (fun h=>?_) fun h=>?_
 |((first|refine aR ?_|refine aX (id:=11) 12 mixed (by decide) ?_);simp [NetD.cells, vl, hlt, hlt', c2, c3, hrl, hrl2, hlk, hlk', d2, d3, hil, hl3, hl3'])
 |(refine Split.by2 (fun h=>?_) (fun h=>?_)<;>(simp [h, NetD.cells, vl, hlt, hlt', c2, c3, hrl, hrl2, hlk, hlk', d2, d3, hil, hl3, hl3']))
 |(apply hK;clear hK K)|refine AWh ‹_› ?_)
            exact r1q (cE (by simp [← hk]) rfl)
        · obtain rfl : k = Q.length := by omega
          rw [List.drop_length, ← hl2, List.drop_length, eqF, Bool.true_and] at hk
          subst hrest
          repeat' (first
 |refine aK fun K hK=>?_|refine Step.by1 ?_|refine sE (by decide) ?_|refine cz rfl ?_|refine Fork.by2 (fun h=>?_) fun h=>?_
 |(refine aR ?_;simp [NetD.cells, vl, hlt, hlt', c2, c3, hrl, hrl2, w1])
 |(refine Split.by2 (fun h=>?_) (fun h=>?_)<;>(simp [h, NetD.cells, vl, hlt, hlt', c2, c3, hrl, hrl2, w1]))
 |(apply hK;clear hK K)|refine AWh ‹_› ?_)
          refine ⟨i + 1, ⟨by omega, hk⟩, by omega, ?_⟩
          apply Weak.mk' <;> simp [NetD.cells, vl]
      · have hl2' : ¬ (Q.length : Int) = a.locs.length := by omega
        rw [eqF_ne hl2] at hk
        have hk : false = res := by simpa using hk
        repeat' (first
 |refine aK fun K hK=>?_|refine Step.by1 ?_|refine sE (by decide) ?_|refine cz rfl ?_|refine Fork.by2 (fun h=>?_) fun h=>?_
 |((first|refine aR ?_|refine aX (id:=6) 13 mixed (by decide) ?_);simp [NetD.cells, AutoD.cells, vl, hlt, hlt', hla, hla', haa, c2, c3, hrl, hrl2, hl2, hl2'])
 |(refine Split.by2 (fun h=>?_) (fun h=>?_)<;>(simp [h, NetD.cells, AutoD.cells, vl, hlt, hlt', hla, hla', haa, c2, c3, hrl, hrl2, hl2, hl2']))
 |(apply hK;clear hK K)|refine AWh ‹_› ?_)
        exact r1q (cE (by simp [← hk]) rfl)
    · obtain rfl : i = P.length := by omega
      rw [List.drop_length, ← hlen, List.drop_length, eqF] at hk
      repeat' (first
 |refine aK fun K hK=>?_|refine Step.by1 ?_|refine sE (by decide) ?_|refine cz rfl ?_|refine Fork.by2 (fun h=>?_) fun h=>?_
 |(refine aR ?_;simp [NetD.cells, vl])
 |(refine Split.by2 (fun h=>?_) (fun h=>?_)<;>(simp [h, NetD.cells, vl]))
 |(apply hK;clear hK K)|refine AWh ‹_› ?_)
      exact r1q (cE (by simp [← hk]) rfl)
  · have hlen' : ¬ (P.length : Int) = n.autos.length := by omega
    rw [eqF_ne hlen] at hres
    refine pB Tryz.func123 rfl (by decide) Tryz.ntmps123 (by simp) Tryz.results123 ?_
    repeat' (first
 |refine aK fun K hK=>?_|refine Step.by1 ?_|refine sE (by decide) ?_|refine cz rfl ?_|refine Fork.by2 (fun h=>?_) fun h=>?_
 |(refine aR ?_;simp [NetD.cells, vl, hlen'])
 |(refine Split.by2 (fun h=>?_) (fun h=>?_)<;>(simp [h, NetD.cells, vl, hlen']))
 |(apply hK;clear hK K)|refine AWh ‹_› ?_)
    exact r1q (cE (by simp [← hres]) rfl)
set_option maxHeartbeats 8000000 in
theorem r_Right26 (n : NetD) (hn : n.ok) (P1 P2 : List (List (List Int))) (h1 : planOk P1) (h2 : planOk P2) : PC 51 [.agg n.cells, .agg [halfV P1, halfV P2]] (.bool (rightPE n P1 P2)) := by
  have hc := r_Right10 n hn
  have c1 := r_half26 n hn P1 h1
  have c2 := r_half26 n hn P2 h2
  unfold rightPE
  generalize decide (wholeE n = 0) = b0 at *
  generalize halfOk n P1 = b1 at *
  generalize halfOk n P2 = b2 at *
  simp only [NetD.cells, vl, halfV] at hc c1 c2 ⊢
  generalize rows3V P1 = R1 at *
  generalize rows3V P2 = R2 at *
  refine pB Tryz.func51 rfl (by decide) Tryz.ntmps51 (by simp) Tryz.results51 ?_
  cases b0
  · repeat' (first
 |refine aK fun K hK=>?_|refine Step.by1 ?_|refine sE (by decide) ?_|refine cz rfl ?_|refine Fork.by2 (fun h=>?_) fun h=>?_
 |((first|refine aR ?_|refine aC (f:=122) rfl rfl (hc) rfl rfl rfl ?_);simp)
 |(refine Split.by2 (fun h=>?_) (fun h=>?_)<;>(simp [h]))
 |(apply hK;clear hK K)|refine AWh ‹_› ?_)
    exact r1q (cE rfl rfl)
  · cases b1
    · repeat' (first
 |refine aK fun K hK=>?_|refine Step.by1 ?_|refine sE (by decide) ?_|refine cz rfl ?_|refine Fork.by2 (fun h=>?_) fun h=>?_
 |((first|refine aR ?_|refine aC (f:=122) rfl rfl (hc) rfl rfl rfl ?_|refine aC (f:=123) rfl rfl (c1) rfl rfl rfl ?_);simp)
 |(refine Split.by2 (fun h=>?_) (fun h=>?_)<;>(simp [h]))
 |(apply hK;clear hK K)|refine AWh ‹_› ?_)
      exact r1q (cE rfl rfl)
    · repeat' (first
 |refine aK fun K hK=>?_|refine Step.by1 ?_|refine sE (by decide) ?_|refine cz rfl ?_|refine Fork.by2 (fun h=>?_) fun h=>?_
 |((first|refine aR ?_|refine aC (f:=122) rfl rfl (hc) rfl rfl rfl ?_|refine aC (f:=123) rfl rfl (c1) rfl rfl rfl ?_|refine aC (f:=123) rfl rfl (c2) rfl rfl rfl ?_);simp)
 |(refine Split.by2 (fun h=>?_) (fun h=>?_)<;>(simp [h]))
 |(apply hK;clear hK K)|refine AWh ‹_› ?_)
      exact r1q (cE rfl rfl)
set_option maxHeartbeats 4000000 in
theorem c_CloneI (l : List Int) (hl : l.length ≤ 1048576) : PC 176 [.vec (ivs l) l.length] (.own 3 (ivs l)) := by
  have b1 : l.length * 8 ≤ 140737488355328 := by omega
  have il : (ivs l).length = l.length := ivs_len
  have tk : List.take l.length (ivs l) = ivs l := List.take_of_length_le (by omega)
  have hz : (∀ z : List V, z ∈ ivs l → z.length = 1) = True := eq_true fun z hz => by obtain ⟨k, _, rfl⟩ := List.mem_map.1 hz; rfl
  refine pB Tryz.func176 rfl (by decide) Tryz.ntmps176 (by simp) Tryz.results176 ?_
  repeat' (first
 |(refine AW_nilrow 2 3 rfl (by simp) ?_)
 |(refine AW_region (id := 1) ?_; refine AS_op rfl rfl S_move ?_; refine AS_eqnil Tryz.underlying47 (by rfl) (by rfl) (by rfl) (fun b hb => ?_); refine AS_nil ?_; cases b)
 |refine aK fun K hK=>?_|refine Step.by1 ?_|refine sE (by decide) ?_|refine cz rfl ?_|refine Fork.by2 (fun h=>?_) fun h=>?_
 |(refine aR ?_;simp [b1, tk, il, hz])
 |(refine Split.by2 (fun h=>?_) (fun h=>?_)<;>(simp [h, b1, tk, il, hz]))
 |(apply hK;clear hK K)|refine AWh ‹_› ?_)
  · exact r1q (.inr (.inl (conv1_own rfl (by simp [il]))))
  · have := List.eq_nil_of_length_eq_zero (hb rfl)
    subst this
    exact r1q (.inr (.inl (conv1_own rfl (by simp [ivs]))))
end Go.Proofs.YtgmlimipejcpgaaGreatDoor
end
