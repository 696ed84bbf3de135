/-
  YtgmlimipejcpgaaDoorLo09: steps of the proof of a law of the program: what these texts prove holds under the hypotheses that their theorems name, and no others.
-/
import Derived.Test.YtgmlimipejcpgaaDoorLo08
section
set_option linter.unusedSimpArgs false
set_option linter.unusedVariables false
namespace Go.Proofs.YtgmlimipejcpgaaDoor
open Go Go.AM Fx
def eqF {α β : Type} (p : α → β → Bool) : List α → List β → Bool
  | [], [] => true
  | x :: r, y :: s => p x y && eqF p r s
  | _, _ => false
theorem eqF_ne {α β : Type} {p : α → β → Bool} : ∀ {l : List α} {m : List β}, ¬ l.length = m.length → eqF p l m = false
  | [], [], h => absurd rfl h
  | [], _ :: _, _ => rfl
  | _ :: _, [], _ => rfl
  | x :: r, y :: s, h => by rw [eqF, eqF_ne (fun e => h (by simp [e])), Bool.and_false]
theorem eqF_iff {α β : Type} {p : α → β → Bool} : ∀ {l : List α} {m : List β}, eqF p l m = true ↔ l.length = m.length ∧ ∀ (i : Nat) (a : α) (r : β), l[i]? = some a → m[i]? = some r → p a r = true
  | [], [] => by simp [eqF]
  | [], _ :: _ => by simp [eqF]
  | _ :: _, [] => by simp [eqF]
  | x :: r, y :: s => by
    rw [eqF, Bool.and_eq_true, eqF_iff]
    constructor
    · rintro ⟨h1, h2, h3⟩
      refine ⟨by simp [h2], fun i a b ha hb => ?_⟩
      rcases i with _ | i
      · simp at ha hb; subst ha; subst hb; exact h1
      · exact h3 i a b (by simpa using ha) (by simpa using hb)
    · rintro ⟨h2, h3⟩
      exact ⟨h3 0 x y rfl rfl, by simpa using h2, fun i a b ha hb => h3 (i + 1) a b (by simpa using ha) (by simpa using hb)⟩
def outB (m : Int) : Bool := decide (m < -1 ∨ 1048576 < m)
theorem c_out (m : Int) : PC 118 [.int .i64 m] (.bool (outB m)) := by
  refine pB Tryd.func118 rfl (by decide) Tryd.ntmps118 (by simp) Tryd.results118 ?_
  repeat' (first
 |refine aK fun K hK=>?_|refine Step.by1 ?_|refine sE (by decide) ?_|refine cz rfl ?_|refine Fork.by2 (fun h=>?_) fun h=>?_
 |(refine aR ?_;simp)
 |(refine Split.by2 (fun h=>?_) (fun h=>?_)<;>(simp [h]))
 |(apply hK;clear hK K)|refine AWh ‹_› ?_)
  all_goals first
    | exact r1q (cE (by simp [outB, *]; done) rfl)
    | exact r1q (cE (by simp [outB, *]; omega) rfl)
def idxL (P : Int → Bool) : List Int → Nat → Int
  | [], _ => -1
  | s :: r, i => if P s = true then i else idxL P r (i + 1)
theorem idxL_any {P : Int → Bool} : ∀ {l : List Int} {i : Nat}, 0 ≤ idxL P l i ↔ anyL P l = true
  | [], i => by simp [idxL, anyL_nil]
  | s :: r, i => by
    rw [idxL, anC, Bool.or_eq_true]
    by_cases h : P s = true
    · rw [if_pos h]; simp [h]
    · rw [if_neg h, idxL_any]; simp [h]
set_option maxHeartbeats 4000000 in
theorem c_idxInt (f : Nat) (P : Int → Bool) (hf : ∀ s : Int, PC f [.int .i64 s] (.bool (P s))) (l : List Int) (hll : l.length ≤ 1048576) :
    PC 131 [.vec (ivs l) l.length, .fn (.func f) [] []] (.int .i64 (idxL P l 0)) := by
  refine pB Tryd.func131 rfl (by decide) Tryd.ntmps131 (by simp) Tryd.results131 ?_
  repeat' (first
 |refine aK fun K hK=>?_|refine Step.by1 ?_|refine sE (by decide) ?_|refine cz rfl ?_|refine Fork.by2 (fun h=>?_) fun h=>?_
 |(refine aR ?_;simp [ivs])
 |(refine Split.by2 (fun h=>?_) (fun h=>?_)<;>(simp [h, ivs]))
 |(apply hK;clear hK K)|refine AWh ‹_› ?_)
  refine aL [0, 1, 7] (fun i : Nat => [(8, .int .i64 i)]) (fun _ => []) (fun i => i ≤ l.length ∧ idxL P (l.drop i) i = idxL P l 0) (fun i => l.length - i) 0 ⟨Nat.zero_le _, rfl⟩ (by apply Weak.mk' <;> simp [ivs]) (fun _ _ => rfl) ?_
  rintro i ⟨hi, hk⟩
  by_cases hlt : i < l.length
  · obtain ⟨s, hs⟩ : ∃ s, l[i] = s := ⟨_, rfl⟩
    rw [List.drop_eq_getElem_cons hlt, hs, idxL] at hk
    have hlt' : (i : Int) < l.length := by omega
    have w1 : IntKind.i64.wrap ((i : Int) + 1) = i + 1 := wI (by omega) (by omega)
    have hc := hf s
    generalize P s = b at *
    cases b
    · rw [if_neg (by simp)] at hk
      repeat' (first
 |refine aK fun K hK=>?_|refine Step.by1 ?_|refine sE (by decide) ?_|refine cz rfl ?_|refine Fork.by2 (fun h=>?_) fun h=>?_
 |(refine aR ?_;simp [ivs, hlt, hlt', hs, w1])
 |(refine Split.by2 (fun h=>?_) (fun h=>?_)<;>(simp [h, ivs, hlt, hlt', hs, w1]))
 |(refine aC (f := f) rfl rfl hc rfl rfl rfl ?_; simp [hs])
 |(apply hK;clear hK K)|refine AWh ‹_› ?_)
      refine ⟨i + 1, ⟨by omega, hk⟩, by omega, ?_⟩
      apply Weak.mk' <;> simp [ivs]
    · rw [if_pos rfl] at hk
      repeat' (first
 |refine aK fun K hK=>?_|refine Step.by1 ?_|refine sE (by decide) ?_|refine cz rfl ?_|refine Fork.by2 (fun h=>?_) fun h=>?_
 |(refine aR ?_;simp [ivs, hlt, hlt', hs, w1])
 |(refine Split.by2 (fun h=>?_) (fun h=>?_)<;>(simp [h, ivs, hlt, hlt', hs, w1]))
 |(refine aC (f := f) rfl rfl hc rfl rfl rfl ?_; simp [hs])
 |(apply hK;clear hK K)|refine AWh ‹_› ?_)
      exact r1q (cE (by simp [← hk]) rfl)
  · obtain rfl : i = l.length := by omega
    rw [List.drop_length, idxL] at hk
    repeat' (first
 |refine aK fun K hK=>?_|refine Step.by1 ?_|refine sE (by decide) ?_|refine cz rfl ?_|refine Fork.by2 (fun h=>?_) fun h=>?_
 |(refine aR ?_;simp [ivs])
 |(refine Split.by2 (fun h=>?_) (fun h=>?_)<;>(simp [h, ivs]))
 |(apply hK;clear hK K)|refine AWh ‹_› ?_)
    exact r1q (cE (by simp [← hk]) rfl)
set_option maxHeartbeats 4000000 in
theorem c_hasInt (f : Nat) (P : Int → Bool) (hf : ∀ s : Int, PC f [.int .i64 s] (.bool (P s))) (l : List Int) (hll : l.length ≤ 1048576) :
    PC 117 [.vec (ivs l) l.length, .fn (.func f) [] []] (.bool (anyL P l)) := by
  have hc := c_idxInt f P hf l hll
  have ha := idxL_any (P := P) (l := l) (i := 0)
  generalize idxL P l 0 = k at *
  generalize ivs l = L at *
  refine pB Tryd.func117 rfl (by decide) Tryd.ntmps117 (by simp) Tryd.results117 ?_
  by_cases hk : 0 ≤ k
  · rw [ha.1 hk]
    repeat' (first
 |refine aK fun K hK=>?_|refine Step.by1 ?_|refine sE (by decide) ?_|refine cz rfl ?_|refine Fork.by2 (fun h=>?_) fun h=>?_
 |((first|refine aR ?_|refine aC (f:=131) rfl rfl (hc) rfl rfl rfl ?_);simp [hk])
 |(refine Split.by2 (fun h=>?_) (fun h=>?_)<;>(simp [h, hk]))
 |(apply hK;clear hK K)|refine AWh ‹_› ?_)
    exact r1q (cE rfl rfl)
  · have hb : anyL P l = false := by
      cases h : anyL P l
      · rfl
      · exact absurd (ha.2 h) hk
    rw [hb]
    repeat' (first
 |refine aK fun K hK=>?_|refine Step.by1 ?_|refine sE (by decide) ?_|refine cz rfl ?_|refine Fork.by2 (fun h=>?_) fun h=>?_
 |((first|refine aR ?_|refine aC (f:=131) rfl rfl (hc) rfl rfl rfl ?_);simp [hk])
 |(refine Split.by2 (fun h=>?_) (fun h=>?_)<;>(simp [h, hk]))
 |(apply hK;clear hK K)|refine AWh ‹_› ?_)
    exact r1q (cE rfl rfl)
def rowOk (N : Nat) (r : List Int) : Bool := decide (r.length = N) && !anyL outB r
set_option maxHeartbeats 8000000 in
theorem g_eqLocs {h : List B} (hl : HL h) {b : Nat} {cs : List V} (hb : h[b]? = some (.var cs)) (f : Nat) (p : LocD → List Int → Bool) (l : List LocD) (m : List (List Int))
    (hf : ∀ (H : List B), HL H → H[b]? = some (.var cs) → ∀ a ∈ l, ∀ r ∈ m, GCall Tryd.prog GV f [.agg a.cells, .vec (ivs r) r.length, .ptr b 0] H (fun v h' => v = .bool (p a r) ∧ h' = H)) (hll : l.length ≤ 1048576) :
    GCall Tryd.prog GV 115 [vl LocD.cells l, .vec (rows2V m) m.length, .fn (.func f) [] [.ptr b 0]] h (fun v h' => v = .bool (eqF p l m) ∧ h' = h) := by
  have hrl : (rows2V m).length = m.length := by simp
  have hbl := (List.getElem?_eq_some_iff.1 hb).1
  have g0 := fun x : List B => ga0 (h := h) (x := x) rfl
  by_cases hlen : l.length = m.length
  · have hlen' : (l.length : Int) = m.length := by omega
    refine gB1 Tryd.func115 rfl (by decide) Tryd.ntmps115 (by simp) Tryd.results115 ?_
    repeat' (first
 |refine aK fun K hK=>?_|refine Step.by1 ?_|refine sE (by decide) ?_|refine cz rfl ?_|refine Fork.by2 (fun h=>?_) fun h=>?_
 |(refine aR ?_;simp [vl, hlen, hlen'])
 |(refine Split.by2 (fun h=>?_) (fun h=>?_)<;>(simp [h, vl, hlen, hlen']))
 |(apply hK;clear hK K)|refine AWh ‹_› ?_)
    refine aL [1, 2, 15, 16] (fun i : Nat => [(17, .int .i64 i)]) (fun _ => h) (fun i => i ≤ l.length ∧ eqF p (l.drop i) (m.drop i) = eqF p l m) (fun i => l.length - i) 0 ⟨Nat.zero_le _, rfl⟩ (Weak.sym (x := []) (by simp) hl (by simp [hbl, hlen])) (fun _ _ => rfl) ?_
    rintro i ⟨hi, hk⟩
    by_cases hlt : i < l.length
    · obtain ⟨a, haa⟩ : ∃ a, l[i] = a := ⟨_, rfl⟩
      have hlm : i < m.length := by omega
      obtain ⟨r, hrr⟩ : ∃ r, m[i] = r := ⟨_, rfl⟩
      rw [List.drop_eq_getElem_cons hlt, List.drop_eq_getElem_cons hlm, haa, hrr, eqF] at hk
      have hlt' : (i : Int) < l.length := by omega
      have hlm' : (i : Int) < m.length := by omega
      have w1 : IntKind.i64.wrap ((i : Int) + 1) = i + 1 := wI (by omega) (by omega)
      have c2 := rows2V_get (P := m) (i := i) (by rw [List.getElem?_eq_getElem hlm, hrr])
      have c3 : (rows2V m)[i]'(by omega) = [.vec (ivs r) r.length] := by rw [List.getElem?_eq_getElem (by omega)] at c2; exact Option.some.inj c2
      have hH : HL (h ++ [B.var a.cells]) := hl.push (by simp [LocD.cells, vl])
      have hc := hf (h ++ [B.var a.cells]) hH (by rw [List.getElem?_append_left hbl]; exact hb) a (haa ▸ List.getElem_mem hlt) r (hrr ▸ List.getElem_mem hlm)
      simp only [LocD.cells, vl] at hc
      generalize p a r = q at *
      cases q
      · rw [Bool.false_and] at hk
        repeat' (first
 |refine aK fun K hK=>?_|refine Step.by1 ?_|refine sE (by decide) ?_|refine cz rfl ?_|refine Fork.by2 (fun h=>?_) fun h=>?_
 |(refine aR ?_;simp [vl, LocD.cells, hlt, hlt', hlm, hlm', haa, c2, c3, w1, hrl, g0, hlen])
 |(refine Split.by2 (fun h=>?_) (fun h=>?_)<;>(simp [h, vl, LocD.cells, hlt, hlt', hlm, hlm', haa, c2, c3, w1, hrl, g0, hlen]))
 |(refine aG (f := f) rfl rfl hc rfl (fun v h' hq => ?_); obtain ⟨rfl, rfl⟩ := hq; simp [g0])
 |(apply hK;clear hK K)|refine AWh ‹_› ?_)
        exact retg1 ⟨by rw [← hk]; rfl, rfl⟩ rfl (Go.Proofs.YtgmlimipejcpgaaDoor.Leaves.symx (Nat.le_refl _) hl)
      · rw [Bool.true_and] at hk
        repeat' (first
 |refine aK fun K hK=>?_|refine Step.by1 ?_|refine sE (by decide) ?_|refine cz rfl ?_|refine Fork.by2 (fun h=>?_) fun h=>?_
 |(refine aR ?_;simp [vl, LocD.cells, hlt, hlt', hlm, hlm', haa, c2, c3, w1, hrl, g0, hlen])
 |(refine Split.by2 (fun h=>?_) (fun h=>?_)<;>(simp [h, vl, LocD.cells, hlt, hlt', hlm, hlm', haa, c2, c3, w1, hrl, g0, hlen]))
 |(refine aG (f := f) rfl rfl hc rfl (fun v h' hq => ?_); obtain ⟨rfl, rfl⟩ := hq; simp [g0])
 |(apply hK;clear hK K)|refine AWh ‹_› ?_)
        exact ⟨i + 1, ⟨by omega, hk⟩, by omega, Weak.sym (x := [B.var a.cells]) (by simp [LocD.cells, vl]) hl (by simp [hbl, hlen])⟩
    · obtain rfl : i = l.length := by omega
      rw [List.drop_length, hlen, List.drop_length, eqF] at hk
      repeat' (first
 |refine aK fun K hK=>?_|refine Step.by1 ?_|refine sE (by decide) ?_|refine cz rfl ?_|refine Fork.by2 (fun h=>?_) fun h=>?_
 |(refine aR ?_;simp [vl, hlen])
 |(refine Split.by2 (fun h=>?_) (fun h=>?_)<;>(simp [h, vl, hlen]))
 |(apply hK;clear hK K)|refine AWh ‹_› ?_)
      exact retg1 ⟨by rw [← hk]; rfl, rfl⟩ rfl (Go.AM.Leaves.sym (Nat.le_refl _) hl)
  · have hlen' : ¬ (l.length : Int) = m.length := by omega
    rw [eqF_ne hlen]
    refine gB1 Tryd.func115 rfl (by decide) Tryd.ntmps115 (by simp) Tryd.results115 ?_
    repeat' (first
 |refine aK fun K hK=>?_|refine Step.by1 ?_|refine sE (by decide) ?_|refine cz rfl ?_|refine Fork.by2 (fun h=>?_) fun h=>?_
 |(refine aR ?_;simp [vl, hlen, hlen'])
 |(refine Split.by2 (fun h=>?_) (fun h=>?_)<;>(simp [h, vl, hlen, hlen']))
 |(apply hK;clear hK K)|refine AWh ‹_› ?_)
    exact retg1 ⟨rfl, rfl⟩ rfl (Go.AM.Leaves.sym (Nat.le_refl _) hl)
set_option maxHeartbeats 8000000 in
theorem g_rowRight {H : List B} (hH : HL H) (n : NetD) {b : Nat} (hb : H[b]? = some (.var n.cells)) (a : LocD) (r : List Int) (hr : r.length ≤ 1048576) :
    GCall Tryd.prog GV 116 [.agg a.cells, .vec (ivs r) r.length, .ptr b 0] H (fun v h' => v = .bool (rowOk n.clocks.length r) ∧ h' = H) := by
  have hbl := (List.getElem?_eq_some_iff.1 hb).1
  have hc := c_hasInt 118 outB c_out r hr
  have hn : (H ++ [B.var a.cells])[b]? = some (.var n.cells) := by rw [List.getElem?_append_left hbl]; exact hb
  unfold rowOk
  generalize anyL outB r = q at *
  generalize ivs r = R at *
  simp only [LocD.cells, NetD.cells, vl] at hn hb ⊢
  refine gB1 Tryd.func116 rfl (by decide) Tryd.ntmps116 (by simp) Tryd.results116 ?_
  by_cases hk : r.length = n.clocks.length
  · have hk' : (r.length : Int) = n.clocks.length := by omega
    rw [hk] at hc
    repeat' (first
 |refine aK fun K hK=>?_|refine Step.by1 ?_|refine sE (by decide) ?_|refine cz rfl ?_|refine Fork.by2 (fun h=>?_) fun h=>?_
 |((first|refine aR ?_|refine aC (f:=117) rfl rfl (hc) rfl rfl rfl ?_);simp [hn, hk, hk'])
 |(refine Split.by2 (fun h=>?_) (fun h=>?_)<;>(simp [h, hn, hk, hk']))
 |(apply hK;clear hK K)|refine AWh ‹_› ?_)
    exact retg1 ⟨by simp [hk], rfl⟩ rfl (Go.Proofs.YtgmlimipejcpgaaDoor.Leaves.symx (Nat.le_refl _) hH)
  · have hk' : ¬ (r.length : Int) = n.clocks.length := by omega
    repeat' (first
 |refine aK fun K hK=>?_|refine Step.by1 ?_|refine sE (by decide) ?_|refine cz rfl ?_|refine Fork.by2 (fun h=>?_) fun h=>?_
 |((first|refine aR ?_|refine aC (f:=117) rfl rfl (hc) rfl rfl rfl ?_);simp [hn, hk, hk'])
 |(refine Split.by2 (fun h=>?_) (fun h=>?_)<;>(simp [h, hn, hk, hk']))
 |(apply hK;clear hK K)|refine AWh ‹_› ?_)
    exact retg1 ⟨by simp [hk], rfl⟩ rfl (Go.Proofs.YtgmlimipejcpgaaDoor.Leaves.symx (Nat.le_refl _) hH)
def locsOk (N : Nat) (a : AutoD) (Q : List (List Int)) : Bool := eqF (fun _ r => rowOk N r) a.locs Q
set_option maxHeartbeats 8000000 in
theorem g_eqAutos {h : List B} (hl : HL h) {b : Nat} {cs : List V} (hb : h[b]? = some (.var cs)) (f : Nat) (p : AutoD → List (List Int) → Bool) (l : List AutoD) (m : List (List (List Int)))
    (hf : ∀ (H : List B), HL H → H[b]? = some (.var cs) → ∀ a ∈ l, ∀ r ∈ m, GCall Tryd.prog GV f [.agg a.cells, .vec (rows2V r) r.length, .ptr b 0] H (fun v h' => v = .bool (p a r) ∧ h' = H)) (hll : l.length ≤ 1048576) :
    GCall Tryd.prog GV 113 [vl AutoD.cells l, .vec (rows3V m) m.length, .fn (.func f) [] [.ptr b 0]] h (fun v h' => v = .bool (eqF p l m) ∧ h' = h) := by
  have hrl : (rows3V m).length = m.length := by simp
  have hbl := (List.getElem?_eq_some_iff.1 hb).1
  have g0 := fun x : List B => ga0 (h := h) (x := x) rfl
  by_cases hlen : l.length = m.length
  · have hlen' : (l.length : Int) = m.length := by omega
    refine gB1 Tryd.func113 rfl (by decide) Tryd.ntmps113 (by simp) Tryd.results113 ?_
    repeat' (first
 |refine aK fun K hK=>?_|refine Step.by1 ?_|refine sE (by decide) ?_|refine cz rfl ?_|refine Fork.by2 (fun h=>?_) fun h=>?_
 |(refine aR ?_;simp [vl, hlen, hlen'])
 |(refine Split.by2 (fun h=>?_) (fun h=>?_)<;>(simp [h, vl, hlen, hlen']))
 |(apply hK;clear hK K)|refine AWh ‹_› ?_)
    refine aL [1, 2, 15, 16] (fun i : Nat => [(17, .int .i64 i)]) (fun _ => h) (fun i => i ≤ l.length ∧ eqF p (l.drop i) (m.drop i) = eqF p l m) (fun i => l.length - i) 0 ⟨Nat.zero_le _, rfl⟩ (Weak.sym (x := []) (by simp) hl (by simp [hbl, hlen])) (fun _ _ => rfl) ?_
    rintro i ⟨hi, hk⟩
    by_cases hlt : i < l.length
    · obtain ⟨a, haa⟩ : ∃ a, l[i] = a := ⟨_, rfl⟩
      have hlm : i < m.length := by omega
      obtain ⟨r, hrr⟩ : ∃ r, m[i] = r := ⟨_, rfl⟩
      rw [List.drop_eq_getElem_cons hlt, List.drop_eq_getElem_cons hlm, haa, hrr, eqF] at hk
      have hlt' : (i : Int) < l.length := by omega
      have hlm' : (i : Int) < m.length := by omega
      have w1 : IntKind.i64.wrap ((i : Int) + 1) = i + 1 := wI (by omega) (by omega)
      have c2 := rows3V_get (P := m) (i := i) (by rw [List.getElem?_eq_getElem hlm, hrr])
      have c3 : (rows3V m)[i]'(by omega) = [.vec (rows2V r) r.length] := by rw [List.getElem?_eq_getElem (by omega)] at c2; exact Option.some.inj c2
      have hH : HL (h ++ [B.var a.cells]) := hl.push (by simp [AutoD.cells, vl])
      have hc := hf (h ++ [B.var a.cells]) hH (by rw [List.getElem?_append_left hbl]; exact hb) a (haa ▸ List.getElem_mem hlt) r (hrr ▸ List.getElem_mem hlm)
      simp only [AutoD.cells, vl] at hc
      generalize p a r = q at *
      cases q
      · rw [Bool.false_and] at hk
        repeat' (first
 |refine aK fun K hK=>?_|refine Step.by1 ?_|refine sE (by decide) ?_|refine cz rfl ?_|refine Fork.by2 (fun h=>?_) fun h=>?_
 |(refine aR ?_;simp [vl, AutoD.cells, hlt, hlt', hlm, hlm', haa, c2, c3, w1, hrl, g0, hlen])
 |(refine Split.by2 (fun h=>?_) (fun h=>?_)<;>(simp [h, vl, AutoD.cells, hlt, hlt', hlm, hlm', haa, c2, c3, w1, hrl, g0, hlen]))
 |(refine aG (f := f) rfl rfl hc rfl (fun v h' hq => ?_); obtain ⟨rfl, rfl⟩ := hq; simp [g0])
 |(apply hK;clear hK K)|refine AWh ‹_› ?_)
        exact retg1 ⟨by rw [← hk]; rfl, rfl⟩ rfl (Go.Proofs.YtgmlimipejcpgaaDoor.Leaves.symx (Nat.le_refl _) hl)
      · rw [Bool.true_and] at hk
        repeat' (first
 |refine aK fun K hK=>?_|refine Step.by1 ?_|refine sE (by decide) ?_|refine cz rfl ?_|refine Fork.by2 (fun h=>?_) fun h=>?_
 |(refine aR ?_;simp [vl, AutoD.cells, hlt, hlt', hlm, hlm', haa, c2, c3, w1, hrl, g0, hlen])
 |(refine Split.by2 (fun h=>?_) (fun h=>?_)<;>(simp [h, vl, AutoD.cells, hlt, hlt', hlm, hlm', haa, c2, c3, w1, hrl, g0, hlen]))
 |(refine aG (f := f) rfl rfl hc rfl (fun v h' hq => ?_); obtain ⟨rfl, rfl⟩ := hq; simp [g0])
 |(apply hK;clear hK K)|refine AWh ‹_› ?_)
        exact ⟨i + 1, ⟨by omega, hk⟩, by omega, Weak.sym (x := [B.var a.cells]) (by simp [AutoD.cells, vl]) hl (by simp [hbl, hlen])⟩
    · obtain rfl : i = l.length := by omega
      rw [List.drop_length, hlen, List.drop_length, eqF] at hk
      repeat' (first
 |refine aK fun K hK=>?_|refine Step.by1 ?_|refine sE (by decide) ?_|refine cz rfl ?_|refine Fork.by2 (fun h=>?_) fun h=>?_
 |(refine aR ?_;simp [vl, hlen])
 |(refine Split.by2 (fun h=>?_) (fun h=>?_)<;>(simp [h, vl, hlen]))
 |(apply hK;clear hK K)|refine AWh ‹_› ?_)
      exact retg1 ⟨by rw [← hk]; rfl, rfl⟩ rfl (Go.AM.Leaves.sym (Nat.le_refl _) hl)
  · have hlen' : ¬ (l.length : Int) = m.length := by omega
    rw [eqF_ne hlen]
    refine gB1 Tryd.func113 rfl (by decide) Tryd.ntmps113 (by simp) Tryd.results113 ?_
    repeat' (first
 |refine aK fun K hK=>?_|refine Step.by1 ?_|refine sE (by decide) ?_|refine cz rfl ?_|refine Fork.by2 (fun h=>?_) fun h=>?_
 |(refine aR ?_;simp [vl, hlen, hlen'])
 |(refine Split.by2 (fun h=>?_) (fun h=>?_)<;>(simp [h, vl, hlen, hlen']))
 |(apply hK;clear hK K)|refine AWh ‹_› ?_)
    exact retg1 ⟨rfl, rfl⟩ rfl (Go.AM.Leaves.sym (Nat.le_refl _) hl)
set_option maxHeartbeats 8000000 in
theorem g_halfRight {H : List B} (hH : HL H) (n : NetD) {b : Nat} (hb : H[b]? = some (.var n.cells)) (a : AutoD) (hal : a.locs.length ≤ 1048576) (Q : List (List Int)) (hQ : ∀ r ∈ Q, r.length ≤ 1048576) :
    GCall Tryd.prog GV 114 [.agg a.cells, .vec (rows2V Q) Q.length, .ptr b 0] H (fun v h' => v = .bool (locsOk n.clocks.length a Q) ∧ h' = H) := by
  have hbl := (List.getElem?_eq_some_iff.1 hb).1
  have hn : (H ++ [B.var a.cells])[b]? = some (.var n.cells) := by rw [List.getElem?_append_left hbl]; exact hb
  have hH2 : HL (H ++ [B.var a.cells]) := hH.push (by simp [AutoD.cells, vl])
  have hc := g_eqLocs hH2 hn 116 (fun _ r => rowOk n.clocks.length r) a.locs Q (fun H' hl' hb' x _ r hr => g_rowRight hl' n hb' x r (hQ r hr)) hal
  have g0 := fun x : List B => ga0 (h := H) (x := x) rfl
  unfold locsOk
  generalize eqF (fun _ r => rowOk n.clocks.length r) a.locs Q = q at *
  generalize rows2V Q = R at *
  simp only [AutoD.cells, vl] at hc ⊢
  refine gB1 Tryd.func114 rfl (by decide) Tryd.ntmps114 (by simp) Tryd.results114 ?_
  repeat' (first
 |refine aK fun K hK=>?_|refine Step.by1 ?_|refine sE (by decide) ?_|refine cz rfl ?_|refine Fork.by2 (fun h=>?_) fun h=>?_
 |(refine aR ?_;simp [g0, hbl])
 |(refine Split.by2 (fun h=>?_) (fun h=>?_)<;>(simp [h, g0, hbl]))
 |(refine aG (f := 115) rfl rfl hc rfl (fun v h' hq => ?_); obtain ⟨rfl, rfl⟩ := hq; simp)
 |(apply hK;clear hK K)|refine AWh ‹_› ?_)
  exact retg1 ⟨rfl, rfl⟩ rfl (Go.Proofs.YtgmlimipejcpgaaDoor.Leaves.symx (Nat.le_refl _) hH)
def halfOk (n : NetD) (P : List (List (List Int))) : Bool := eqF (fun a Q => locsOk n.clocks.length a Q) n.autos P
/-- A plan as it is read. -/
def planOk (P : List (List (List Int))) : Prop := P.length ≤ 1048576 ∧ ∀ Q ∈ P, Q.length ≤ 1048576 ∧ ∀ r ∈ Q, r.length ≤ 1048576
set_option maxHeartbeats 8000000 in
theorem c_luright (n : NetD) (hn : n.ok) (P : List (List (List Int))) (hP : planOk P) : PC 101 [.agg n.cells, halfV P] (.bool (halfOk n P)) := by
  have hH : HL [B.var n.cells] := by simp [HL, NetD.cells, vl]
  have hal := hn.2.2.2.1
  have hc := g_eqAutos (h := [B.var n.cells]) hH (b := 0) rfl 114 (fun a Q => locsOk n.clocks.length a Q) n.autos P (fun H' hl' hb' a ha Q hQ => g_halfRight hl' n hb' a (by have := (hn.2.2.2.2 a ha).2.1.1; omega) Q (hP.2 Q hQ).2) (by omega)
  unfold halfOk halfV
  generalize eqF (fun a Q => locsOk n.clocks.length a Q) n.autos P = q at *
  generalize rows3V P = R at *
  simp only [NetD.cells, vl] at hc ⊢
  refine pB Tryd.func101 rfl (by decide) Tryd.ntmps101 (by simp) Tryd.results101 ?_
  repeat' (first
 |refine aK fun K hK=>?_|refine Step.by1 ?_|refine sE (by decide) ?_|refine cz rfl ?_|refine Fork.by2 (fun h=>?_) fun h=>?_
 |(refine aR ?_;simp)
 |(refine Split.by2 (fun h=>?_) (fun h=>?_)<;>(simp [h]))
 |(refine aG (f := 113) rfl rfl hc rfl (fun v h' hq => ?_); obtain ⟨rfl, rfl⟩ := hq; simp)
 |(apply hK;clear hK K)|refine AWh ‹_› ?_)
  exact r1q (cE rfl rfl)
theorem c_netRight (n : NetD) (hn : n.ok) : PC 100 [.agg n.cells] (.bool (decide (wholeE n = 0))) := by
  have hc := c_Whole n hn
  generalize wholeE n = e at *
  simp only [NetD.cells, vl] at hc
  refine pB Tryd.func100 rfl (by decide) Tryd.ntmps100 (by simp) Tryd.results100 ?_
  repeat' (first
 |refine aK fun K hK=>?_|refine Step.by1 ?_|refine sE (by decide) ?_|refine cz rfl ?_|refine Fork.by2 (fun h=>?_) fun h=>?_
 |((first|refine aR ?_|refine aC (f:=12) rfl rfl (hc) rfl rfl rfl ?_);simp [NetD.cells, vl])
 |(refine Split.by2 (fun h=>?_) (fun h=>?_)<;>(simp [h, NetD.cells, vl]))
 |(apply hK;clear hK K)|refine AWh ‹_› ?_)
  exact r1q (cE rfl rfl)
def rightPE (n : NetD) (P1 P2 : List (List (List Int))) : Bool := decide (wholeE n = 0) && halfOk n P1 && halfOk n P2
set_option maxHeartbeats 8000000 in
theorem c_luRight (n : NetD) (hn : n.ok) (P1 P2 : List (List (List Int))) (h1 : planOk P1) (h2 : planOk P2) : PC 59 [.agg n.cells, .agg [halfV P1, halfV P2]] (.bool (rightPE n P1 P2)) := by
  have hc := c_netRight n hn
  have c1 := c_luright n hn P1 h1
  have c2 := c_luright n hn P2 h2
  unfold rightPE
  generalize decide (wholeE n = 0) = b0 at *
  generalize halfOk n P1 = b1 at *
  generalize halfOk n P2 = b2 at *
  simp only [NetD.cells, vl, halfV] at hc c1 c2 ⊢
  generalize rows3V P1 = R1 at *
  generalize rows3V P2 = R2 at *
  refine pB Tryd.func59 rfl (by decide) Tryd.ntmps59 (by simp) Tryd.results59 ?_
  cases b0
  · repeat' (first
 |refine aK fun K hK=>?_|refine Step.by1 ?_|refine sE (by decide) ?_|refine cz rfl ?_|refine Fork.by2 (fun h=>?_) fun h=>?_
 |((first|refine aR ?_|refine aC (f:=100) rfl rfl (hc) rfl rfl rfl ?_);simp)
 |(refine Split.by2 (fun h=>?_) (fun h=>?_)<;>(simp [h]))
 |(apply hK;clear hK K)|refine AWh ‹_› ?_)
    exact r1q (cE rfl rfl)
  · cases b1
    · repeat' (first
 |refine aK fun K hK=>?_|refine Step.by1 ?_|refine sE (by decide) ?_|refine cz rfl ?_|refine Fork.by2 (fun h=>?_) fun h=>?_
 |((first|refine aR ?_|refine aC (f:=100) rfl rfl (hc) rfl rfl rfl ?_|refine aC (f:=101) rfl rfl (c1) rfl rfl rfl ?_);simp)
 |(refine Split.by2 (fun h=>?_) (fun h=>?_)<;>(simp [h]))
 |(apply hK;clear hK K)|refine AWh ‹_› ?_)
      exact r1q (cE rfl rfl)
    · repeat' (first
 |refine aK fun K hK=>?_|refine Step.by1 ?_|refine sE (by decide) ?_|refine cz rfl ?_|refine Fork.by2 (fun h=>?_) fun h=>?_
 |((first|refine aR ?_|refine aC (f:=100) rfl rfl (hc) rfl rfl rfl ?_|refine aC (f:=101) rfl rfl (c1) rfl rfl rfl ?_|refine aC (f:=101) rfl rfl (c2) rfl rfl rfl ?_);simp)
 |(refine Split.by2 (fun h=>?_) (fun h=>?_)<;>(simp [h]))
 |(apply hK;clear hK K)|refine AWh ‹_› ?_)
      exact r1q (cE rfl rfl)
theorem ivs_get {r : List Int} {c : Nat} {m : Int} (h : r[c]? = some m) : (ivs r)[c]? = some [V.int .i64 m] := by simp [ivs, h]
theorem ivs_len {r : List Int} : (ivs r).length = r.length := by simp [ivs]
set_option maxHeartbeats 4000000 in
theorem c_CloneI (l : List Int) (hl : l.length ≤ 1048576) : PC 95 [.vec (ivs l) l.length] (.own 3 (ivs l)) := by
  have b1 : l.length * 8 ≤ 140737488355328 := by omega
  have il : (ivs l).length = l.length := ivs_len
  have tk : List.take l.length (ivs l) = ivs l := List.take_of_length_le (by omega)
  have hz : (∀ z : List V, z ∈ ivs l → z.length = 1) = True := eq_true fun z hz => by obtain ⟨k, _, rfl⟩ := List.mem_map.1 hz; rfl
  refine pB Tryd.func95 rfl (by decide) Tryd.ntmps95 (by simp) Tryd.results95 ?_
  repeat' (first
 |(refine AW_nilrow 2 3 rfl (by simp) ?_)
 |(refine AW_region (id := 1) ?_; refine AS_op rfl rfl S_move ?_; refine AS_eqnil Tryd.underlying30 (by rfl) (by rfl) (by rfl) (fun b hb => ?_); refine AS_nil ?_; cases b)
 |refine aK fun K hK=>?_|refine Step.by1 ?_|refine sE (by decide) ?_|refine cz rfl ?_|refine Fork.by2 (fun h=>?_) fun h=>?_
 |(refine aR ?_;simp [b1, tk, il, hz])
 |(refine Split.by2 (fun h=>?_) (fun h=>?_)<;>(simp [h, b1, tk, il, hz]))
 |(apply hK;clear hK K)|refine AWh ‹_› ?_)
  · exact r1q (.inr (.inl (conv1_own rfl (by simp [il]))))
  · have := List.eq_nil_of_length_eq_zero (hb rfl)
    subst this
    exact r1q (.inr (.inl (conv1_own rfl (by simp [ivs]))))
def ids3 (T : Rows3) : List (Nat × Nat × Nat) := T.flatMap (·.2.2.2)
theorem N3.mem_row {o h b g fl} {T : Rows3} {P : List (List (List Int))} (q : N3 o h b g fl T P) {x : Nat × Nat × Nat} (hx : x ∈ ids3 T) :
    ∃ ns Q, Q ∈ P ∧ ns ∈ Q ∧ h[x.1]? = some (.row 3 x.2.1 0 true (ivs ns)) ∧ ns.length = x.2.2 := by
  obtain ⟨y, h1, h2⟩ := List.mem_flatMap.1 hx
  obtain ⟨i, hi⟩ := List.getElem?_of_mem h1
  obtain ⟨Q, hQ, hN⟩ := q.rows i y hi
  obtain ⟨j, hj⟩ := List.getElem?_of_mem h2
  obtain ⟨ns, k1, k2, k3⟩ := hN.rows j x hj
  exact ⟨ns, Q, List.mem_of_getElem? hQ, List.mem_of_getElem? k1, k3, k2⟩
theorem N3.low_row {o h b g fl} {T : Rows3} {P : List (List (List Int))} (q : N3 o h b g fl T P) : (∀ y ∈ T, o ≤ y.1) ∧ ∀ x ∈ ids3 T, o ≤ x.1 := by
  have key : ∀ y ∈ T, o ≤ y.1 ∧ ∀ x ∈ y.2.2.2, o ≤ x.1 := fun y hy => by
    obtain ⟨i, hi⟩ := List.getElem?_of_mem hy
    obtain ⟨Q, hQ, hN⟩ := q.rows i y hi
    exact hN.low
  refine ⟨fun y hy => (key y hy).1, fun x hx => ?_⟩
  obtain ⟨y, h1, h2⟩ := List.mem_flatMap.1 hx
  exact (key y h1).2 x h2
theorem N3.hi_row {o h b g fl} {T : Rows3} {P : List (List (List Int))} (q : N3 o h b g fl T P) : (∀ y ∈ T, y.1 < h.length) ∧ ∀ x ∈ ids3 T, x.1 < h.length := by
  refine ⟨fun y hy => ?_, fun x hx => ?_⟩
  · obtain ⟨i, hi⟩ := List.getElem?_of_mem hy
    obtain ⟨Q, hQ, hN⟩ := q.rows i y hi
    exact hN.b_lt
  · obtain ⟨y, h1, h2⟩ := List.mem_flatMap.1 hx
    exact q.ids_lt y h1 x h2
theorem ivs_set {l : List Int} {c : Nat} {v : Int} : ivs (l.set c v) = (ivs l).set c [V.int .i64 v] := by simp [ivs, List.map_set]
end Go.Proofs.YtgmlimipejcpgaaDoor
end
