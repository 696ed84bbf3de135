/-
  YtgmlimipejcpgaaGreatDoorCo16: steps of the proof of a law of the program: what these texts prove holds under the hypotheses that their theorems name, and no others.
-/
import Derived.Test.YtgmlimipejcpgaaGreatDoorCo13
section
set_option linter.unusedSimpArgs false
set_option linter.unusedVariables false
namespace Go.Proofs.YtgmlimipejcpgaaGreatDoor
open Go Go.AM Fx
theorem take_same {α : Type} {a b : List α} {i : Nat} (h : a.take i = b.take i) (h1 : i < a.length) (h2 : i < b.length) (hx : a[i] = b[i]) : a.take (i + 1) = b.take (i + 1) := by
  rw [List.take_add_one, List.take_add_one, h, List.getElem?_eq_getElem h1, List.getElem?_eq_getElem h2, hx]
theorem take_end {α : Type} {a b : List α} (h : a.take a.length = b.take a.length) (hl : a.length = b.length) : a = b := by
  rw [List.take_length, hl, List.take_length] at h; exact h
/-- A row that is filled from its beginning on. -/
def fillR (f : Nat → List V) (z : List V) (n i : Nat) : List (List V) := (List.range i).map f ++ List.replicate (n - i) z
theorem fillR_set {f : Nat → List V} {z : List V} {n i : Nat} (h : i < n) : (fillR f z n i).set i (f i) = fillR f z n (i + 1) := by
  unfold fillR
  obtain ⟨m, hm⟩ : ∃ m, n - i = m + 1 := ⟨n - i - 1, by omega⟩
  rw [hm, show n - (i + 1) = m by omega, List.range_succ, List.map_append, List.set_append_right _ _ (by simp)]
  simp [List.replicate_succ]
theorem fillR_len {f : Nat → List V} {z : List V} {n i : Nat} (h : i ≤ n) : (fillR f z n i).length = n := by simp [fillR]; omega
theorem fillR_get {f : Nat → List V} {z : List V} {n i : Nat} (h : i < n) : (fillR f z n i)[i]? = some z := by
  unfold fillR
  rw [List.getElem?_append_right (by simp), List.length_map, List.length_range, Nat.sub_self, List.getElem?_replicate, if_pos (by omega)]
/-- What a copy with marked room holds. -/
def handF {α : Type} (c : α → List V) (mark : Nat → List V) (l : List α) (k : Nat) : List V := match l[k]? with
  | some x => c x
  | none => mark (k - l.length)
theorem handF_in {α : Type} {c : α → List V} {mark : Nat → List V} {l : List α} {k : Nat} (h : k < l.length) : handF c mark l k = c l[k] := by simp [handF, h]
theorem handF_out {α : Type} {c : α → List V} {mark : Nat → List V} {l : List α} {j : Nat} : handF c mark l (l.length + j) = mark j := by simp [handF]
theorem range_hand {α : Type} {c : α → List V} {mark : Nat → List V} {l : List α} (m : Nat) : (List.range (l.length + m)).map (handF c mark l) = l.map c ++ (List.range m).map mark := by
  apply List.ext_getElem?
  intro i
  rcases Nat.lt_or_ge i l.length with h | h
  · rw [List.getElem?_append_left (by simpa using h)]
    rw [List.getElem?_map, List.getElem?_range (by omega), List.getElem?_map, List.getElem?_eq_getElem h]; simp [handF, h]
  · rw [List.getElem?_append_right (by simpa using h)]
    rcases Nat.lt_or_ge i (l.length + m) with h2 | h2
    · obtain ⟨j, rfl⟩ : ∃ j, i = l.length + j := ⟨i - l.length, by omega⟩
      rw [List.getElem?_map, List.getElem?_range h2, List.getElem?_map, List.length_map, Nat.add_sub_cancel_left, List.getElem?_range (by omega)]; simp [handF_out]
    · rw [List.getElem?_eq_none (by simp; omega), List.getElem?_eq_none (by simp; omega)]
theorem trims_map (cs : List V) (h : ∀ v ∈ cs, v.trim = v) : V.trims cs = cs := by
  rw [trims_eq]
  conv => rhs; rw [← List.map_id cs]
  exact List.map_congr_left fun v hv => h v hv
/-- What is seen of a list whose room is marked. -/
theorem trim_pad {α : Type} {c c' : α → List V} {l : List α} (pad : List (List V)) (h : ∀ x ∈ l, V.trims (c x) = c' x) : (V.vec (l.map c ++ pad) l.length).trim = vl c' l := by
  rw [V.trim, trimR_eq, List.take_append_of_le_length (by simp), List.take_of_length_le (by simp), List.map_map]
  unfold vl
  congr 1
  exact List.map_congr_left fun x hx => h x hx
theorem trim_vl {α : Type} {c : α → List V} {l : List α} (h : ∀ x ∈ l, V.trims (c x) = c x) : (vl c l).trim = vl c l := by
  have := trim_pad (c := c) (c' := c) (l := l) [] h
  rw [List.append_nil] at this; exact this
def handV {α : Type} (c : α → List V) (mark : Nat → List V) (l : List α) : V := .vec (l.map c ++ (List.range 9).map mark) l.length
def kindT : Nat → Int × Bool × Bool × ByteArray × Int
  | 0 => (0, false, false, ⟨#[]⟩, 0)
  | 1 => (0, false, false, ⟨#[]⟩, 9)
  | 2 => (0, false, false, ⟨#[]⟩, 9)
  | 3 => (1, false, false, ⟨#[45]⟩, 6)
  | 4 => (2, false, false, ⟨#[43]⟩, 4)
  | 5 => (2, false, false, ⟨#[45]⟩, 4)
  | 6 => (2, false, false, ⟨#[42]⟩, 5)
  | 7 => (0, true, false, ⟨#[116, 114, 117, 101]⟩, 9)
  | 8 => (2, true, false, ⟨#[60]⟩, 3)
  | 9 => (2, true, false, ⟨#[60, 61]⟩, 3)
  | 10 => (2, true, false, ⟨#[61, 61]⟩, 3)
  | 11 => (2, true, false, ⟨#[33, 61]⟩, 3)
  | 12 => (1, true, true, ⟨#[33]⟩, 9)
  | 13 => (2, true, true, ⟨#[38, 38]⟩, 2)
  | 14 => (2, true, true, ⟨#[124, 124]⟩, 1)
  | _ => (0, false, false, ⟨#[]⟩, 0)
def known (o : Int) : Bool := decide (1 ≤ o ∧ o ≤ 14)
def kindO (o : Int) : Int × Bool × Bool × ByteArray × Int := if known o = true then kindT o.toNat else (0, false, false, ⟨#[]⟩, 0)
def kparts (o : Int) : Int := (kindO o).1
def ktruth (o : Int) : Bool := (kindO o).2.1
def ktakes (o : Int) : Bool := (kindO o).2.2.1
def ksign (o : Int) : ByteArray := (kindO o).2.2.2.1
def kbinds (o : Int) : Int := (kindO o).2.2.2.2
def kcells (o : Int) : List V := [.int .i64 (kparts o), .bool (ktruth o), .bool (ktakes o), .str (ksign o), .int .i64 (kbinds o)]
theorem kinds_at : ∀ j : Nat, 1 ≤ j → j ≤ 14 → (kindsV.drop (j * 5)).take 5 = kcells j := by
  intro j h1 h2
  match j, h1, h2 with
  | 1, _, _ => rfl
  | 2, _, _ => rfl
  | 3, _, _ => rfl
  | 4, _, _ => rfl
  | 5, _, _ => rfl
  | 6, _, _ => rfl
  | 7, _, _ => rfl
  | 8, _, _ => rfl
  | 9, _, _ => rfl
  | 10, _, _ => rfl
  | 11, _, _ => rfl
  | 12, _, _ => rfl
  | 13, _, _ => rfl
  | 14, _, _ => rfl
  | j + 15, _, h => omega
set_option maxRecDepth 8000 in
theorem c_of (o : Int) (ho : 0 ≤ o ∧ o ≤ 255) : PC 220 [.int .u8 o] (.tup [.agg (kcells o), .bool (known o)]) := by
  by_cases hk : 1 ≤ o ∧ o ≤ 14
  · obtain ⟨j, rfl⟩ := Int.eq_ofNat_of_zero_le ho.1
    have hat := kinds_at j (by omega) (by omega)
    have k1 : ¬ (j : Int) < 1 := by omega
    have k2 : ¬ (14 : Int) < j := by omega
    have k3 : (j : Int) < 15 := by omega
    have k4 : j * 5 + 5 ≤ 75 := by omega
    have hlen : kindsV.length = 75 := rfl
    have hkn : known (j : Int) = true := by simp [known]; omega
    have hkl : (kcells (j : Int)).length = 5 := rfl
    have k5 : min 5 (75 - j * 5) = 5 := by omega
    rw [hkn]
    refine pB Tryz.func220 rfl (by decide) Tryz.ntmps220 (by simp) Tryz.results220 ?_
    repeat' (first
 |refine aK fun K hK=>?_|refine Step.by1 ?_|refine sE (by decide) ?_|refine cz rfl ?_|refine Fork.by2 (fun h=>?_) fun h=>?_
 |(refine aR ?_;simp [k1, k2, k3, k4, hlen, k5, hat, hkl])
 |(refine Split.by2 (fun h=>?_) (fun h=>?_)<;>(simp [h, k1, k2, k3, k4, hlen, k5, hat, hkl]))
 |(apply hK;clear hK K)|refine AWh ‹_› ?_)
    exact retq2ct rfl (by simp [kcells]) (cE (by simp [kcells]) (by simp [kcells]))
  · have hkn : known o = false := by simpa [known] using hk
    have hkc : kcells o = [.int .i64 0, .bool false, .bool false, .str ⟨#[]⟩, .int .i64 0] := by simp [kcells, kparts, ktruth, ktakes, ksign, kbinds, kindO, hkn]
    rw [hkc, hkn]
    refine pB Tryz.func220 rfl (by decide) Tryz.ntmps220 (by simp) Tryz.results220 ?_
    by_cases h1 : o < 1
    · repeat' (first
 |refine aK fun K hK=>?_|refine Step.by1 ?_|refine sE (by decide) ?_|refine cz rfl ?_|refine Fork.by2 (fun h=>?_) fun h=>?_
 |(refine aR ?_;simp [h1])
 |(refine Split.by2 (fun h=>?_) (fun h=>?_)<;>(simp [h, h1]))
 |(apply hK;clear hK K)|refine AWh ‹_› ?_)
      exact retq2ct rfl (by simp) (cE (by simp) (by simp))
    · have h2 : 14 < o := by omega
      repeat' (first
 |refine aK fun K hK=>?_|refine Step.by1 ?_|refine sE (by decide) ?_|refine cz rfl ?_|refine Fork.by2 (fun h=>?_) fun h=>?_
 |(refine aR ?_;simp [h1, h2])
 |(refine Split.by2 (fun h=>?_) (fun h=>?_)<;>(simp [h, h1, h2]))
 |(apply hK;clear hK K)|refine AWh ‹_› ?_)
      exact retq2ct rfl (by simp) (cE (by simp) (by simp))
theorem kparts_le (o : Int) : 0 ≤ kparts o ∧ kparts o ≤ 2 := by
  unfold kparts kindO
  split
  · unfold kindT; split <;> decide
  · decide
/-- The place behind so many trees, from a place on; 0: there are not so many. -/
def endL : List NodeD → Int → Int → Int
  | [], _, _ => 0
  | x :: r, need, at_ => if need + kparts x.op - 1 = 0 then at_ + 1 else endL r (need + kparts x.op - 1) (at_ + 1)
def endAt (l : List NodeD) (at_ : Nat) : Int := endL (l.drop at_) 1 at_
set_option maxRecDepth 8000 in
set_option maxHeartbeats 4000000 in
theorem c_End (l : List NodeD) (hl : l.length ≤ 1048576 ∧ ∀ x ∈ l, x.ok) (at0 : Nat) (ha : at0 ≤ 1099511627776) : PC 219 [vl NodeD.cells l, .int .i64 at0] (.int .i64 (endAt l at0)) := by
  obtain ⟨hl1, hl2⟩ := hl
  obtain ⟨r, hr⟩ : ∃ r, endAt l at0 = r := ⟨_, rfl⟩
  rw [hr]
  have hneg : ¬ (at0 : Int) < 0 := by omega
  refine pB Tryz.func219 rfl (by decide) Tryz.ntmps219 (by simp) Tryz.results219 ?_
  repeat' (first
 |refine aK fun K hK=>?_|refine Step.by1 ?_|refine sE (by decide) ?_|refine cz rfl ?_|refine Fork.by2 (fun h=>?_) fun h=>?_
 |(refine aR ?_;simp [vl, hneg])
 |(refine Split.by2 (fun h=>?_) (fun h=>?_)<;>(simp [h, vl, hneg]))
 |(apply hK;clear hK K)|refine AWh ‹_› ?_)
  refine aL [0] (fun s : Nat × Int => [(1, .int .i64 (s.1 : Int)), (5, .int .i64 s.2)]) (fun _ => []) (fun s => 0 ≤ s.2 ∧ s.2 ≤ s.1 * 2 + 1 ∧ s.1 ≤ at0 + l.length ∧ (if s.2 = 0 then (s.1 : Int) = r else endL (l.drop s.1) s.2 s.1 = r)) (fun s => at0 + l.length + 1 - s.1) (at0, 1) ⟨(by decide : (0 : Int) ≤ 1), (by simp only; omega), (by simp only; omega), (by simpa [endAt] using hr)⟩ (by apply Weak.mk' <;> simp [vl]) (fun _ _ => rfl) ?_
  rintro ⟨p, need⟩ ⟨i1, i2, i3, i4⟩
  simp only at i1 i2 i3 i4
  by_cases hn0 : need = 0
  · subst hn0
    rw [if_pos rfl] at i4
    repeat' (first
 |refine aK fun K hK=>?_|refine Step.by1 ?_|refine sE (by decide) ?_|refine cz rfl ?_|refine Fork.by2 (fun h=>?_) fun h=>?_
 |(refine aR ?_;simp [vl])
 |(refine Split.by2 (fun h=>?_) (fun h=>?_)<;>(simp [h, vl]))
 |(apply hK;clear hK K)|refine AWh ‹_› ?_)
    exact r1q (cE (by simp [i4]) rfl)
  · rw [if_neg hn0] at i4
    have hnp : 0 < need := by omega
    by_cases hlt : p < l.length
    · have hlt' : (p : Int) < l.length := by omega
      have hlt2 : ¬ (l.length : Int) ≤ p := by omega
      have hlt3 : ¬ l.length ≤ p := by omega
      obtain ⟨x, hx⟩ : ∃ x, l[p] = x := ⟨_, rfl⟩
      have hxo := hl2 x (hx ▸ List.getElem_mem hlt)
      have hc := c_of x.op hxo.1
      have hk := kparts_le x.op
      rw [List.drop_eq_getElem_cons hlt, hx] at i4
      unfold endL at i4
      simp only [kcells] at hc
      generalize kparts x.op = kp at *
      repeat' (first
 |refine aK fun K hK=>?_|refine Step.by1 ?_|refine sE (by decide) ?_|refine cz rfl ?_|refine Fork.by2 (fun h=>?_) fun h=>?_
 |((first|refine aR ?_|refine aC (f:=220) rfl rfl (hc) rfl rfl rfl ?_);simp [vl, NodeD.cells, hlt, hlt', hlt2, hlt3, hnp, hx, wI];try (simp (disch:=omega) only [wI];try simp [vl, NodeD.cells, hlt, hlt', hlt2, hlt3, hnp, hx, wI]))
 |(refine Split.by2 (fun h=>?_) (fun h=>?_)<;>(simp [h, vl, NodeD.cells, hlt, hlt', hlt2, hlt3, hnp, hx, wI];try (simp (disch:=omega) only [wI];try simp [vl, NodeD.cells, hlt, hlt', hlt2, hlt3, hnp, hx, wI])))
 |(apply hK;clear hK K)|refine AWh ‹_› ?_)
      refine ⟨p + 1, need + kp - 1, ⟨by omega, by omega, by omega, ?_⟩, by omega, ?_⟩
      · by_cases hc0 : need + kp - 1 = 0
        · rw [if_pos hc0] at i4 ⊢; push_cast; exact i4
        · rw [if_neg hc0] at i4 ⊢; push_cast; exact i4
      · apply Weak.mk' <;> simp [vl]
    · have hge : (l.length : Int) ≤ p := by omega
      have hge3 : l.length ≤ p := by omega
      rw [List.drop_eq_nil_of_le (by omega)] at i4
      unfold endL at i4
      repeat' (first
 |refine aK fun K hK=>?_|refine Step.by1 ?_|refine sE (by decide) ?_|refine cz rfl ?_|refine Fork.by2 (fun h=>?_) fun h=>?_
 |(refine aR ?_;simp [vl, hge, hge3, hnp])
 |(refine Split.by2 (fun h=>?_) (fun h=>?_)<;>(simp [h, vl, hge, hge3, hnp]))
 |(apply hK;clear hK K)|refine AWh ‹_› ?_)
      exact r1q (cE (by simp [i4]) rfl)
theorem c_IsTruth (l : List NodeD) (hl : ∀ x ∈ l, x.ok) : PC 195 [vl NodeD.cells l] (.bool (match l with | [] => false | x :: _ => ktruth x.op)) := by
  cases l with
  | nil =>
    refine pB Tryz.func195 rfl (by decide) Tryz.ntmps195 (by simp) Tryz.results195 ?_
    repeat' (first
 |refine aK fun K hK=>?_|refine Step.by1 ?_|refine sE (by decide) ?_|refine cz rfl ?_|refine Fork.by2 (fun h=>?_) fun h=>?_
 |(refine aR ?_;simp [vl])
 |(refine Split.by2 (fun h=>?_) (fun h=>?_)<;>(simp [h, vl]))
 |(apply hK;clear hK K)|refine AWh ‹_› ?_)
    exact r1q (cE rfl rfl)
  | cons x r =>
    have hc := c_of x.op (hl x (.head _)).1
    simp only [kcells] at hc
    have h1 : ¬ (r.length : Int) + 1 = 0 := by omega
    have h2 : (0 : Int) < (r.length : Int) + 1 := by omega
    refine pB Tryz.func195 rfl (by decide) Tryz.ntmps195 (by simp) Tryz.results195 ?_
    repeat' (first
 |refine aK fun K hK=>?_|refine Step.by1 ?_|refine sE (by decide) ?_|refine cz rfl ?_|refine Fork.by2 (fun h=>?_) fun h=>?_
 |((first|refine aR ?_|refine aC (f:=220) rfl rfl (hc) rfl rfl rfl ?_);simp [vl, NodeD.cells, h1, h2])
 |(refine Split.by2 (fun h=>?_) (fun h=>?_)<;>(simp [h, vl, NodeD.cells, h1, h2]))
 |(apply hK;clear hK K)|refine AWh ‹_› ?_)
    exact r1q (cE rfl rfl)
theorem known_cases {o : Int} (h : 1 ≤ o ∧ o ≤ 14) : o = 1 ∨ o = 2 ∨ o = 3 ∨ o = 4 ∨ o = 5 ∨ o = 6 ∨ o = 7 ∨ o = 8 ∨ o = 9 ∨ o = 10 ∨ o = 11 ∨ o = 12 ∨ o = 13 ∨ o = 14 := by omega
theorem kparts_no {o : Int} (h : ¬ (1 ≤ o ∧ o ≤ 14)) : kparts o = 0 := by
  have : known o = false := by simpa [known] using h
  simp [kparts, kindO, this]
theorem ktruth_eq (o : Int) : ktruth o = decide (7 ≤ o ∧ o ≤ 14) := by
  by_cases h : 1 ≤ o ∧ o ≤ 14
  · rcases known_cases h with rfl | rfl | rfl | rfl | rfl | rfl | rfl | rfl | rfl | rfl | rfl | rfl | rfl | rfl <;> decide
  · have hk : known o = false := by simpa [known] using h
    have : ¬ (7 ≤ o ∧ o ≤ 14) := by omega
    simp [ktruth, kindO, hk, this]
def knum (o : Int) : Bool := decide (o = 3 ∨ o = 4 ∨ o = 5 ∨ o = 6 ∨ (8 ≤ o ∧ o ≤ 11))
theorem ktakes_knum {o : Int} (h : 0 < kparts o) : ktakes o = !knum o := by
  by_cases hk : 1 ≤ o ∧ o ≤ 14
  · rcases known_cases hk with rfl | rfl | rfl | rfl | rfl | rfl | rfl | rfl | rfl | rfl | rfl | rfl | rfl | rfl <;> first | (exfalso; revert h; decide) | decide
  · rw [kparts_no hk] at h; omega
set_option maxHeartbeats 4000000 in
theorem r_parts (o : Int) : PC 224 [.int .u8 o] (.int .i64 (kparts o)) := by
  by_cases h : 1 ≤ o ∧ o ≤ 14
  · rcases known_cases h with rfl | rfl | rfl | rfl | rfl | rfl | rfl | rfl | rfl | rfl | rfl | rfl | rfl | rfl
    all_goals
      refine pB Tryz.func224 rfl (by decide) Tryz.ntmps224 (by simp) Tryz.results224 ?_
      repeat' (first
 |refine aK fun K hK=>?_|refine Step.by1 ?_|refine sE (by decide) ?_|refine cz rfl ?_|refine Fork.by2 (fun h=>?_) fun h=>?_
 |(refine aR ?_;simp)
 |(refine Split.by2 (fun h=>?_) (fun h=>?_)<;>(simp [h]))
 |(apply hK;clear hK K)|refine AWh ‹_› ?_)
      exact r1q (cE (by simp; decide) rfl)
  · rw [kparts_no h]
    have e3 : ¬ o = 3 := by omega
    have e4 : ¬ o = 4 := by omega
    have e5 : ¬ o = 5 := by omega
    have e6 : ¬ o = 6 := by omega
    have e8 : ¬ o = 8 := by omega
    have e9 : ¬ o = 9 := by omega
    have e10 : ¬ o = 10 := by omega
    have e11 : ¬ o = 11 := by omega
    have e12 : ¬ o = 12 := by omega
    have e13 : ¬ o = 13 := by omega
    have e14 : ¬ o = 14 := by omega
    refine pB Tryz.func224 rfl (by decide) Tryz.ntmps224 (by simp) Tryz.results224 ?_
    repeat' (first
 |refine aK fun K hK=>?_|refine Step.by1 ?_|refine sE (by decide) ?_|refine cz rfl ?_|refine Fork.by2 (fun h=>?_) fun h=>?_
 |(refine aR ?_;simp [e3, e4, e5, e6, e8, e9, e10, e11, e12, e13, e14])
 |(refine Split.by2 (fun h=>?_) (fun h=>?_)<;>(simp [h, e3, e4, e5, e6, e8, e9, e10, e11, e12, e13, e14]))
 |(apply hK;clear hK K)|refine AWh ‹_› ?_)
    exact r1q (cE rfl rfl)
theorem r_truth (o : Int) : PC 225 [.int .u8 o] (.bool (ktruth o)) := by
  have he := ktruth_eq o
  generalize ktruth o = k at *
  refine pB Tryz.func225 rfl (by decide) Tryz.ntmps225 (by simp) Tryz.results225 ?_
  repeat' (first
 |refine aK fun K hK=>?_|refine Step.by1 ?_|refine sE (by decide) ?_|refine cz rfl ?_|refine Fork.by2 (fun h=>?_) fun h=>?_
 |(refine aR ?_;simp)
 |(refine Split.by2 (fun h=>?_) (fun h=>?_)<;>(simp [h]))
 |(apply hK;clear hK K)|refine AWh ‹_› ?_)
  all_goals exact r1q (cE (by simp [he, *]) rfl)
theorem r_numbers (o : Int) : PC 226 [.int .u8 o] (.bool (knum o)) := by
  refine pB Tryz.func226 rfl (by decide) Tryz.ntmps226 (by simp) Tryz.results226 ?_
  repeat' (first
 |refine aK fun K hK=>?_|refine Step.by1 ?_|refine sE (by decide) ?_|refine cz rfl ?_|refine Fork.by2 (fun h=>?_) fun h=>?_
 |(refine aR ?_;simp)
 |(refine Split.by2 (fun h=>?_) (fun h=>?_)<;>(simp [h]))
 |(apply hK;clear hK K)|refine AWh ‹_› ?_)
  all_goals first
    | exact r1q (cE (by simp [knum, *]; done) rfl)
    | exact r1q (cE (by simp [knum, *]; omega) rfl)
set_option maxRecDepth 8000 in
set_option maxHeartbeats 4000000 in
theorem r_End (l : List NodeD) (hl : l.length ≤ 1048576) (at0 : Nat) (ha : at0 ≤ 1099511627776) : PC 223 [vl NodeD.cells l, .int .i64 at0] (.int .i64 (endAt l at0)) := by
  obtain ⟨r, hr⟩ : ∃ r, endAt l at0 = r := ⟨_, rfl⟩
  rw [hr]
  have hneg : ¬ (at0 : Int) < 0 := by omega
  by_cases h0 : l.length ≤ at0
  · have h0' : (l.length : Int) ≤ at0 := by omega
    have hr0 : r = 0 := by rw [← hr, endAt, List.drop_eq_nil_of_le h0]; rfl
    refine pB Tryz.func223 rfl (by decide) Tryz.ntmps223 (by simp) Tryz.results223 ?_
    repeat' (first
 |refine aK fun K hK=>?_|refine Step.by1 ?_|refine sE (by decide) ?_|refine cz rfl ?_|refine Fork.by2 (fun h=>?_) fun h=>?_
 |(refine aR ?_;simp [vl, hneg, h0, h0'])
 |(refine Split.by2 (fun h=>?_) (fun h=>?_)<;>(simp [h, vl, hneg, h0, h0']))
 |(apply hK;clear hK K)|refine AWh ‹_› ?_)
    exact r1q (cE (by simp [hr0]) rfl)
  · have h0' : ¬ (l.length : Int) ≤ at0 := by omega
    refine pB Tryz.func223 rfl (by decide) Tryz.ntmps223 (by simp) Tryz.results223 ?_
    repeat' (first
 |refine aK fun K hK=>?_|refine Step.by1 ?_|refine sE (by decide) ?_|refine cz rfl ?_|refine Fork.by2 (fun h=>?_) fun h=>?_
 |(refine aR ?_;simp [vl, hneg, h0, h0'])
 |(refine Split.by2 (fun h=>?_) (fun h=>?_)<;>(simp [h, vl, hneg, h0, h0']))
 |(apply hK;clear hK K)|refine AWh ‹_› ?_)
    refine aL [0] (fun s : Nat × Int => [(6, .int .i64 (s.1 : Int)), (5, .int .i64 s.2)]) (fun _ => []) (fun s => 0 < s.2 ∧ s.2 ≤ s.1 * 2 + 1 ∧ s.1 ≤ l.length ∧ endL (l.drop s.1) s.2 s.1 = r) (fun s => l.length - s.1) (at0, 1) ⟨(by decide : (0 : Int) < 1), (by simp only; omega), (by simp only; omega), (by simpa [endAt] using hr)⟩ (by apply Weak.mk' <;> simp [vl]) (fun _ _ => rfl) ?_
    rintro ⟨p, need⟩ ⟨i1, i2, i3, i4⟩
    simp only at i1 i2 i3 i4
    by_cases hlt : p < l.length
    · have hlt' : (p : Int) < l.length := by omega
      obtain ⟨x, hx⟩ : ∃ x, l[p] = x := ⟨_, rfl⟩
      have hc := r_parts x.op
      have hk := kparts_le x.op
      rw [List.drop_eq_getElem_cons hlt, hx] at i4
      unfold endL at i4
      generalize kparts x.op = kp at *
      have w1 : IntKind.i64.wrap (kp - 1) = kp - 1 := wI (by omega) (by omega)
      have w2 : IntKind.i64.wrap (need + (kp - 1)) = need + kp - 1 := by rw [wI (by omega) (by omega)]; omega
      by_cases hc0 : need + kp - 1 = 0
      · rw [if_pos hc0] at i4
        repeat' (first
 |refine aK fun K hK=>?_|refine Step.by1 ?_|refine sE (by decide) ?_|refine cz rfl ?_|refine Fork.by2 (fun h=>?_) fun h=>?_
 |((first|refine aR ?_|refine aC (f:=224) rfl rfl (hc) rfl rfl rfl ?_);simp [vl, NodeD.cells, hlt, hlt', hx, w1, w2, hc0, wI];try (simp (disch:=omega) only [wI];try simp [vl, NodeD.cells, hlt, hlt', hx, w1, w2, hc0, wI]))
 |(refine Split.by2 (fun h=>?_) (fun h=>?_)<;>(simp [h, vl, NodeD.cells, hlt, hlt', hx, w1, w2, hc0, wI];try (simp (disch:=omega) only [wI];try simp [vl, NodeD.cells, hlt, hlt', hx, w1, w2, hc0, wI])))
 |(apply hK;clear hK K)|refine AWh ‹_› ?_)
        exact r1q (cE (by simp [i4]) rfl)
      · rw [if_neg hc0] at i4
        repeat' (first
 |refine aK fun K hK=>?_|refine Step.by1 ?_|refine sE (by decide) ?_|refine cz rfl ?_|refine Fork.by2 (fun h=>?_) fun h=>?_
 |((first|refine aR ?_|refine aC (f:=224) rfl rfl (hc) rfl rfl rfl ?_);simp [vl, NodeD.cells, hlt, hlt', hx, w1, w2, hc0, wI];try (simp (disch:=omega) only [wI];try simp [vl, NodeD.cells, hlt, hlt', hx, w1, w2, hc0, wI]))
 |(refine Split.by2 (fun h=>?_) (fun h=>?_)<;>(simp [h, vl, NodeD.cells, hlt, hlt', hx, w1, w2, hc0, wI];try (simp (disch:=omega) only [wI];try simp [vl, NodeD.cells, hlt, hlt', hx, w1, w2, hc0, wI])))
 |(apply hK;clear hK K)|refine AWh ‹_› ?_)
        refine ⟨p + 1, need + kp - 1, ⟨by omega, by omega, by omega, by push_cast; exact i4⟩, by omega, ?_⟩
        apply Weak.mk' <;> simp [vl]
    · have hlt' : ¬ (p : Int) < l.length := by omega
      rw [List.drop_eq_nil_of_le (by omega)] at i4
      unfold endL at i4
      repeat' (first
 |refine aK fun K hK=>?_|refine Step.by1 ?_|refine sE (by decide) ?_|refine cz rfl ?_|refine Fork.by2 (fun h=>?_) fun h=>?_
 |(refine aR ?_;simp [vl, hlt, hlt'])
 |(refine Split.by2 (fun h=>?_) (fun h=>?_)<;>(simp [h, vl, hlt, hlt']))
 |(apply hK;clear hK K)|refine AWh ‹_› ?_)
      exact r1q (cE (by simp [i4]) rfl)
theorem r_IsTruth (l : List NodeD) : PC 203 [vl NodeD.cells l] (.bool (match l with | [] => false | x :: _ => ktruth x.op)) := by
  cases l with
  | nil =>
    refine pB Tryz.func203 rfl (by decide) Tryz.ntmps203 (by simp) Tryz.results203 ?_
    repeat' (first
 |refine aK fun K hK=>?_|refine Step.by1 ?_|refine sE (by decide) ?_|refine cz rfl ?_|refine Fork.by2 (fun h=>?_) fun h=>?_
 |(refine aR ?_;simp [vl])
 |(refine Split.by2 (fun h=>?_) (fun h=>?_)<;>(simp [h, vl]))
 |(apply hK;clear hK K)|refine AWh ‹_› ?_)
    exact r1q (cE rfl rfl)
  | cons x r =>
    have hc := r_truth x.op
    have h2 : (0 : Int) < (r.length : Int) + 1 := by omega
    refine pB Tryz.func203 rfl (by decide) Tryz.ntmps203 (by simp) Tryz.results203 ?_
    repeat' (first
 |refine aK fun K hK=>?_|refine Step.by1 ?_|refine sE (by decide) ?_|refine cz rfl ?_|refine Fork.by2 (fun h=>?_) fun h=>?_
 |((first|refine aR ?_|refine aC (f:=225) rfl rfl (hc) rfl rfl rfl ?_);simp [vl, NodeD.cells, h2])
 |(refine Split.by2 (fun h=>?_) (fun h=>?_)<;>(simp [h, vl, NodeD.cells, h2]))
 |(apply hK;clear hK K)|refine AWh ‹_› ?_)
    exact r1q (cE rfl rfl)
def wgt (x : NodeD) : Int := kparts x.op - 1
def sumL : List NodeD → Int
  | [] => 0
  | x :: r => wgt x + sumL r
theorem sumL_append : ∀ (a b : List NodeD), sumL (a ++ b) = sumL a + sumL b
  | [], b => by simp [sumL]
  | x :: r, b => by simp [sumL, sumL_append r b]; omega
theorem endL_spec : ∀ (l : List NodeD) (need at_ : Int), 1 ≤ need →
    (∃ m : Nat, 1 ≤ m ∧ m ≤ l.length ∧ endL l need at_ = at_ + m ∧ need + sumL (l.take m) = 0 ∧ ∀ k, k < m → 0 < need + sumL (l.take k)) ∨ (endL l need at_ = 0 ∧ ∀ k, k ≤ l.length → 0 < need + sumL (l.take k))
  | [], need, at_, h => .inr ⟨rfl, fun k hk => by simp at hk; subst hk; simp [sumL]; omega⟩
  | x :: r, need, at_, h => by
    have hk := kparts_le x.op
    unfold endL
    by_cases h0 : need + kparts x.op - 1 = 0
    · rw [if_pos h0]
      refine .inl ⟨1, by omega, by simp, by simp, by simp [sumL, wgt]; omega, fun k hk => ?_⟩
      have : k = 0 := by omega
      subst this; simp [sumL]; omega
    · rw [if_neg h0]
      have hstep : ∀ k, 0 < k → need + sumL ((x :: r).take k) = need + kparts x.op - 1 + sumL (r.take (k - 1)) := fun k hk => by
        obtain ⟨j, rfl⟩ : ∃ j, k = j + 1 := ⟨k - 1, by omega⟩
        simp [sumL, wgt]; omega
      have hz : need + sumL ((x :: r).take 0) = need := by simp [sumL]
      rcases endL_spec r (need + kparts x.op - 1) (at_ + 1) (by omega) with ⟨m, h1, h2, h3, h4, h5⟩ | ⟨h3, h5⟩
      · refine .inl ⟨m + 1, by omega, by simp; omega, by rw [h3]; push_cast; omega, by rw [hstep _ (by omega)]; simpa using h4, fun k hk => ?_⟩
        rcases Nat.eq_zero_or_pos k with h | h
        · subst h; rw [hz]; omega
        · rw [hstep k h]; exact h5 (k - 1) (by omega)
      · refine .inr ⟨h3, fun k hk => ?_⟩
        rcases Nat.eq_zero_or_pos k with h | h
        · subst h; rw [hz]; omega
        · rw [hstep k h]; exact h5 (k - 1) (by simp at hk; omega)
def numN (l : List NodeD) (j : Nat) : Int := 1 + sumL (l.take j)
theorem numN_succ {l : List NodeD} {j : Nat} (h : j < l.length) : numN l (j + 1) = numN l j + kparts l[j].op - 1 := by
  unfold numN
  rw [List.take_add_one, List.getElem?_eq_getElem h, sumL_append]
  simp [sumL, wgt]; omega
structure WholeL (l : List NodeD) : Prop where
  pos : ∀ j, j < l.length → 0 < numN l j
  zero : numN l l.length = 0
theorem whole_of {l : List NodeD} (h0 : 0 < l.length) (h : endAt l 0 = l.length) : WholeL l := by
  unfold endAt at h
  simp only [List.drop_zero] at h
  rcases endL_spec l 1 ((0 : Nat) : Int) (by omega) with ⟨m, h1, h2, h3, h4, h5⟩ | ⟨h3, _⟩
  · have hm : m = l.length := by rw [h] at h3; omega
    subst hm
    exact ⟨fun j hj => h5 j hj, h4⟩
  · rw [h3] at h; omega
theorem whole_end {l : List NodeD} (w : WholeL l) {j : Nat} (hj : j < l.length) : ∃ e : Nat, endAt l j = e ∧ j < e ∧ e ≤ l.length ∧ numN l e = numN l j - 1 := by
  have hsum : ∀ k, sumL (l.take (j + k)) = sumL (l.take j) + sumL ((l.drop j).take k) := fun k => by rw [List.take_add, sumL_append]
  rcases endL_spec (l.drop j) 1 (j : Int) (by omega) with ⟨m, h1, h2, h3, h4, h5⟩ | ⟨h3, h5⟩
  · rw [List.length_drop] at h2
    refine ⟨j + m, by unfold endAt; rw [h3]; push_cast; rfl, by omega, by omega, ?_⟩
    unfold numN; rw [hsum]; omega
  · exfalso
    have h6 := h5 (l.length - j) (by simp)
    have h7 := w.zero
    have h8 := w.pos j hj
    unfold numN at h7 h8
    have h9 := hsum (l.length - j)
    rw [show j + (l.length - j) = l.length by omega] at h9
    omega
/-- What is wrong with a node by itself; with its parts. -/
def nodeBad (k : Int) (x : NodeD) : Bool := !known x.op || decide (x.n < 0 ∨ (if x.op = 1 then 1048576 else if x.op = 2 then (if k < 0 then 0 else k) - 1 else 0) < x.n)
def kidsBad (l : List NodeD) (tk : Bool) : Nat → Nat → Bool
  | 0, _ => false
  | q + 1, at_ => (ktruth (l.getD at_ default).op != tk) || kidsBad l tk q (endAt l at_).toNat
def rightAt (l : List NodeD) (k : Int) (i : Nat) : Bool := nodeBad k (l.getD i default) || kidsBad l (ktakes (l.getD i default).op) (kparts (l.getD i default).op).toNat (i + 1)
def rightE (l : List NodeD) (k : Int) : Int := if l.length = 0 ∨ 64 < l.length ∨ endAt l 0 ≠ l.length then 121 else if (List.range l.length).any (rightAt l k) then 121 else 0
theorem rightE_bad {l : List NodeD} {k : Int} {i : Nat} (hi : i < l.length) (h : rightAt l k i = true) : rightE l k = 121 := by
  unfold rightE
  split
  · rfl
  · rw [if_pos (List.any_eq_true.2 ⟨i, List.mem_range.2 hi, h⟩)]
theorem rightE_good {l : List NodeD} {k : Int} (h0 : ¬ (l.length = 0 ∨ 64 < l.length ∨ endAt l 0 ≠ l.length)) (h : ∀ i, i < l.length → rightAt l k i = false) : rightE l k = 0 := by
  unfold rightE
  rw [if_neg h0, if_neg]
  rw [List.any_eq_true]
  rintro ⟨i, hi, hb⟩
  rw [h i (List.mem_range.1 hi)] at hb; cases hb
end Go.Proofs.YtgmlimipejcpgaaGreatDoor
end
