/-
  YtbgooadmonnjaaaGreatDoorRc15: steps of the proof of a law of the program: what these texts prove holds under the hypotheses that their theorems name, and no others.
-/
import Derived.Test.YtbgooadmonnjaaaGreatDoorRc14
import Derived.Test.YtbgooadmonnjaaaGreatDoorRc12
import Derived.Test.YtbgooadmonnjaaaGreatDoorRc11
import Derived.Test.YtbgooadmonnjaaaGreatDoorRc10
import Derived.Lib.AppendZeros
import Derived.Test.YtbgooadmonnjaaaGreatDoorRc13
section
set_option linter.unusedSimpArgs false
set_option linter.unusedVariables false
namespace Go.Proofs.YtbgooadmonnjaaaGreatDoor
open Go Go.AM Fx
def strV (s : ByteArray) : List V := [.str s]
theorem c_indexS (l : List ByteArray) (v : ByteArray) (hl : l.length ≤ 1099511627776) : ∃ k : Int, PC 286 [vl strV l, .str v] (.int .i64 k) ∧ (0 ≤ k ↔ v ∈ l) := by
  by_cases hv : v ∈ l
  · obtain ⟨i0, h1, h2, h3⟩ : ∃ i0, ∃ h : i0 < l.length, l[i0] = v ∧ ∀ j (hj : j < i0), l[j]'(by omega) ≠ v := by
      have hx : ∃ x ∈ l, decide (x = v) = true := ⟨v, hv, by simp⟩
      have hlt := List.findIdx_lt_length.2 hx
      exact ⟨l.findIdx (fun x => decide (x = v)), hlt, of_decide_eq_true (List.findIdx_getElem (w := hlt)), fun j hj => by simpa using List.not_of_lt_findIdx hj⟩
    refine ⟨i0, ?_, ⟨fun _ => hv, fun _ => by omega⟩⟩
    refine pB Tryz.func286 rfl (by decide) Tryz.ntmps286 (by simp) Tryz.results286 ?_
    repeat' (first
 |refine aK fun K hK=>?_|refine Step.by1 ?_|refine sE (by decide) ?_|refine cz rfl ?_|refine Fork.by2 (fun h=>?_) fun h=>?_
 |(refine aR ?_;simp [vl, strV])
 |(refine Split.by2 (fun h=>?_) (fun h=>?_)<;>(simp [h, vl, strV]))
 |(apply hK;clear hK K)|refine AWh ‹_› ?_)
    refine aL [0, 1, 7] (fun i : Nat => [(8, .int .i64 i)]) (fun _ => []) (fun i => i ≤ i0) (fun i => l.length - i) 0 (Nat.zero_le _) (by apply Weak.mk' <;> simp [vl]) (fun _ _ => rfl) ?_
    intro i hi
    have hlt : i < l.length := by omega
    by_cases he : i = i0
    · subst he
      repeat' (first
 |refine aK fun K hK=>?_|refine Step.by1 ?_|refine sE (by decide) ?_|refine cz rfl ?_|refine Fork.by2 (fun h=>?_) fun h=>?_
 |(refine aR ?_;simp [vl, strV, hlt, h2, wI];try (simp (disch:=omega) only [wI];try simp [vl, strV, hlt, h2, wI]))
 |(refine Split.by2 (fun h=>?_) (fun h=>?_)<;>(simp [h, vl, strV, hlt, h2, wI];try (simp (disch:=omega) only [wI];try simp [vl, strV, hlt, h2, wI])))
 |(apply hK;clear hK K)|refine AWh ‹_› ?_)
      exact r1q (cE (by simp) rfl)
    · have hne : ¬ v = l[i] := fun e => h3 i (by omega) e.symm
      repeat' (first
 |refine aK fun K hK=>?_|refine Step.by1 ?_|refine sE (by decide) ?_|refine cz rfl ?_|refine Fork.by2 (fun h=>?_) fun h=>?_
 |(refine aR ?_;simp [vl, strV, hlt, hne, wI];try (simp (disch:=omega) only [wI];try simp [vl, strV, hlt, hne, wI]))
 |(refine Split.by2 (fun h=>?_) (fun h=>?_)<;>(simp [h, vl, strV, hlt, hne, wI];try (simp (disch:=omega) only [wI];try simp [vl, strV, hlt, hne, wI])))
 |(apply hK;clear hK K)|refine AWh ‹_› ?_)
      refine ⟨i + 1, by omega, by omega, ?_⟩; apply Weak.mk' <;> simp [vl]
  · refine ⟨-1, ?_, ⟨fun h => by omega, fun h => absurd h hv⟩⟩
    refine pB Tryz.func286 rfl (by decide) Tryz.ntmps286 (by simp) Tryz.results286 ?_
    repeat' (first
 |refine aK fun K hK=>?_|refine Step.by1 ?_|refine sE (by decide) ?_|refine cz rfl ?_|refine Fork.by2 (fun h=>?_) fun h=>?_
 |(refine aR ?_;simp [vl, strV])
 |(refine Split.by2 (fun h=>?_) (fun h=>?_)<;>(simp [h, vl, strV]))
 |(apply hK;clear hK K)|refine AWh ‹_› ?_)
    refine aL [0, 1, 7] (fun i : Nat => [(8, .int .i64 i)]) (fun _ => []) (fun i => i ≤ l.length) (fun i => l.length - i) 0 (Nat.zero_le _) (by apply Weak.mk' <;> simp [vl]) (fun _ _ => rfl) ?_
    intro i hi
    by_cases hlt : i < l.length
    · have hne : ¬ v = l[i] := fun e => hv (e ▸ List.getElem_mem hlt)
      repeat' (first
 |refine aK fun K hK=>?_|refine Step.by1 ?_|refine sE (by decide) ?_|refine cz rfl ?_|refine Fork.by2 (fun h=>?_) fun h=>?_
 |(refine aR ?_;simp [vl, strV, hlt, hne, wI];try (simp (disch:=omega) only [wI];try simp [vl, strV, hlt, hne, wI]))
 |(refine Split.by2 (fun h=>?_) (fun h=>?_)<;>(simp [h, vl, strV, hlt, hne, wI];try (simp (disch:=omega) only [wI];try simp [vl, strV, hlt, hne, wI])))
 |(apply hK;clear hK K)|refine AWh ‹_› ?_)
      refine ⟨i + 1, by omega, by omega, ?_⟩; apply Weak.mk' <;> simp [vl]
    · repeat' (first
 |refine aK fun K hK=>?_|refine Step.by1 ?_|refine sE (by decide) ?_|refine cz rfl ?_|refine Fork.by2 (fun h=>?_) fun h=>?_
 |(refine aR ?_;simp [vl, strV, hlt])
 |(refine Split.by2 (fun h=>?_) (fun h=>?_)<;>(simp [h, vl, strV, hlt]))
 |(apply hK;clear hK K)|refine AWh ‹_› ?_)
      exact r1q (cE rfl rfl)
def memS (v : ByteArray) (l : List ByteArray) : Bool := l.any fun x => decide (x = v)
theorem memS_iff {v : ByteArray} {l : List ByteArray} : memS v l = true ↔ v ∈ l := by
  unfold memS; rw [List.any_eq_true]; constructor
  · rintro ⟨x, h1, h2⟩; rw [← of_decide_eq_true h2]; exact h1
  · exact fun h => ⟨v, h, by simp⟩
theorem c_containsS (l : List ByteArray) (v : ByteArray) (hl : l.length ≤ 1099511627776) : PC 283 [vl strV l, .str v] (.bool (memS v l)) := by
  obtain ⟨k, hk, hk'⟩ := c_indexS l v hl
  refine pB Tryz.func283 rfl (by decide) Tryz.ntmps283 (by simp) Tryz.results283 ?_
  repeat' (first
 |refine aK fun K hK=>?_|refine Step.by1 ?_|refine sE (by decide) ?_|refine cz rfl ?_|refine Fork.by2 (fun h=>?_) fun h=>?_
 |((first|refine aR ?_|refine aC (f:=286) rfl rfl (hk) rfl rfl rfl ?_);simp)
 |(refine Split.by2 (fun h=>?_) (fun h=>?_)<;>(simp [h]))
 |(apply hK;clear hK K)|refine AWh ‹_› ?_)
  exact r1q (cE (by simp; rw [Bool.eq_iff_iff, memS_iff]; simp [hk']) rfl)
def isLetter (c : Int) : Bool := decide (97 ≤ c ∧ c ≤ 122 ∨ 65 ≤ c ∧ c ≤ 90)
def isDigit (c : Int) : Bool := decide (48 ≤ c ∧ c ≤ 57)
def lexClass (c : Int) : Int := if c = 32 ∨ c = 9 ∨ c = 13 ∨ c = 10 then 1 else if c = 35 then 4 else if isLetter c = true then 2 else if isDigit c = true then 3 else 0
theorem c_lexof (c : Int) : PC 281 [.int .u8 c] (.int .u8 (lexClass c)) := by
  by_cases h1 : c = 32 ∨ c = 9 ∨ c = 13 ∨ c = 10
  · rw [show lexClass c = 1 by unfold lexClass; rw [if_pos h1]]
    rcases h1 with rfl | rfl | rfl | rfl
    all_goals
      refine pB Tryz.func281 rfl (by decide) Tryz.ntmps281 (by simp) Tryz.results281 ?_
      repeat' (first
 |refine aK fun K hK=>?_|refine Step.by1 ?_|refine sE (by decide) ?_|refine cz rfl ?_|refine Fork.by2 (fun h=>?_) fun h=>?_
 |(refine aR ?_;simp)
 |(refine Split.by2 (fun h=>?_) (fun h=>?_)<;>(simp [h]))
 |(apply hK;clear hK K)|refine AWh ‹_› ?_)
      exact r1q (cE rfl rfl)
  · have e1 : ¬ c = 32 := by omega
    have e2 : ¬ c = 9 := by omega
    have e3 : ¬ c = 13 := by omega
    have e4 : ¬ c = 10 := by omega
    obtain ⟨r, hr⟩ : ∃ r, lexClass c = r := ⟨_, rfl⟩
    rw [hr]
    unfold lexClass at hr
    rw [if_neg h1] at hr
    refine pB Tryz.func281 rfl (by decide) Tryz.ntmps281 (by simp) Tryz.results281 ?_
    repeat' (first
 |refine aK fun K hK=>?_|refine Step.by1 ?_|refine sE (by decide) ?_|refine cz rfl ?_|refine Fork.by2 (fun h=>?_) fun h=>?_
 |(refine aR ?_;simp [e1, e2, e3, e4])
 |(refine Split.by2 (fun h=>?_) (fun h=>?_)<;>(simp [h, e1, e2, e3, e4]))
 |(apply hK;clear hK K)|refine AWh ‹_› ?_)
    all_goals first
      | (exfalso; omega)
      | exact r1q (cE (by rw [← hr]; simp [isLetter, isDigit, *]; done) rfl)
      | exact r1q (cE (by rw [← hr]; simp [isLetter, isDigit, *]; omega) rfl)
      | exact r1q (cE (by rw [← hr]; simp [isLetter, isDigit]; split <;> (try split) <;> (try split) <;> first | rfl | omega) rfl)
theorem lexClass_letter (c : Int) : lexClass c = 2 ↔ isLetter c = true := by
  unfold lexClass
  by_cases h1 : c = 32 ∨ c = 9 ∨ c = 13 ∨ c = 10
  · rw [if_pos h1]; simp [isLetter]; omega
  · rw [if_neg h1]
    by_cases h2 : c = 35
    · rw [if_pos h2]; simp [isLetter]; omega
    · rw [if_neg h2]
      by_cases h3 : isLetter c = true
      · simp [h3]
      · rw [if_neg h3]; constructor
        · intro h; split at h <;> omega
        · intro h; exact absurd h h3
theorem lexClass_digit (c : Int) : lexClass c = 3 ↔ isDigit c = true := by
  unfold lexClass
  by_cases h1 : c = 32 ∨ c = 9 ∨ c = 13 ∨ c = 10
  · rw [if_pos h1]; simp [isDigit]; omega
  · rw [if_neg h1]
    by_cases h2 : c = 35
    · rw [if_pos h2]; simp [isDigit]; omega
    · rw [if_neg h2]
      by_cases h3 : isLetter c = true
      · rw [if_pos h3]; simp only [isLetter, decide_eq_true_eq] at h3; simp [isDigit]; omega
      · rw [if_neg h3]
        by_cases h4 : isDigit c = true <;> simp [h4]
def byteS (s : ByteArray) (i : Nat) : Int := ((s.data.toList.getD i 0).toNat : Int)
def wordC (c : Int) : Bool := isLetter c || (isDigit c || decide (c = 95))
/-- Where the word ends that goes on at a place. -/
def wordE (s : ByteArray) : Nat → Nat → Nat
  | 0, i => i
  | k + 1, i => if i < s.size then (if wordC (byteS s i) = true then wordE s k (i + 1) else i) else i
def wordN (s : ByteArray) : Nat := wordE s s.size 1
theorem wordE_stop {s : ByteArray} {k i : Nat} (h : ¬ i < s.size) : wordE s k i = i := by cases k <;> simp [wordE, h]
theorem c_word (s : ByteArray) (hs : s.size ≤ 1099511627776) : PC 282 [.str s] (.int .i64 (wordN s)) := by
  obtain ⟨r, hr⟩ : ∃ r, wordN s = r := ⟨_, rfl⟩
  rw [hr]
  refine pB Tryz.func282 rfl (by decide) Tryz.ntmps282 (by simp) Tryz.results282 ?_
  repeat' (first
 |refine aK fun K hK=>?_|refine Step.by1 ?_|refine sE (by decide) ?_|refine cz rfl ?_|refine Fork.by2 (fun h=>?_) fun h=>?_
 |(refine aR ?_;simp)
 |(refine Split.by2 (fun h=>?_) (fun h=>?_)<;>(simp [h]))
 |(apply hK;clear hK K)|refine AWh ‹_› ?_)
  refine aL [0] (fun n : Nat => [(3, .int .i64 n)]) (fun _ => []) (fun n => 1 ≤ n ∧ n ≤ s.size + 1 ∧ wordE s (s.size + 1 - n) n = r) (fun n => s.size + 1 - n) 1 ⟨by omega, by omega, by simpa [wordN] using hr⟩ (by apply Weak.mk' <;> simp) (fun _ _ => rfl) ?_
  rintro n ⟨h1, h2, h3⟩
  by_cases hlt : n < s.size
  · have hlt' : (n : Int) < s.size := by omega
    obtain ⟨k, hk⟩ : ∃ k, s.size + 1 - n = k + 1 := ⟨s.size - n, by omega⟩
    rw [hk] at h3
    unfold wordE at h3
    rw [if_pos hlt] at h3
    obtain ⟨c, hc⟩ : ∃ c, byteS s n = c := ⟨_, rfl⟩
    rw [hc] at h3
    have hof := c_lexof c
    have hL := lexClass_letter c
    have hD := lexClass_digit c
    generalize lexClass c = q at *
    have hda : n < s.data.size := hlt
    have hb : ((s.data[n]).toNat : Int) = c := by rw [← hc]; simp [byteS, Array.getElem?_eq_getElem hda]
    repeat' (first
 |refine aK fun K hK=>?_|refine Step.by1 ?_|refine sE (by decide) ?_|refine cz rfl ?_|refine Fork.by2 (fun h=>?_) fun h=>?_
 |((first|refine aR ?_|refine aC (f:=281) rfl rfl (hof) rfl rfl rfl ?_);simp [hlt, hlt', hb, wI];try (simp (disch:=omega) only [wI];try simp [hlt, hlt', hb, wI]))
 |(refine Split.by2 (fun h=>?_) (fun h=>?_)<;>(simp [h, hlt, hlt', hb, wI];try (simp (disch:=omega) only [wI];try simp [hlt, hlt', hb, wI])))
 |(apply hK;clear hK K)|refine AWh ‹_› ?_)
    all_goals first
      | (refine ⟨n + 1, ⟨by omega, by omega, ?_⟩, by omega, ?_⟩
         · rw [show s.size + 1 - (n + 1) = k by omega, ← h3, if_pos]
           simp only [wordC, Bool.or_eq_true, decide_eq_true_eq, ← hL, ← hD]; omega
         · apply Weak.mk' <;> simp)
      | (have hnw : ¬ wordC c = true := by simp only [wordC, Bool.or_eq_true, decide_eq_true_eq, ← hL, ← hD]; omega
         rw [if_neg hnw] at h3
         exact r1q (cE (by simp [h3]) rfl))
  · have hlt' : ¬ (n : Int) < s.size := by omega
    rw [wordE_stop hlt] at h3
    repeat' (first
 |refine aK fun K hK=>?_|refine Step.by1 ?_|refine sE (by decide) ?_|refine cz rfl ?_|refine Fork.by2 (fun h=>?_) fun h=>?_
 |(refine aR ?_;simp [hlt, hlt'])
 |(refine Split.by2 (fun h=>?_) (fun h=>?_)<;>(simp [h, hlt, hlt']))
 |(apply hK;clear hK K)|refine AWh ‹_› ?_)
    exact r1q (cE (by simp [h3]) rfl)
def keptS : List ByteArray := [⟨#[99, 108, 111, 99, 107]⟩, ⟨#[105, 110, 116]⟩, ⟨#[99, 104, 97, 110]⟩, ⟨#[97, 117, 116, 111]⟩, ⟨#[108, 111, 99]⟩, ⟨#[101, 100, 103, 101]⟩, ⟨#[105, 110]⟩, ⟨#[105, 110, 118]⟩, ⟨#[119, 104, 101, 110]⟩, ⟨#[115, 121, 110, 99]⟩, ⟨#[100, 111]⟩, ⟨#[117, 114, 103, 101, 110, 116]⟩, ⟨#[99, 111, 109, 109, 105, 116, 116, 101, 100]⟩, ⟨#[116, 114, 117, 101]⟩, ⟨#[114, 101, 97, 99, 104]⟩, ⟨#[110, 101, 118, 101, 114]⟩]
theorem keptV_eq : keptV.map (fun c => [c]) = keptS.map strV := rfl
theorem keptV_len : keptV.length = 16 := rfl
theorem keptS_len : keptS.length = 16 := rfl
def isNameB (s : ByteArray) : Bool := !decide (s = ⟨#[]⟩) && (decide (s.size ≤ 16) && (isLetter (byteS s 0) && (decide (wordN s = s.size) && !memS s keptS)))
theorem size_pos {s : ByteArray} (h : ¬ s = ⟨#[]⟩) : 0 < s.size := by
  rcases Nat.eq_zero_or_pos s.size with h0 | h0
  · exfalso; apply h
    obtain ⟨⟨l⟩⟩ := s
    have : l = [] := List.eq_nil_of_length_eq_zero h0
    subst this; rfl
  · exact h0
set_option maxHeartbeats 4000000 in
theorem c_IsName (s : ByteArray) (hs : s.size ≤ 1099511627776) : PC 277 [.str s] (.bool (isNameB s)) := by
  obtain ⟨r, hr⟩ : ∃ r, isNameB s = r := ⟨_, rfl⟩
  rw [hr]
  unfold isNameB at hr
  by_cases h0 : s = ⟨#[]⟩
  · subst h0
    refine pB Tryz.func277 rfl (by decide) Tryz.ntmps277 (by simp) Tryz.results277 ?_
    repeat' (first
 |refine aK fun K hK=>?_|refine Step.by1 ?_|refine sE (by decide) ?_|refine cz rfl ?_|refine Fork.by2 (fun h=>?_) fun h=>?_
 |(refine aR ?_;simp)
 |(refine Split.by2 (fun h=>?_) (fun h=>?_)<;>(simp [h]))
 |(apply hK;clear hK K)|refine AWh ‹_› ?_)
    exact r1q (cE (by rw [← hr]; simp) rfl)
  · have hp := size_pos h0
    have hp' : (0 : Int) < s.size := by omega
    have hda : 0 < s.data.size := hp
    have hof := c_lexof (byteS s 0)
    have hL := lexClass_letter (byteS s 0)
    have hb : ((s.data[0]).toNat : Int) = byteS s 0 := by simp [byteS, Array.getElem?_eq_getElem hda]
    have hw := c_word s hs
    have hk := c_containsS keptS s (by rw [keptS_len]; omega)
    simp only [vl, keptS_len] at hk
    generalize byteS s 0 = c at *
    generalize lexClass c = q at *
    generalize wordN s = wn at *
    generalize memS s keptS = mk at *
    have eL : isLetter c = decide (q = 2) := by rw [Bool.eq_iff_iff]; simp [hL]
    have e16 : decide (s.size ≤ 16) = decide ((s.size : Int) ≤ 16) := decide_eq_decide.2 (by omega)
    have ewn : decide (wn = s.size) = decide ((wn : Int) = s.size) := decide_eq_decide.2 (by omega)
    rw [eL, e16, ewn] at hr
    clear eL e16 ewn hL
    refine pB Tryz.func277 rfl (by decide) Tryz.ntmps277 (by simp) Tryz.results277 ?_
    repeat' (first
 |refine aK fun K hK=>?_|refine Step.by1 ?_|refine sE (by decide) ?_|refine cz rfl ?_|refine Fork.by2 (fun h=>?_) fun h=>?_
 |((first|refine aR ?_|refine aC (f:=281) rfl rfl (hof) rfl rfl rfl ?_|refine aC (f:=282) rfl rfl (hw) rfl rfl rfl ?_|refine aC (f:=283) rfl rfl (hk) rfl rfl rfl ?_);simp [h0, hp, hp', hb, keptV_eq, keptV_len])
 |(refine Split.by2 (fun h=>?_) (fun h=>?_)<;>(simp [h, h0, hp, hp', hb, keptV_eq, keptV_len]))
 |(apply hK;clear hK K)|refine AWh ‹_› ?_)
    all_goals first
      | (clear hof hw hk hb; exact r1q (cE (by rw [← hr]; simp [h0, *]; done) rfl))
      | (clear hof hw hk hb; exact r1q (cE (by rw [← hr]; simp [h0, *]; omega) rfl))
def goodAt (l : List ByteArray) (i : Nat) : Bool := isNameB (l.getD i ⟨#[]⟩) && !memS (l.getD i ⟨#[]⟩) (l.take i)
def givenB (l : List ByteArray) : Bool := (List.range l.length).all (goodAt l)
theorem givenB_bad {l : List ByteArray} {i : Nat} (hi : i < l.length) (h : goodAt l i = false) : givenB l = false := by
  unfold givenB
  rw [Bool.eq_false_iff]
  intro ha
  rw [List.all_eq_true.1 ha i (List.mem_range.2 hi)] at h; cases h
theorem givenB_good {l : List ByteArray} (h : ∀ i, i < l.length → goodAt l i = true) : givenB l = true := List.all_eq_true.2 fun i hi => h i (List.mem_range.1 hi)
theorem isNameB_size {s : ByteArray} (h : isNameB s = true) : s.size ≤ 16 := by
  unfold isNameB at h
  simp only [Bool.and_eq_true, decide_eq_true_eq] at h
  exact h.2.1
/-- What has been seen. -/
def seenL (l : List ByteArray) (i : Nat) : List (ByteArray × V) := (l.take i).map fun s => (s, V.bool true)
theorem seen_keys (l : List ByteArray) (i : Nat) : (seenL l i).map (·.1) = l.take i := by simp [seenL, Function.comp_def]
theorem seen_get (l : List ByteArray) (i : Nat) (x : ByteArray) : (sget (seenL l i) x).getD (.bool false) = .bool (memS x (l.take i)) := by
  unfold seenL
  generalize l.take i = r
  induction r with
  | nil => rfl
  | cons y r ih =>
    unfold sget memS at *
    rw [List.map_cons, List.find?_cons, List.any_cons]
    by_cases h : y = x
    · simp [h]
    · simp only [h, decide_false, Bool.false_or]; exact ih
theorem seen_put {l : List ByteArray} {i : Nat} (hi : i < l.length) (h : memS l[i] (l.take i) = false) : sput (seenL l i) l[i] (.bool true) = seenL l (i + 1) := by
  have hn : (seenL l i).findIdx? (fun p => p.1 = l[i]) = none := (find_none fun q hq e => by
    obtain ⟨s, hs, rfl⟩ := List.mem_map.1 hq
    have : memS l[i] (l.take i) = true := memS_iff.2 (by rw [← e]; exact hs)
    rw [h] at this; cases this).2
  unfold sput
  rw [hn]
  unfold seenL
  rw [List.take_add_one, List.getElem?_eq_getElem hi, List.map_append]; rfl
theorem zb4 : (Tryz.prog.info? 4).bind (·.zero) = some (.bool false) := by kernel_rfl
set_option maxRecDepth 8000 in
set_option maxHeartbeats 4000000 in
theorem c_given (l : List ByteArray) (hl : l.length ≤ 1099511627776) (hs : ∀ s ∈ l, s.size ≤ 1048576) : PC 265 [vl strV l] (.bool (givenB l)) := by
  obtain ⟨r, hr⟩ : ∃ r, givenB l = r := ⟨_, rfl⟩
  have hbad := fun i hi h => givenB_bad (l := l) (i := i) hi h
  have hgood := givenB_good (l := l)
  rw [hr] at hbad hgood ⊢
  refine pB Tryz.func265 rfl (by decide) Tryz.ntmps265 (by simp) Tryz.results265 ?_
  repeat' (first
 |refine aK fun K hK=>?_|refine Step.by1 ?_|refine sE (by decide) ?_|refine cz rfl ?_|refine Fork.by2 (fun h=>?_) fun h=>?_
 |(refine aR ?_;simp [vl, strV])
 |(refine Split.by2 (fun h=>?_) (fun h=>?_)<;>(simp [h, vl, strV]))
 |(refine AS_op1 rfl S_makeMap ?_; simp)
 |(apply hK;clear hK K)|refine AWh ‹_› ?_)
  refine aL [3, 7, 8] (fun i : Nat => [(9, .int .i64 i)]) (fun i => [.map (smap (seenL l i))]) (fun i => i ≤ l.length ∧ (l.take i).Nodup ∧ ∀ j, j < i → goodAt l j = true) (fun i => l.length - i) 0 ⟨Nat.zero_le _, by simp, fun j hj => by omega⟩ (by apply Weak.mk' <;> simp [vl, strV, seenL, smap]) (fun _ _ => rfl) ?_
  rintro i ⟨hi, hnd, hpre⟩
  by_cases hlt : i < l.length
  · have hb := hbad i hlt
    have hx16 := isNameB_size (s := l[i])
    have hnk : ((seenL l i).map (·.1)).Nodup := by rw [seen_keys]; exact hnd
    have hget := seen_get l i l[i]
    have hput := seen_put hlt
    have hga : goodAt l i = (isNameB l[i] && !memS l[i] (l.take i)) := by simp [goodAt, List.getD, hlt]
    have hnd' : memS l[i] (l.take i) = false → (l.take (i + 1)).Nodup := fun h => by
      rw [List.take_add_one, List.getElem?_eq_getElem hlt]
      refine List.nodup_append.2 ⟨hnd, by simp, fun a ha b hb' => ?_⟩
      simp at hb'; subst hb'
      intro e; subst e
      rw [memS_iff.2 ha] at h; cases h
    have hsx := hs l[i] (List.getElem_mem hlt)
    obtain ⟨x, hx⟩ : ∃ x, l[i] = x := ⟨_, rfl⟩
    rw [hx] at hx16 hget hput hga hnd' hsx
    have hname := c_IsName x (by omega)
    generalize isNameB x = nb at *
    generalize memS x (l.take i) = mb at *
    repeat' (first
 |refine aK fun K hK=>?_|refine Step.by1 ?_|refine sE (by decide) ?_|refine cz rfl ?_|refine Fork.by2 (fun h=>?_) fun h=>?_
 |((first|refine aR ?_|refine aC (f:=277) rfl rfl (hname) rfl rfl rfl ?_);simp [vl, strV, hlt, hx, hget, wI];try (simp (disch:=omega) only [wI];try simp [vl, strV, hlt, hx, hget, wI]))
 |(refine Split.by2 (fun h=>?_) (fun h=>?_)<;>(simp [h, vl, strV, hlt, hx, hget, wI];try (simp (disch:=omega) only [wI];try simp [vl, strV, hlt, hx, hget, wI])))
 |(refine AS_op1 rfl (S_lookup (l := seenL l i) Tryz.underlying347 Tryz.underlying9 zb4 rfl rfl rfl hnk) ?_; simp [hget])
 |(refine AS_op1 rfl (S_mapUpdate (l := seenL l i) Tryz.underlying347 Tryz.underlying9 rfl rfl rfl hnk rfl) ?_; simp)
 |(apply hK;clear hK K)|refine AWh ‹_› ?_)
    all_goals first
      | (exfalso; have := hx16 (by assumption); omega)
      | exact r1q (cE (by rw [hb (by rw [hga]; simp [*])]; rfl) rfl)
      | (refine ⟨i + 1, ⟨by omega, hnd' h, fun j hj => ?_⟩, by omega, ?_⟩
         · rcases Nat.lt_or_ge j i with h' | h'
           · exact hpre j h'
           · rw [show j = i by omega, hga]; simp [*]
         · apply Weak.mk' <;> simp [vl, strV, hput h])
  · have hr1 := hgood (fun j hj => hpre j (by omega))
    repeat' (first
 |refine aK fun K hK=>?_|refine Step.by1 ?_|refine sE (by decide) ?_|refine cz rfl ?_|refine Fork.by2 (fun h=>?_) fun h=>?_
 |(refine aR ?_;simp [vl, strV, hlt])
 |(refine Split.by2 (fun h=>?_) (fun h=>?_)<;>(simp [h, vl, strV, hlt]))
 |(apply hK;clear hK K)|refine AWh ‹_› ?_)
    exact r1q (cE (by simp [hr1]) rfl)

def allL (n : NetD) : List ByteArray := n.clocks ++ (namesL n ++ (n.chans ++ n.autos.map (·.name)))
def namesB (n : NetD) : Bool := !givenB (allL n) || anyL (fun a => !givenB (locNamesL a)) n.autos
def namesE (n : NetD) : Int := if namesB n = true then 112 else 0
def firstE : List Int → Int
  | [] => 0
  | x :: r => if x ≠ 0 then x else firstE r
theorem fC {x : Int} {r : List Int} : firstE (x :: r) = if x ≠ 0 then x else firstE r := rfl
def wholeE (n : NetD) : Int := firstE [someE n, sizesE n, namesE n, varE n.vars, locsE n.autos, edgesE n n.autos, clocksE n, formsE n, testsE n]
end Go.Proofs.YtbgooadmonnjaaaGreatDoor
end
section
set_option linter.unusedVariables false
set_option linter.unusedSimpArgs false
namespace Go.AM
section
variable {P : Program} {ge : GEnv} {st : St} {Q : Exit → St → Prop} {G : Gh} {w : World}
variable {d : Option Tmp} {t : TypeId} {p : String} {af : Array Edge} {g : Option (Nat × Bool)}
theorem inv_nils {fr : Bool} {c : Value} (h : R G w fr .nils c) : c = .slice none 0 0 := by cases h; rfl
/-- The capacity of nil. -/
theorem S_capNil {T e : TypeId} {x : Operand} {ts : Array TypeId} (hts : ts = #[T]) (hu : P.underlying T = some (.slice e)) (hx : ev ge st.tm x = .nils) :
    OpS P ge st ⟨d, .call { callee := .builtin .cap, args := #[x], argTypes := ts }, t, p, af, g⟩ (.int .i64 0) st.h :=
  OpS_pure fun G a w hr => by
    have hvx := hr.ev x
    rw [hx] at hvx
    have hcx := inv_nils hvx
    exact ⟨.int .i64 0, by simp [execOp, resolve, invoke, builtin, hcx, hts, Builtin.cap_, run_underlying hu, goInt], .int⟩
/-- A slice of nil. -/
theorem S_sliceNil {T e : TypeId} {x y : Operand} {k : IntKind} (hu : P.underlying T = some (.slice e)) (h0 : 0 < szOf P e) (hx : ev ge st.tm x = .nils) (hy : ev ge st.tm y = .int k 0) :
    OpS P ge st ⟨d, .slice T x none (some y) none, t, p, af, g⟩ .nils st.h :=
  OpS_pure fun G a w hr => by
    have hvx := hr.ev x
    have hvy := hr.ev y
    rw [hx] at hvx
    rw [hy] at hvy
    have hcx := inv_nils hvx
    have hcy := hvy.inv_int
    exact ⟨.slice none 0 0, by simp [execOp, hcx, hcy, Instr.sliceAt, Instr.slice, run_underlying hu, Instr.sliceBounds, Instr.sliceBound, asIntOf, run_sizeOf rfl h0], .nils⟩
/-- append of so many zeros onto nil; what they are is not told. -/
theorem S_appendCount {T N e : TypeId} {x y : Operand} {ts : Array TypeId} {k kn : IntKind} {n : Nat} {zs : List V} (hts : ts = #[T, N]) (hu : P.underlying T = some (.slice e)) (hN : P.underlying N = some (.int kn)) (hz : zeroOf P e = some zs) (hsz : szOf P e = zs.length) (h0 : 0 < zs.length)
    (hx : ev ge st.tm x = .nils) (hy : ev ge st.tm y = .int k (n : Int)) (hn : 0 < n) (hb : n * bytesOf P e ≤ 140737488355328) (hb0 : 0 < bytesOf P e) :
    OpS P ge st ⟨d, .call { callee := .builtin .append, args := #[x, y], argTypes := ts }, t, p, af, g⟩ (.ref st.h.length 0 0 n) (st.h ++ [.row e 0 0 true []]) := by
  intro G a w hr
  have hvx := hr.ev x
  have hvy := hr.ev y
  rw [hx] at hvx
  rw [hy] at hvy
  have hcx := inv_nils hvx
  have hcy := hvy.inv_int
  obtain ⟨z, _, hz1, hz2, _, hz3⟩ := run_zeroValue hz
  obtain ⟨inf, hi, hisz, hby⟩ := info_of hsz h0
  rw [hi] at hz1
  simp only [Option.bind_some] at hz1
  have h63 : n ≤ maxLen := by
    have : n * 1 ≤ n * bytesOf P e := Nat.mul_le_mul_left _ hb0
    unfold maxLen; omega
  have hrun := Go.Lib.run_append_nil_zeros (P := P) w T N t e inf z k kn hu hN hi hz1 n hn (by omega) (by unfold maxLen at h63; omega) (by rw [hby]; omega)
  have hgrow : WGrow w (w.drew.alloc (.cells (Builtin.zeroCells z.cells n ++ Builtin.zeroCells z.cells (grownCap w n 0 e - n)) e)) := (WGrow.drew w).trans (.alloc _ _)
  have hge := grownCap_ge w n 0 e
  have hk : ∀ k', (G.push (some w.heap.size) (szOf P e) (grownCap w n 0 e)).at G.n (.row e 0 0 true []) = some k' → w.heap.size ≤ k' := fun k' h => by simp [Gh.at, Gh.push] at h; omega
  refine ⟨.slice (some ⟨w.heap.size, 0, none⟩) n (grownCap w n 0 e), G.push (some w.heap.size) (szOf P e) (grownCap w n 0 e), w.drew.alloc (.cells (Builtin.zeroCells z.cells n ++ Builtin.zeroCells z.cells (grownCap w n 0 e - n)) e), .inl ?_, hr.rh.push hgrow ⟨by simp [Gh.push], Nat.zero_le _, by simp [Gh.push, hsz, h0], .inr ⟨w.heap.size, _, by simp [Gh.push], heap_alloc_new w.drew _, ?_, ?_, by simp, ?_, fun i x h => by simp at h, fun i x j v h => by simp at h⟩⟩ hk, ?_, .push hr.rh hgrow hk⟩
  · rw [run_append_call, hcx, hcy, hts, hrun]; rfl
  · simp [Gh.push, hr.rh.fzlt]
  · simp only [Gh.push, Array.size_append, size_zeroCells, hz2, hsz, if_true]
    rw [← Nat.add_mul]; congr 1; omega
  · simpa [Gh.push] using grownCap_le_maxLen w n 0 e h63
  · rw [hr.rh.n]
    have := R.ref (G := G.push (some w.heap.size) (szOf P e) (grownCap w n 0 e)) (w := w.drew.alloc (.cells (Builtin.zeroCells z.cells n ++ Builtin.zeroCells z.cells (grownCap w n 0 e - n)) e)) (b := G.n) (g := 0) (off := 0) (len := n) (k := w.heap.size) (by simp [Gh.push]) (by simp [Gh.push]) (by simp [Gh.push]) (by simp [Gh.push]; omega)
    simpa [Gh.push] using this
end
end Go.AM
end
section
set_option linter.unusedSimpArgs false
set_option linter.unusedVariables false
namespace Go.Proofs.YtbgooadmonnjaaaGreatDoor
open Go Go.AM Fx
set_option maxRecDepth 8000 in
theorem c_growS (n : Nat) (hn : n ≤ 1073741824) : PC 284 [.nils, .int .i64 n] (.own 9 []) := by
  have z0 : ¬ (n : Int) < 0 := by omega
  have w1 : IntKind.i64.wrap (n : Int) = n := wI (by omega) (by omega)
  have wz : IntKind.i64.wrap 0 = 0 := by decide
  refine pB Tryz.func284 rfl (by decide) Tryz.ntmps284 (by simp) Tryz.results284 ?_
  by_cases h0 : n = 0
  · subst h0
    repeat' (first
 |refine AW_nilrow 4 9 rfl (by simp) ?_
 |refine aK fun K hK=>?_|refine Step.by1 ?_|refine sE (by decide) ?_|refine cz rfl ?_|refine Fork.by2 (fun h=>?_) fun h=>?_
 |(refine aR ?_;simp [z0, w1, wz])
 |(refine Split.by2 (fun h=>?_) (fun h=>?_)<;>(simp [h, z0, w1, wz]))
 |(refine AS_op1 rfl (S_capNil rfl Tryz.underlying22 rfl) ?_; simp [z0, w1, wz])
 |(apply hK;clear hK K)|refine AWh ‹_› ?_)
    exact r1q (.inr (.inl (conv1_own (b := 1) (xs := []) rfl rfl)))
  · have hp : (0 : Int) < n := by omega
    have hn0 : 0 < n := by omega
    have hb16 : n * bytesOf Tryz.prog 9 ≤ 140737488355328 := by simp; omega
    repeat' (first
 |refine aK fun K hK=>?_|refine Step.by1 ?_|refine sE (by decide) ?_|refine cz rfl ?_|refine Fork.by2 (fun h=>?_) fun h=>?_
 |(refine aR ?_;simp [z0, w1, wz, hp, hn0])
 |(refine Split.by2 (fun h=>?_) (fun h=>?_)<;>(simp [h, z0, w1, wz, hp, hn0]))
 |(refine AS_op rfl rfl (S_capNil rfl Tryz.underlying22 rfl) ?_; refine AS_op rfl rfl (S_sliceNil Tryz.underlying22 (by simp) rfl rfl) ?_; refine AS_op rfl rfl S_move ?_; refine AS_op1 rfl (S_appendCount (n := n) (zs := zeroD Tryz.prog 9) rfl Tryz.underlying22 Tryz.underlying3 (show zeroOf Tryz.prog 9 = some (zeroD Tryz.prog 9) from getD_some (by simp)) (by simp) (by simp) rfl rfl hn0 hb16 (by simp)) ?_; simp [z0, w1, wz, hp, hn0])
 |(refine AS_op1 rfl (S_capNil rfl Tryz.underlying22 rfl) ?_; simp [z0, w1, wz, hp, hn0])
 |(apply hK;clear hK K)|refine AWh ‹_› ?_)
    exact r1q (.inr (.inl (conv1_own (b := 0) (xs := []) rfl rfl)))
theorem catF_len {α β : Type} {f : α → List β} {x : α} {l : List α} {acc : Nat × List β} {r : List β} (h : catF f (x :: l) acc = r) : acc.2.length + (f x).length ≤ r.length := by
  rw [← h]; simp [catF]
theorem take_str (l : List ByteArray) : (l.map fun s => [V.str s]).take l.length = l.map fun s => [V.str s] := List.take_of_length_le (by simp)
def lenF (l : List (List ByteArray)) (c : Nat) : Nat := c + l.flatten.length
theorem lenF_nil {c : Nat} : lenF [] c = c := rfl
theorem lenF_cons {x : List ByteArray} {l : List (List ByteArray)} {c : Nat} : lenF (x :: l) c = lenF l (c + x.length) := by simp [lenF]; omega
theorem lenF_le {l : List (List ByteArray)} {c : Nat} : c ≤ lenF l c := by simp [lenF]
set_option maxRecDepth 8000 in
set_option maxHeartbeats 4000000 in
theorem c_concatS (ls : List (List ByteArray)) (hl : ls.length ≤ 1048576) (ht : ls.flatten.length ≤ 1073741824) : PC 278 [.vec (ls.map fun l => [vl (fun s => [V.str s]) l]) ls.length] (.own 9 (ls.flatten.map fun s => [V.str s])) := by
  have hG := c_growS ls.flatten.length ht
  have hfl0 : ls.flatMap (fun l => l) = ls.flatten := by rw [List.flatMap_id']
  obtain ⟨fl, hfl⟩ : ∃ fl, ls.flatten = fl := ⟨_, rfl⟩
  rw [hfl] at hG ht hfl0 ⊢
  obtain ⟨tot, htot⟩ : ∃ tot, fl.length = tot := ⟨_, rfl⟩
  rw [htot] at hG ht
  refine pB Tryz.func278 rfl (by decide) Tryz.ntmps278 (by simp) Tryz.results278 ?_
  repeat' (first
 |refine aK fun K hK=>?_|refine Step.by1 ?_|refine sE (by decide) ?_|refine cz rfl ?_|refine Fork.by2 (fun h=>?_) fun h=>?_
 |(refine aR ?_;simp [vl])
 |(refine Split.by2 (fun h=>?_) (fun h=>?_)<;>(simp [h, vl]))
 |(apply hK;clear hK K)|refine AWh ‹_› ?_)
  refine AW_range (r := tot) ls 11 [0, 9, 10] (fun c : Nat => [(3, .int .i64 (c : Int))]) (fun _ => []) (fun _ _ => True) lenF 0
    (by unfold lenF; rw [hfl, htot]; omega) trivial (by apply Weak.mk' <;> simp [vl]) (fun _ _ _ => rfl) ?_ ?_
  · intro i c x _ hlt hx _ hF
    rw [lenF_cons] at hF
    have hle : c + x.length ≤ tot := hF ▸ lenF_le
    have hlt' : (i : Int) < ls.length := by omega
    have hc0 : ¬ (c : Int) + x.length < 0 := by omega
    have w1 : IntKind.i64.wrap ((i : Int) + 1) = i + 1 := wI (by omega) (by omega)
    have w2 : IntKind.i64.wrap ((c : Int) + x.length) = c + x.length := wI (by omega) (by omega)
    repeat' (first
 |refine aK fun K hK=>?_|refine Step.by1 ?_|refine sE (by decide) ?_|refine cz rfl ?_|refine Fork.by2 (fun h=>?_) fun h=>?_
 |(refine aR ?_;simp [vl, strV, hlt, hlt', hx, w1, w2, hc0])
 |(refine Split.by2 (fun h=>?_) (fun h=>?_)<;>(simp [h, vl, strV, hlt, hlt', hx, w1, w2, hc0]))
 |(apply hK;clear hK K)|refine AWh ‹_› ?_)
    exact ⟨c + x.length, hF, by apply Weak.mk' <;> simp [vl]⟩
  · intro c _ hF
    rw [lenF_nil] at hF
    subst hF
    repeat' (first
 |refine aK fun K hK=>?_|refine Step.by1 ?_|refine sE (by decide) ?_|refine cz rfl ?_|refine Fork.by2 (fun h=>?_) fun h=>?_
 |((first|refine aR ?_|refine AS_callO (f:=284) rfl rfl (hG) rfl rfl ?_);simp [vl, strV])
 |(refine Split.by2 (fun h=>?_) (fun h=>?_)<;>(simp [h, vl, strV]))
 |(apply hK;clear hK K)|refine AWh ‹_› ?_)
    refine AW_range (r := fl) ls 27 [25, 26] (fun c : Nat × List ByteArray => [(6, .ref 0 c.1 0 c.2.length)]) (fun c => [.row 9 c.1 0 true (c.2.map fun s => [V.str s])]) (fun _ _ => True) (catF fun l : List ByteArray => l) (0, [])
      (by unfold catF; rw [hfl0]; rfl) trivial (by apply Weak.mk' <;> simp [vl]) (fun _ _ _ => rfl) ?_ ?_
    · rintro i ⟨g, out⟩ x _ hlt hx _ hF
      have hle := catF_len hF
      rw [catF_cons (g + 1)] at hF
      simp only at hF hle
      have hby : (out.length + x.length) * 16 ≤ 140737488355328 := by omega
      have hlt' : (i : Int) < ls.length := by omega
      have htk := take_str x
      have w1 : IntKind.i64.wrap ((i : Int) + 1) = i + 1 := wI (by omega) (by omega)
      repeat' (first
 |refine aK fun K hK=>?_|refine Step.by1 ?_|refine sE (by decide) ?_|refine cz rfl ?_|refine Fork.by2 (fun h=>?_) fun h=>?_
 |(refine aR ?_;simp [vl, strV, hlt, hlt', hx, w1, htk, hby])
 |(refine Split.by2 (fun h=>?_) (fun h=>?_)<;>(simp [h, vl, strV, hlt, hlt', hx, w1, htk, hby]))
 |(apply hK;clear hK K)|refine AWh ‹_› ?_)
      exact ⟨g + 1, out ++ x, hF, by apply Weak.mk' <;> simp [vl]⟩
    · rintro ⟨g, out⟩ _ hF
      rw [catF_nil] at hF
      simp only at hF
      subst hF
      repeat' (first
 |refine aK fun K hK=>?_|refine Step.by1 ?_|refine sE (by decide) ?_|refine cz rfl ?_|refine Fork.by2 (fun h=>?_) fun h=>?_
 |(refine aR ?_;simp [vl])
 |(refine Split.by2 (fun h=>?_) (fun h=>?_)<;>(simp [h, vl]))
 |(apply hK;clear hK K)|refine AWh ‹_› ?_)
      exact r1q (.inr (.inl (conv1_own rfl (by simp))))
set_option maxRecDepth 8000 in
set_option maxHeartbeats 4000000 in
theorem c_all (n : NetD) (hn : n.ok) : PC 266 [.agg n.cells] (vl strV (allL n)) := by
  obtain ⟨⟨h1, _⟩, ⟨h2, _⟩, ⟨h3, _⟩, h4, h5⟩ := hn
  have hN := c_Names n h2
  have hnl : (namesL n).length ≤ 1048576 := by simp [namesL, h2]
  have hC := c_concatS [n.clocks, namesL n, n.chans] (by simp) (by simp; omega)
  have hgoal : PC 266 [.agg n.cells] (.own 9 ((allL n).map fun s => [V.str s])) := by
    generalize hns : namesL n = ns at *
    have hfl : [n.clocks, ns, n.chans].flatten = n.clocks ++ (ns ++ n.chans) := by simp
    rw [hfl] at hC
    simp only [vl, NetD.cells] at hN
    simp only [vl, List.map_cons, List.map_nil, List.length_cons, List.length_nil, List.map_append] at hC
    refine pB Tryz.func266 rfl (by decide) Tryz.ntmps266 (by simp) Tryz.results266 ?_
    repeat' (first
 |refine aK fun K hK=>?_|refine Step.by1 ?_|refine sE (by decide) ?_|refine cz rfl ?_|refine Fork.by2 (fun h=>?_) fun h=>?_
 |((first|refine aR ?_|refine aX (id:=1) 6 mixed (by decide) ?_|refine aP1 (f:=279) rfl rfl (hN) rfl rfl rfl ?_);simp [vl, NetD.cells])
 |(refine Split.by2 (fun h=>?_) (fun h=>?_)<;>(simp [h, vl, NetD.cells]))
 |(refine AS_view 12 rfl rfl (by simp) ?_; simp; refine AS_callO (f := 278) rfl rfl hC rfl rfl ?_; simp [vl, NetD.cells])
 |(apply hK;clear hK K)|refine AWh ‹_› ?_)
    refine AW_range n.autos 17 [15, 16] (fun c : Nat × List ByteArray => [(3, .ref 2 c.1 0 c.2.length)]) (fun c => [.var n.cells, .dead, .row 9 c.1 0 true (c.2.map fun s => [V.str s])]) (fun i c => c.2.length ≤ 3145728 + i) (catF fun x : AutoD => [x.name]) (0, n.clocks ++ (ns ++ n.chans)) (r := allL n)
      (by simp [catF, allL, hns]; try exact (List.map_eq_flatMap ..).symm) (by simp; omega) (by apply Weak.mk' <;> simp [vl, NetD.cells]) (fun _ _ _ => rfl) ?_ ?_
    · rintro i ⟨g, out⟩ x _ hlt hx hJ hF
      simp only at hJ
      rw [catF_cons (g + 1)] at hF
      have hby : (out.length + 1) * 16 ≤ 140737488355328 := by omega
      have hlt' : (i : Int) < n.autos.length := by omega
      have w1 : IntKind.i64.wrap ((i : Int) + 1) = i + 1 := wI (by omega) (by omega)
      repeat' (first
 |refine aK fun K hK=>?_|refine Step.by1 ?_|refine sE (by decide) ?_|refine cz rfl ?_|refine Fork.by2 (fun h=>?_) fun h=>?_
 |(refine aR ?_;simp [vl, NetD.cells, AutoD.cells, hlt, hlt', hx, hby, w1])
 |(refine Split.by2 (fun h=>?_) (fun h=>?_)<;>(simp [h, vl, NetD.cells, AutoD.cells, hlt, hlt', hx, hby, w1]))
 |(apply hK;clear hK K)|refine AWh ‹_› ?_)
      exact ⟨g + 1, out ++ [x.name], hF, by simp; omega, by apply Weak.mk' <;> simp [vl, NetD.cells]⟩
    · rintro ⟨g, out⟩ hJ hF
      rw [catF_nil] at hF
      simp only at hF
      subst hF
      repeat' (first
 |refine aK fun K hK=>?_|refine Step.by1 ?_|refine sE (by decide) ?_|refine cz rfl ?_|refine Fork.by2 (fun h=>?_) fun h=>?_
 |(refine aR ?_;simp [vl, NetD.cells])
 |(refine Split.by2 (fun h=>?_) (fun h=>?_)<;>(simp [h, vl, NetD.cells]))
 |(apply hK;clear hK K)|refine AWh ‹_› ?_)
      exact r1q (.inr (.inl (conv1_own rfl (by simp))))
  have := hgoal.freeze
  have e : ((allL n).map fun s => [V.str s]).length = (allL n).length := by simp
  rw [e] at this
  exact this
end Go.Proofs.YtbgooadmonnjaaaGreatDoor
end
