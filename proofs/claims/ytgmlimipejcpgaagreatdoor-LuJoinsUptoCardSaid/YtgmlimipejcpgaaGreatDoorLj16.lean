/-
  YtgmlimipejcpgaaGreatDoorLj16: steps of the proof of a law of the program: what these texts prove holds under the hypotheses that their theorems name, and no others.
-/
import Derived.Test.YtgmlimipejcpgaaGreatDoorLj14
import Derived.Test.YtgmlimipejcpgaaGreatDoorLj12
import Derived.Test.YtgmlimipejcpgaaGreatDoorLj11
import Derived.Test.YtgmlimipejcpgaaGreatDoorLj13
import Derived.Test.YtgmlimipejcpgaaGreatDoorLj15
import Derived.Lib.AppendZeros
section
set_option linter.unusedSimpArgs false
set_option linter.unusedVariables false
namespace Go.Proofs.YtgmlimipejcpgaaGreatDoor
open Go Go.AM Fx
def strV (s : ByteArray) : List V := [.str s]
theorem c_indexS (l : List ByteArray) (v : ByteArray) (hl : l.length ≤ 1099511627776) : ∃ k : Int, PC 235 [vl strV l, .str v] (.int .i64 k) ∧ (0 ≤ k ↔ v ∈ l) := by
  by_cases hv : v ∈ l
  · obtain ⟨i0, h1, h2, h3⟩ : ∃ i0, ∃ h : i0 < l.length, l[i0] = v ∧ ∀ j (hj : j < i0), l[j]'(by omega) ≠ v := by
      have hx : ∃ x ∈ l, decide (x = v) = true := ⟨v, hv, by simp⟩
      have hlt := List.findIdx_lt_length.2 hx
      exact ⟨l.findIdx (fun x => decide (x = v)), hlt, of_decide_eq_true (List.findIdx_getElem (w := hlt)), fun j hj => by simpa using List.not_of_lt_findIdx hj⟩
    refine ⟨i0, ?_, ⟨fun _ => hv, fun _ => by omega⟩⟩
    refine pB Tryz.func235 rfl (by decide) Tryz.ntmps235 (by simp) Tryz.results235 ?_
    repeat' (first
 |refine aK fun K hK=>?_|refine Step.by1 ?_|refine sE (by decide) ?_|refine cz rfl ?_|refine Fork.by2 (fun h=>?_) fun h=>?_
 |(refine aR ?_;simp [vl, strV])
 |(refine Split.by2 (fun h=>?_) (fun h=>?_)<;>(simp [h, vl, strV]))
 |(apply hK;clear hK K)|refine AWh ‹_› ?_)
    refine aL [0, 1, 7] (fun i : Nat => [(8, .int .i64 i)]) (fun _ => []) (fun i => i ≤ i0) (fun i => l.length - i) 0 (Nat.zero_le _) (by apply Weak.mk' <;> simp [vl]) (fun _ _ => rfl) ?_
    intro i hi
    have hlt : i < l.length := by omega
    by_cases he : i = i0
    · subst he
      repeat' (first
 |refine aK fun K hK=>?_|refine Step.by1 ?_|refine sE (by decide) ?_|refine cz rfl ?_|refine Fork.by2 (fun h=>?_) fun h=>?_
 |(refine aR ?_;simp [vl, strV, hlt, h2, wI];try (simp (disch:=omega) only [wI];try simp [vl, strV, hlt, h2, wI]))
 |(refine Split.by2 (fun h=>?_) (fun h=>?_)<;>(simp [h, vl, strV, hlt, h2, wI];try (simp (disch:=omega) only [wI];try simp [vl, strV, hlt, h2, wI])))
 |(apply hK;clear hK K)|refine AWh ‹_› ?_)
      exact r1q (cE (by simp) rfl)
    · have hne : ¬ v = l[i] := fun e => h3 i (by omega) e.symm
      repeat' (first
 |refine aK fun K hK=>?_|refine Step.by1 ?_|refine sE (by decide) ?_|refine cz rfl ?_|refine Fork.by2 (fun h=>?_) fun h=>?_
 |(refine aR ?_;simp [vl, strV, hlt, hne, wI];try (simp (disch:=omega) only [wI];try simp [vl, strV, hlt, hne, wI]))
 |(refine Split.by2 (fun h=>?_) (fun h=>?_)<;>(simp [h, vl, strV, hlt, hne, wI];try (simp (disch:=omega) only [wI];try simp [vl, strV, hlt, hne, wI])))
 |(apply hK;clear hK K)|refine AWh ‹_› ?_)
      refine ⟨i + 1, by omega, by omega, ?_⟩; apply Weak.mk' <;> simp [vl]
  · refine ⟨-1, ?_, ⟨fun h => by omega, fun h => absurd h hv⟩⟩
    refine pB Tryz.func235 rfl (by decide) Tryz.ntmps235 (by simp) Tryz.results235 ?_
    repeat' (first
 |refine aK fun K hK=>?_|refine Step.by1 ?_|refine sE (by decide) ?_|refine cz rfl ?_|refine Fork.by2 (fun h=>?_) fun h=>?_
 |(refine aR ?_;simp [vl, strV])
 |(refine Split.by2 (fun h=>?_) (fun h=>?_)<;>(simp [h, vl, strV]))
 |(apply hK;clear hK K)|refine AWh ‹_› ?_)
    refine aL [0, 1, 7] (fun i : Nat => [(8, .int .i64 i)]) (fun _ => []) (fun i => i ≤ l.length) (fun i => l.length - i) 0 (Nat.zero_le _) (by apply Weak.mk' <;> simp [vl]) (fun _ _ => rfl) ?_
    intro i hi
    by_cases hlt : i < l.length
    · have hne : ¬ v = l[i] := fun e => hv (e ▸ List.getElem_mem hlt)
      repeat' (first
 |refine aK fun K hK=>?_|refine Step.by1 ?_|refine sE (by decide) ?_|refine cz rfl ?_|refine Fork.by2 (fun h=>?_) fun h=>?_
 |(refine aR ?_;simp [vl, strV, hlt, hne, wI];try (simp (disch:=omega) only [wI];try simp [vl, strV, hlt, hne, wI]))
 |(refine Split.by2 (fun h=>?_) (fun h=>?_)<;>(simp [h, vl, strV, hlt, hne, wI];try (simp (disch:=omega) only [wI];try simp [vl, strV, hlt, hne, wI])))
 |(apply hK;clear hK K)|refine AWh ‹_› ?_)
      refine ⟨i + 1, by omega, by omega, ?_⟩; apply Weak.mk' <;> simp [vl]
    · repeat' (first
 |refine aK fun K hK=>?_|refine Step.by1 ?_|refine sE (by decide) ?_|refine cz rfl ?_|refine Fork.by2 (fun h=>?_) fun h=>?_
 |(refine aR ?_;simp [vl, strV, hlt])
 |(refine Split.by2 (fun h=>?_) (fun h=>?_)<;>(simp [h, vl, strV, hlt]))
 |(apply hK;clear hK K)|refine AWh ‹_› ?_)
      exact r1q (cE rfl rfl)
def memS (v : ByteArray) (l : List ByteArray) : Bool := l.any fun x => decide (x = v)
theorem memS_iff {v : ByteArray} {l : List ByteArray} : memS v l = true ↔ v ∈ l := by
  unfold memS; rw [List.any_eq_true]; constructor
  · rintro ⟨x, h1, h2⟩; rw [← of_decide_eq_true h2]; exact h1
  · exact fun h => ⟨v, h, by simp⟩
theorem c_containsS (l : List ByteArray) (v : ByteArray) (hl : l.length ≤ 1099511627776) : PC 232 [vl strV l, .str v] (.bool (memS v l)) := by
  obtain ⟨k, hk, hk'⟩ := c_indexS l v hl
  refine pB Tryz.func232 rfl (by decide) Tryz.ntmps232 (by simp) Tryz.results232 ?_
  repeat' (first
 |refine aK fun K hK=>?_|refine Step.by1 ?_|refine sE (by decide) ?_|refine cz rfl ?_|refine Fork.by2 (fun h=>?_) fun h=>?_
 |((first|refine aR ?_|refine aC (f:=235) rfl rfl (hk) rfl rfl rfl ?_);simp)
 |(refine Split.by2 (fun h=>?_) (fun h=>?_)<;>(simp [h]))
 |(apply hK;clear hK K)|refine AWh ‹_› ?_)
  exact r1q (cE (by simp; rw [Bool.eq_iff_iff, memS_iff]; simp [hk']) rfl)
def isLetter (c : Int) : Bool := decide (97 ≤ c ∧ c ≤ 122 ∨ 65 ≤ c ∧ c ≤ 90)
def isDigit (c : Int) : Bool := decide (48 ≤ c ∧ c ≤ 57)
def lexClass (c : Int) : Int := if c = 32 ∨ c = 9 ∨ c = 13 ∨ c = 10 then 1 else if c = 35 then 4 else if isLetter c = true then 2 else if isDigit c = true then 3 else 0
theorem c_lexof (c : Int) : PC 230 [.int .u8 c] (.int .u8 (lexClass c)) := by
  by_cases h1 : c = 32 ∨ c = 9 ∨ c = 13 ∨ c = 10
  · rw [show lexClass c = 1 by unfold lexClass; rw [if_pos h1]]
    rcases h1 with rfl | rfl | rfl | rfl
    all_goals
      refine pB Tryz.func230 rfl (by decide) Tryz.ntmps230 (by simp) Tryz.results230 ?_
      repeat' (first
 |refine aK fun K hK=>?_|refine Step.by1 ?_|refine sE (by decide) ?_|refine cz rfl ?_|refine Fork.by2 (fun h=>?_) fun h=>?_
 |(refine aR ?_;simp)
 |(refine Split.by2 (fun h=>?_) (fun h=>?_)<;>(simp [h]))
 |(apply hK;clear hK K)|refine AWh ‹_› ?_)
      exact r1q (cE rfl rfl)
  · have e1 : ¬ c = 32 := by omega
    have e2 : ¬ c = 9 := by omega
    have e3 : ¬ c = 13 := by omega
    have e4 : ¬ c = 10 := by omega
    obtain ⟨r, hr⟩ : ∃ r, lexClass c = r := ⟨_, rfl⟩
    rw [hr]
    unfold lexClass at hr
    rw [if_neg h1] at hr
    refine pB Tryz.func230 rfl (by decide) Tryz.ntmps230 (by simp) Tryz.results230 ?_
    repeat' (first
 |refine aK fun K hK=>?_|refine Step.by1 ?_|refine sE (by decide) ?_|refine cz rfl ?_|refine Fork.by2 (fun h=>?_) fun h=>?_
 |(refine aR ?_;simp [e1, e2, e3, e4])
 |(refine Split.by2 (fun h=>?_) (fun h=>?_)<;>(simp [h, e1, e2, e3, e4]))
 |(apply hK;clear hK K)|refine AWh ‹_› ?_)
    all_goals first
      | (exfalso; omega)
      | exact r1q (cE (by rw [← hr]; simp [isLetter, isDigit, *]; done) rfl)
      | exact r1q (cE (by rw [← hr]; simp [isLetter, isDigit, *]; omega) rfl)
      | exact r1q (cE (by rw [← hr]; simp [isLetter, isDigit]; split <;> (try split) <;> (try split) <;> first | rfl | omega) rfl)
theorem lexClass_letter (c : Int) : lexClass c = 2 ↔ isLetter c = true := by
  unfold lexClass
  by_cases h1 : c = 32 ∨ c = 9 ∨ c = 13 ∨ c = 10
  · rw [if_pos h1]; simp [isLetter]; omega
  · rw [if_neg h1]
    by_cases h2 : c = 35
    · rw [if_pos h2]; simp [isLetter]; omega
    · rw [if_neg h2]
      by_cases h3 : isLetter c = true
      · simp [h3]
      · rw [if_neg h3]; constructor
        · intro h; split at h <;> omega
        · intro h; exact absurd h h3
theorem lexClass_digit (c : Int) : lexClass c = 3 ↔ isDigit c = true := by
  unfold lexClass
  by_cases h1 : c = 32 ∨ c = 9 ∨ c = 13 ∨ c = 10
  · rw [if_pos h1]; simp [isDigit]; omega
  · rw [if_neg h1]
    by_cases h2 : c = 35
    · rw [if_pos h2]; simp [isDigit]; omega
    · rw [if_neg h2]
      by_cases h3 : isLetter c = true
      · rw [if_pos h3]; simp only [isLetter, decide_eq_true_eq] at h3; simp [isDigit]; omega
      · rw [if_neg h3]
        by_cases h4 : isDigit c = true <;> simp [h4]
def byteS (s : ByteArray) (i : Nat) : Int := ((s.data.toList.getD i 0).toNat : Int)
def wordC (c : Int) : Bool := isLetter c || (isDigit c || decide (c = 95))
/-- Where the word ends that goes on at a place. -/
def wordE (s : ByteArray) : Nat → Nat → Nat
  | 0, i => i
  | k + 1, i => if i < s.size then (if wordC (byteS s i) = true then wordE s k (i + 1) else i) else i
def wordN (s : ByteArray) : Nat := wordE s s.size 1
theorem wordE_stop {s : ByteArray} {k i : Nat} (h : ¬ i < s.size) : wordE s k i = i := by cases k <;> simp [wordE, h]
theorem c_word (s : ByteArray) (hs : s.size ≤ 1099511627776) : PC 231 [.str s] (.int .i64 (wordN s)) := by
  obtain ⟨r, hr⟩ : ∃ r, wordN s = r := ⟨_, rfl⟩
  rw [hr]
  refine pB Tryz.func231 rfl (by decide) Tryz.ntmps231 (by simp) Tryz.results231 ?_
  repeat' (first
 |refine aK fun K hK=>?_|refine Step.by1 ?_|refine sE (by decide) ?_|refine cz rfl ?_|refine Fork.by2 (fun h=>?_) fun h=>?_
 |(refine aR ?_;simp)
 |(refine Split.by2 (fun h=>?_) (fun h=>?_)<;>(simp [h]))
 |(apply hK;clear hK K)|refine AWh ‹_› ?_)
  refine aL [0] (fun n : Nat => [(3, .int .i64 n)]) (fun _ => []) (fun n => 1 ≤ n ∧ n ≤ s.size + 1 ∧ wordE s (s.size + 1 - n) n = r) (fun n => s.size + 1 - n) 1 ⟨by omega, by omega, by simpa [wordN] using hr⟩ (by apply Weak.mk' <;> simp) (fun _ _ => rfl) ?_
  rintro n ⟨h1, h2, h3⟩
  by_cases hlt : n < s.size
  · have hlt' : (n : Int) < s.size := by omega
    obtain ⟨k, hk⟩ : ∃ k, s.size + 1 - n = k + 1 := ⟨s.size - n, by omega⟩
    rw [hk] at h3
    unfold wordE at h3
    rw [if_pos hlt] at h3
    obtain ⟨c, hc⟩ : ∃ c, byteS s n = c := ⟨_, rfl⟩
    rw [hc] at h3
    have hof := c_lexof c
    have hL := lexClass_letter c
    have hD := lexClass_digit c
    generalize lexClass c = q at *
    have hda : n < s.data.size := hlt
    have hb : ((s.data[n]).toNat : Int) = c := by rw [← hc]; simp [byteS, Array.getElem?_eq_getElem hda]
    repeat' (first
 |refine aK fun K hK=>?_|refine Step.by1 ?_|refine sE (by decide) ?_|refine cz rfl ?_|refine Fork.by2 (fun h=>?_) fun h=>?_
 |((first|refine aR ?_|refine aC (f:=230) rfl rfl (hof) rfl rfl rfl ?_);simp [hlt, hlt', hb, wI];try (simp (disch:=omega) only [wI];try simp [hlt, hlt', hb, wI]))
 |(refine Split.by2 (fun h=>?_) (fun h=>?_)<;>(simp [h, hlt, hlt', hb, wI];try (simp (disch:=omega) only [wI];try simp [hlt, hlt', hb, wI])))
 |(apply hK;clear hK K)|refine AWh ‹_› ?_)
    all_goals first
      | (refine ⟨n + 1, ⟨by omega, by omega, ?_⟩, by omega, ?_⟩
         · rw [show s.size + 1 - (n + 1) = k by omega, ← h3, if_pos]
           simp only [wordC, Bool.or_eq_true, decide_eq_true_eq, ← hL, ← hD]; omega
         · apply Weak.mk' <;> simp)
      | (have hnw : ¬ wordC c = true := by simp only [wordC, Bool.or_eq_true, decide_eq_true_eq, ← hL, ← hD]; omega
         rw [if_neg hnw] at h3
         exact r1q (cE (by simp [h3]) rfl))
  · have hlt' : ¬ (n : Int) < s.size := by omega
    rw [wordE_stop hlt] at h3
    repeat' (first
 |refine aK fun K hK=>?_|refine Step.by1 ?_|refine sE (by decide) ?_|refine cz rfl ?_|refine Fork.by2 (fun h=>?_) fun h=>?_
 |(refine aR ?_;simp [hlt, hlt'])
 |(refine Split.by2 (fun h=>?_) (fun h=>?_)<;>(simp [h, hlt, hlt']))
 |(apply hK;clear hK K)|refine AWh ‹_› ?_)
    exact r1q (cE (by simp [h3]) rfl)
def keptS : List ByteArray := [⟨#[99, 108, 111, 99, 107]⟩, ⟨#[105, 110, 116]⟩, ⟨#[99, 104, 97, 110]⟩, ⟨#[97, 117, 116, 111]⟩, ⟨#[108, 111, 99]⟩, ⟨#[101, 100, 103, 101]⟩, ⟨#[105, 110]⟩, ⟨#[105, 110, 118]⟩, ⟨#[119, 104, 101, 110]⟩, ⟨#[115, 121, 110, 99]⟩, ⟨#[100, 111]⟩, ⟨#[117, 114, 103, 101, 110, 116]⟩, ⟨#[99, 111, 109, 109, 105, 116, 116, 101, 100]⟩, ⟨#[116, 114, 117, 101]⟩, ⟨#[114, 101, 97, 99, 104]⟩, ⟨#[110, 101, 118, 101, 114]⟩]
theorem keptV_eq : keptV.map (fun c => [c]) = keptS.map strV := rfl
theorem keptV_len : keptV.length = 16 := rfl
theorem keptS_len : keptS.length = 16 := rfl
def isNameB (s : ByteArray) : Bool := !decide (s = ⟨#[]⟩) && (decide (s.size ≤ 16) && (isLetter (byteS s 0) && (decide (wordN s = s.size) && !memS s keptS)))
theorem size_pos {s : ByteArray} (h : ¬ s = ⟨#[]⟩) : 0 < s.size := by
  rcases Nat.eq_zero_or_pos s.size with h0 | h0
  · exfalso; apply h
    obtain ⟨⟨l⟩⟩ := s
    have : l = [] := List.eq_nil_of_length_eq_zero h0
    subst this; rfl
  · exact h0
set_option maxHeartbeats 4000000 in
theorem c_IsName (s : ByteArray) (hs : s.size ≤ 1099511627776) : PC 216 [.str s] (.bool (isNameB s)) := by
  obtain ⟨r, hr⟩ : ∃ r, isNameB s = r := ⟨_, rfl⟩
  rw [hr]
  unfold isNameB at hr
  by_cases h0 : s = ⟨#[]⟩
  · subst h0
    refine pB Tryz.func216 rfl (by decide) Tryz.ntmps216 (by simp) Tryz.results216 ?_
    repeat' (first
 |refine aK fun K hK=>?_|refine Step.by1 ?_|refine sE (by decide) ?_|refine cz rfl ?_|refine Fork.by2 (fun h=>?_) fun h=>?_
 |(refine aR ?_;simp)
 |(refine Split.by2 (fun h=>?_) (fun h=>?_)<;>(simp [h]))
 |(apply hK;clear hK K)|refine AWh ‹_› ?_)
    exact r1q (cE (by rw [← hr]; simp) rfl)
  · have hp := size_pos h0
    have hp' : (0 : Int) < s.size := by omega
    have hda : 0 < s.data.size := hp
    have hof := c_lexof (byteS s 0)
    have hL := lexClass_letter (byteS s 0)
    have hb : ((s.data[0]).toNat : Int) = byteS s 0 := by simp [byteS, Array.getElem?_eq_getElem hda]
    have hw := c_word s hs
    have hk := c_containsS keptS s (by rw [keptS_len]; omega)
    simp only [vl, keptS_len] at hk
    generalize byteS s 0 = c at *
    generalize lexClass c = q at *
    generalize wordN s = wn at *
    generalize memS s keptS = mk at *
    have eL : isLetter c = decide (q = 2) := by rw [Bool.eq_iff_iff]; simp [hL]
    have e16 : decide (s.size ≤ 16) = decide ((s.size : Int) ≤ 16) := decide_eq_decide.2 (by omega)
    have ewn : decide (wn = s.size) = decide ((wn : Int) = s.size) := decide_eq_decide.2 (by omega)
    rw [eL, e16, ewn] at hr
    clear eL e16 ewn hL
    refine pB Tryz.func216 rfl (by decide) Tryz.ntmps216 (by simp) Tryz.results216 ?_
    repeat' (first
 |refine aK fun K hK=>?_|refine Step.by1 ?_|refine sE (by decide) ?_|refine cz rfl ?_|refine Fork.by2 (fun h=>?_) fun h=>?_
 |((first|refine aR ?_|refine aC (f:=230) rfl rfl (hof) rfl rfl rfl ?_|refine aC (f:=231) rfl rfl (hw) rfl rfl rfl ?_|refine aC (f:=232) rfl rfl (hk) rfl rfl rfl ?_);simp [h0, hp, hp', hb, keptV_eq, keptV_len])
 |(refine Split.by2 (fun h=>?_) (fun h=>?_)<;>(simp [h, h0, hp, hp', hb, keptV_eq, keptV_len]))
 |(apply hK;clear hK K)|refine AWh ‹_› ?_)
    all_goals first
      | (clear hof hw hk hb; exact r1q (cE (by rw [← hr]; simp [h0, *]; done) rfl))
      | (clear hof hw hk hb; exact r1q (cE (by rw [← hr]; simp [h0, *]; omega) rfl))
def goodAt (l : List ByteArray) (i : Nat) : Bool := isNameB (l.getD i ⟨#[]⟩) && !memS (l.getD i ⟨#[]⟩) (l.take i)
def givenB (l : List ByteArray) : Bool := (List.range l.length).all (goodAt l)
theorem givenB_bad {l : List ByteArray} {i : Nat} (hi : i < l.length) (h : goodAt l i = false) : givenB l = false := by
  unfold givenB
  rw [Bool.eq_false_iff]
  intro ha
  rw [List.all_eq_true.1 ha i (List.mem_range.2 hi)] at h; cases h
theorem givenB_good {l : List ByteArray} (h : ∀ i, i < l.length → goodAt l i = true) : givenB l = true := List.all_eq_true.2 fun i hi => h i (List.mem_range.1 hi)
theorem isNameB_size {s : ByteArray} (h : isNameB s = true) : s.size ≤ 16 := by
  unfold isNameB at h
  simp only [Bool.and_eq_true, decide_eq_true_eq] at h
  exact h.2.1
/-- What has been seen. -/
def seenL (l : List ByteArray) (i : Nat) : List (ByteArray × V) := (l.take i).map fun s => (s, V.bool true)
theorem seen_keys (l : List ByteArray) (i : Nat) : (seenL l i).map (·.1) = l.take i := by simp [seenL, Function.comp_def]
theorem seen_get (l : List ByteArray) (i : Nat) (x : ByteArray) : (sget (seenL l i) x).getD (.bool false) = .bool (memS x (l.take i)) := by
  unfold seenL
  generalize l.take i = r
  induction r with
  | nil => rfl
  | cons y r ih =>
    unfold sget memS at *
    rw [List.map_cons, List.find?_cons, List.any_cons]
    by_cases h : y = x
    · simp [h]
    · simp only [h, decide_false, Bool.false_or]; exact ih
theorem seen_put {l : List ByteArray} {i : Nat} (hi : i < l.length) (h : memS l[i] (l.take i) = false) : sput (seenL l i) l[i] (.bool true) = seenL l (i + 1) := by
  have hn : (seenL l i).findIdx? (fun p => p.1 = l[i]) = none := (find_none fun q hq e => by
    obtain ⟨s, hs, rfl⟩ := List.mem_map.1 hq
    have : memS l[i] (l.take i) = true := memS_iff.2 (by rw [← e]; exact hs)
    rw [h] at this; cases this).2
  unfold sput
  rw [hn]
  unfold seenL
  rw [List.take_add_one, List.getElem?_eq_getElem hi, List.map_append]; rfl
theorem zb4 : (Tryz.prog.info? 4).bind (·.zero) = some (.bool false) := by kernel_rfl
set_option maxRecDepth 8000 in
set_option maxHeartbeats 4000000 in
theorem c_given (l : List ByteArray) (hl : l.length ≤ 1099511627776) (hs : ∀ s ∈ l, s.size ≤ 1048576) : PC 187 [vl strV l] (.bool (givenB l)) := by
  obtain ⟨r, hr⟩ : ∃ r, givenB l = r := ⟨_, rfl⟩
  have hbad := fun i hi h => givenB_bad (l := l) (i := i) hi h
  have hgood := givenB_good (l := l)
  rw [hr] at hbad hgood ⊢
  refine pB Tryz.func187 rfl (by decide) Tryz.ntmps187 (by simp) Tryz.results187 ?_
  repeat' (first
 |refine aK fun K hK=>?_|refine Step.by1 ?_|refine sE (by decide) ?_|refine cz rfl ?_|refine Fork.by2 (fun h=>?_) fun h=>?_
 |(refine aR ?_;simp [vl, strV])
 |(refine Split.by2 (fun h=>?_) (fun h=>?_)<;>(simp [h, vl, strV]))
 |(refine AS_op1 rfl S_makeMap ?_; simp)
 |(apply hK;clear hK K)|refine AWh ‹_› ?_)
  refine aL [3, 7, 8] (fun i : Nat => [(9, .int .i64 i)]) (fun i => [.map (smap (seenL l i))]) (fun i => i ≤ l.length ∧ (l.take i).Nodup ∧ ∀ j, j < i → goodAt l j = true) (fun i => l.length - i) 0 ⟨Nat.zero_le _, by simp, fun j hj => by omega⟩ (by apply Weak.mk' <;> simp [vl, strV, seenL, smap]) (fun _ _ => rfl) ?_
  rintro i ⟨hi, hnd, hpre⟩
  by_cases hlt : i < l.length
  · have hb := hbad i hlt
    have hx16 := isNameB_size (s := l[i])
    have hnk : ((seenL l i).map (·.1)).Nodup := by rw [seen_keys]; exact hnd
    have hget := seen_get l i l[i]
    have hput := seen_put hlt
    have hga : goodAt l i = (isNameB l[i] && !memS l[i] (l.take i)) := by simp [goodAt, List.getD, hlt]
    have hnd' : memS l[i] (l.take i) = false → (l.take (i + 1)).Nodup := fun h => by
      rw [List.take_add_one, List.getElem?_eq_getElem hlt]
      refine List.nodup_append.2 ⟨hnd, by simp, fun a ha b hb' => ?_⟩
      simp at hb'; subst hb'
      intro e; subst e
      rw [memS_iff.2 ha] at h; cases h
    have hsx := hs l[i] (List.getElem_mem hlt)
    obtain ⟨x, hx⟩ : ∃ x, l[i] = x := ⟨_, rfl⟩
    rw [hx] at hx16 hget hput hga hnd' hsx
    have hname := c_IsName x (by omega)
    generalize isNameB x = nb at *
    generalize memS x (l.take i) = mb at *
    repeat' (first
 |refine aK fun K hK=>?_|refine Step.by1 ?_|refine sE (by decide) ?_|refine cz rfl ?_|refine Fork.by2 (fun h=>?_) fun h=>?_
 |((first|refine aR ?_|refine aC (f:=216) rfl rfl (hname) rfl rfl rfl ?_);simp [vl, strV, hlt, hx, hget, wI];try (simp (disch:=omega) only [wI];try simp [vl, strV, hlt, hx, hget, wI]))
 |(refine Split.by2 (fun h=>?_) (fun h=>?_)<;>(simp [h, vl, strV, hlt, hx, hget, wI];try (simp (disch:=omega) only [wI];try simp [vl, strV, hlt, hx, hget, wI])))
 |(refine AS_op1 rfl (S_lookup (l := seenL l i) Tryz.underlying238 Tryz.underlying9 zb4 rfl rfl rfl hnk) ?_; simp [hget])
 |(refine AS_op1 rfl (S_mapUpdate (l := seenL l i) Tryz.underlying238 Tryz.underlying9 rfl rfl rfl hnk rfl) ?_; simp)
 |(apply hK;clear hK K)|refine AWh ‹_› ?_)
    all_goals first
      | (exfalso; have := hx16 (by assumption); omega)
      | exact r1q (cE (by rw [hb (by rw [hga]; simp [*])]; rfl) rfl)
      | (refine ⟨i + 1, ⟨by omega, hnd' h, fun j hj => ?_⟩, by omega, ?_⟩
         · rcases Nat.lt_or_ge j i with h' | h'
           · exact hpre j h'
           · rw [show j = i by omega, hga]; simp [*]
         · apply Weak.mk' <;> simp [vl, strV, hput h])
  · have hr1 := hgood (fun j hj => hpre j (by omega))
    repeat' (first
 |refine aK fun K hK=>?_|refine Step.by1 ?_|refine sE (by decide) ?_|refine cz rfl ?_|refine Fork.by2 (fun h=>?_) fun h=>?_
 |(refine aR ?_;simp [vl, strV, hlt])
 |(refine Split.by2 (fun h=>?_) (fun h=>?_)<;>(simp [h, vl, strV, hlt]))
 |(apply hK;clear hK K)|refine AWh ‹_› ?_)
    exact r1q (cE (by simp [hr1]) rfl)
theorem r_isValue (n : Int) : PC 139 [.int .i64 n] (.bool (decide (-1048576 ≤ n ∧ n ≤ 1048576))) := by
  refine pB Tryz.func139 rfl (by decide) Tryz.ntmps139 (by simp) Tryz.results139 ?_
  repeat' (first
 |refine aK fun K hK=>?_|refine Step.by1 ?_|refine sE (by decide) ?_|refine cz rfl ?_|refine Fork.by2 (fun h=>?_) fun h=>?_
 |(refine aR ?_;simp)
 |(refine Split.by2 (fun h=>?_) (fun h=>?_)<;>(simp [h]))
 |(apply hK;clear hK K)|refine AWh ‹_› ?_)
  all_goals first
    | exact r1q (cE (by simp [*]; done) rfl)
    | exact r1q (cE (by simp [*]; omega) rfl)
theorem r_cmpless (g : GuardD) : PC 201 [.agg g.cells] (.bool (cmpG g)) := by
  refine pB Tryz.func201 rfl (by decide) Tryz.ntmps201 (by simp) Tryz.results201 ?_
  repeat' (first
 |refine aK fun K hK=>?_|refine Step.by1 ?_|refine sE (by decide) ?_|refine cz rfl ?_|refine Fork.by2 (fun h=>?_) fun h=>?_
 |(refine aR ?_;simp [GuardD.cells])
 |(refine Split.by2 (fun h=>?_) (fun h=>?_)<;>(simp [h, GuardD.cells]))
 |(apply hK;clear hK K)|refine AWh ‹_› ?_)
  all_goals first
    | exact r1q (cE (by simp [cmpG, *]; done) rfl)
    | exact r1q (cE (by simp [cmpG, *]; omega) rfl)
theorem clkG_eq (n : NetD) (g : GuardD) : clkG n g = decide (g.clock < 1 ∨ (n.clocks.length : Int) < g.clock ∨ g.other < 0 ∨ (n.clocks.length : Int) < g.other) := by
  rw [Bool.eq_iff_iff]
  simp only [clkG, isClk, Bool.or_eq_true, Bool.and_eq_true, Bool.not_eq_true', decide_eq_true_eq, decide_eq_false_iff_not]
  omega
theorem r_clockless (n : NetD) (g : GuardD) : PC 200 [.agg n.cells, .agg g.cells] (.bool (clkG n g)) := by
  rw [clkG_eq]
  obtain ⟨r, hr⟩ : ∃ r, decide (g.clock < 1 ∨ (n.clocks.length : Int) < g.clock ∨ g.other < 0 ∨ (n.clocks.length : Int) < g.other) = r := ⟨_, rfl⟩
  rw [hr]
  refine pB Tryz.func200 rfl (by decide) Tryz.ntmps200 (by simp) Tryz.results200 ?_
  repeat' (first
 |refine aK fun K hK=>?_|refine Step.by1 ?_|refine sE (by decide) ?_|refine cz rfl ?_|refine Fork.by2 (fun h=>?_) fun h=>?_
 |(refine aR ?_;simp [GuardD.cells, NetD.cells, vl])
 |(refine Split.by2 (fun h=>?_) (fun h=>?_)<;>(simp [h, GuardD.cells, NetD.cells, vl]))
 |(apply hK;clear hK K)|refine AWh ‹_› ?_)
  all_goals first
    | exact r1q (cE (by rw [← hr]; simp [*]; done) rfl)
    | exact r1q (cE (by rw [← hr]; simp [*]; omega) rfl)
/-- Is a guard wrong in a way? -/
def wayG (n : NetD) (way : Int) (g : GuardD) : Bool := (decide (way = 12) && clkG n g) || (decide (way = 7) && cmpG g)
set_option maxRecDepth 8000 in
set_option maxHeartbeats 4000000 in
theorem r_guards (n : NetD) (l : List GuardD) (way : Int) (hl : l.length ≤ 1099511627776) : PC 153 [.agg n.cells, vl GuardD.cells l, .int .i64 way] (.bool (anyL (wayG n way) l)) := by
  refine pB Tryz.func153 rfl (by decide) Tryz.ntmps153 (by simp) Tryz.results153 ?_
  repeat' (first
 |refine aK fun K hK=>?_|refine Step.by1 ?_|refine sE (by decide) ?_|refine cz rfl ?_|refine Fork.by2 (fun h=>?_) fun h=>?_
 |(refine aR ?_;simp [vl, NetD.cells])
 |(refine Split.by2 (fun h=>?_) (fun h=>?_)<;>(simp [h, vl, NetD.cells]))
 |(apply hK;clear hK K)|refine AWh ‹_› ?_)
  refine aS1 (l) 7 [1, 2, 3] (anyL (wayG n way)) rfl (by apply Weak.mk' <;> simp [vl]) ?_ ?_
  · intro i x _ hlt hx hF
    rw [anC] at hF
    have hc1 := r_clockless n x
    have hc2 := r_cmpless x
    simp only [NetD.cells, GuardD.cells, vl] at hc1 hc2
    have hw : wayG n way x = ((decide (way = 12) && clkG n x) || (decide (way = 7) && cmpG x)) := rfl
    generalize clkG n x = k1 at *
    generalize cmpG x = k2 at *
    repeat' (first
 |refine aK fun K hK=>?_|refine Step.by1 ?_|refine sE (by decide) ?_|refine cz rfl ?_|refine Fork.by2 (fun h=>?_) fun h=>?_
 |((first|refine aR ?_|refine aX (id:=4) 21 mixed (by decide) ?_|refine aP1 (f:=200) rfl rfl (hc1) rfl rfl rfl ?_|refine aP1 (f:=201) rfl rfl (hc2) rfl rfl rfl ?_);simp [vl, NetD.cells, GuardD.cells, hlt, hx, wI];try (simp (disch:=omega) only [wI];try simp [vl, NetD.cells, GuardD.cells, hlt, hx, wI]))
 |(refine Split.by2 (fun h=>?_) (fun h=>?_)<;>(simp [h, vl, NetD.cells, GuardD.cells, hlt, hx, wI];try (simp (disch:=omega) only [wI];try simp [vl, NetD.cells, GuardD.cells, hlt, hx, wI])))
 |(apply hK;clear hK K)|refine AWh ‹_› ?_)
    all_goals first
      | exact r1q (cE (by rw [← hF, hw]; simp [*]; done) rfl)
      | exact r1q (cE (by rw [← hF, hw]; simp [*]; omega) rfl)
      | (refine ⟨by rw [← hF, hw]; simp [*]; done, ?_⟩; apply Weak.mk' <;> simp [vl, NetD.cells] <;> (symm; assumption))
      | (refine ⟨by rw [← hF, hw]; simp [*]; omega, ?_⟩; apply Weak.mk' <;> simp [vl, NetD.cells] <;> (symm; assumption))
  · intro hF
    repeat' (first
 |refine aK fun K hK=>?_|refine Step.by1 ?_|refine sE (by decide) ?_|refine cz rfl ?_|refine Fork.by2 (fun h=>?_) fun h=>?_
 |(refine aR ?_;simp [vl])
 |(refine Split.by2 (fun h=>?_) (fun h=>?_)<;>(simp [h, vl]))
 |(apply hK;clear hK K)|refine AWh ‹_› ?_)
    exact r1q (cE (by rw [← hF]; rfl) rfl)
def allL (n : NetD) : List ByteArray := n.clocks ++ (namesL n ++ (n.chans ++ n.autos.map (·.name)))
def namesB (n : NetD) : Bool := !givenB (allL n) || anyL (fun a => !givenB (locNamesL a)) n.autos
def namesE (n : NetD) : Int := if namesB n = true then 112 else 0
def firstE : List Int → Int
  | [] => 0
  | x :: r => if x ≠ 0 then x else firstE r
theorem fC {x : Int} {r : List Int} : firstE (x :: r) = if x ≠ 0 then x else firstE r := rfl
def wholeE (n : NetD) : Int := firstE [someE n, sizesE n, namesE n, varE n.vars, locsE n.autos, edgesE n n.autos, clocksE n, formsE n, testsE n]
def setW (n : NetD) (way : Int) (s : SetD) : Bool := (decide (way = 12) && clkS n s) || ((decide (way = 7) && formS s) || (decide (way = 121) && testS n s))
def edgeW (n : NetD) (a : AutoD) (way : Int) (e : EdgeD) : Bool := if way = 123 then edgeB n a e else ((decide (way = 121) && truthBad n e.test) || anyL (setW n way) e.sets)
def locW (n : NetD) (way : Int) (x : LocD) : Bool := (decide (way = 122) && kindB x) || anyL (wayG n way) x.inv
def edW (n : NetD) (a : AutoD) (way : Int) (e : EdgeD) : Bool := anyL (wayG n way) e.guards || edgeW n a way e
def wrongA (n : NetD) (way : Int) (a : AutoD) : Bool := anyL (locW n way) a.locs || anyL (edW n a way) a.edges
def wrongB (n : NetD) (way : Int) : Bool := anyL (wrongA n way) n.autos
theorem anyL_or {α : Type} {p q : α → Bool} : ∀ {l : List α}, anyL (fun x => p x || q x) l = (anyL p l || anyL q l)
  | [] => rfl
  | x :: r => by simp only [anC, anyL_or (l := r)]; cases p x <;> cases q x <;> cases anyL p r <;> simp
theorem anyL_append {α : Type} {p : α → Bool} {l l' : List α} : anyL p (l ++ l') = (anyL p l || anyL p l') := by simp [anyL]
theorem anyL_flatMap {α β : Type} {p : β → Bool} {f : α → List β} : ∀ {l : List α}, anyL p (l.flatMap f) = anyL (fun x => anyL p (f x)) l
  | [] => rfl
  | x :: r => by rw [List.flatMap_cons, anyL_append, anC, anyL_flatMap (l := r)]
theorem anyL_false' {α : Type} {l : List α} : anyL (fun _ => false) l = false := by
  induction l with
  | nil => rfl
  | cons x r ih => rw [anC, ih]; rfl
theorem anyL_congr {α : Type} {p q : α → Bool} {l : List α} (h : ∀ x ∈ l, p x = q x) : anyL p l = anyL q l := by
  induction l with
  | nil => rfl
  | cons x r ih => rw [anC, anC, h x (.head _), ih fun y hy => h y (.tail _ hy)]
theorem wrong_loc (n : NetD) : (if wrongB n 122 = true then 122 else 0) = locsE n.autos := by
  have h1 : wayG n 122 = fun _ => false := funext fun g => by simp [wayG]
  have h2 : setW n 122 = fun _ => false := funext fun s => by simp [setW]
  have h3 : wrongA n 122 = fun a => anyL kindB a.locs := funext fun a => by
    have h4 : locW n 122 = kindB := funext fun x => by simp [locW, h1, anyL_false']
    have h5 : edW n a 122 = fun _ => false := funext fun e => by simp [edW, edgeW, h1, h2, anyL_false']
    simp [wrongA, h4, h5, anyL_false']
  unfold wrongB locsE; rw [h3]
theorem wrong_edge (n : NetD) : (if wrongB n 123 = true then 123 else 0) = edgesE n n.autos := by
  have h1 : wayG n 123 = fun _ => false := funext fun g => by simp [wayG]
  have h3 : wrongA n 123 = fun a => anyL (edgeB n a) a.edges := funext fun a => by
    have h4 : locW n 123 = fun _ => false := funext fun x => by simp [locW, h1, anyL_false']
    have h5 : edW n a 123 = edgeB n a := funext fun e => by simp [edW, edgeW, h1, anyL_false']
    simp [wrongA, h4, h5, anyL_false']
  unfold wrongB edgesE; rw [h3]
theorem any_guards {n : NetD} {p : GuardD → Bool} {q : SetD → Bool} : anyL (fun a : AutoD => anyL (fun x : LocD => anyL p x.inv) a.locs || anyL (fun e : EdgeD => anyL p e.guards || anyL q e.sets) a.edges) n.autos = (anyL p (guardsL n) || anyL q (setsL n)) := by
  unfold guardsL setsL
  rw [anyL_flatMap, anyL_flatMap, ← anyL_or]
  refine anyL_congr fun a _ => ?_
  unfold guardsA setsA
  rw [anyL_append, anyL_flatMap, anyL_flatMap, anyL_flatMap, anyL_or, Bool.or_assoc]
theorem wrong_clk (n : NetD) : (if wrongB n 12 = true then 12 else 0) = clocksE n := by
  have h1 : wayG n 12 = clkG n := funext fun g => by simp [wayG]
  have h2 : setW n 12 = clkS n := funext fun s => by simp [setW]
  have h3 : wrongA n 12 = fun a => anyL (fun x : LocD => anyL (clkG n) x.inv) a.locs || anyL (fun e : EdgeD => anyL (clkG n) e.guards || anyL (clkS n) e.sets) a.edges := funext fun a => by
    have h4 : locW n 12 = fun x : LocD => anyL (clkG n) x.inv := funext fun x => by simp [locW, h1]
    have h5 : edW n a 12 = fun e : EdgeD => anyL (clkG n) e.guards || anyL (clkS n) e.sets := funext fun e => by simp [edW, edgeW, h1, h2]
    simp only [wrongA, h4, h5]
  unfold wrongB; rw [h3, any_guards]
  unfold clocksE clkE
  change _ = if (if anyL (clkG n) (guardsL n) = true then (12 : Int) else 0) ≠ 0 then (if anyL (clkG n) (guardsL n) = true then (12 : Int) else 0) else _
  cases anyL (clkG n) (guardsL n) <;> simp
theorem wrong_form (n : NetD) : (if wrongB n 7 = true then 7 else 0) = formsE n := by
  have h1 : wayG n 7 = cmpG := funext fun g => by simp [wayG]
  have h2 : setW n 7 = formS := funext fun s => by simp [setW]
  have h3 : wrongA n 7 = fun a => anyL (fun x : LocD => anyL cmpG x.inv) a.locs || anyL (fun e : EdgeD => anyL cmpG e.guards || anyL formS e.sets) a.edges := funext fun a => by
    have h4 : locW n 7 = fun x : LocD => anyL cmpG x.inv := funext fun x => by simp [locW, h1]
    have h5 : edW n a 7 = fun e : EdgeD => anyL cmpG e.guards || anyL formS e.sets := funext fun e => by simp [edW, edgeW, h1, h2]
    simp only [wrongA, h4, h5]
  unfold wrongB; rw [h3, any_guards]
  unfold formsE cmpE
  change _ = if (if anyL cmpG (guardsL n) = true then (7 : Int) else 0) ≠ 0 then (if anyL cmpG (guardsL n) = true then (7 : Int) else 0) else _
  cases anyL cmpG (guardsL n) <;> simp
theorem wrong_test (n : NetD) : (if wrongB n 121 = true then 121 else 0) = testsE n := by
  have h1 : wayG n 121 = fun _ => false := funext fun g => by simp [wayG]
  have h2 : setW n 121 = testS n := funext fun s => by simp [setW]
  have h3 : wrongA n 121 = fun a => testsA n a || anyL (testS n) (setsA a) := funext fun a => by
    have h4 : locW n 121 = fun _ => false := funext fun x => by simp [locW, h1, anyL_false']
    have h5 : edW n a 121 = fun e : EdgeD => truthBad n e.test || anyL (testS n) e.sets := funext fun e => by simp [edW, edgeW, h1, h2, anyL_false']
    simp only [wrongA, h4, h5, anyL_false', Bool.false_or, testsA, setsA, anyL_or, anyL_flatMap]
  unfold wrongB; rw [h3, anyL_or]
  unfold testsE setsL
  rw [anyL_flatMap]
  generalize anyL (testsA n) n.autos = p
  generalize anyL (fun x => anyL (testS n) (setsA x)) n.autos = q
  cases p <;> cases q <;> simp
/-- The way in which the reference looks at all. -/
theorem wholeE_ref (n : NetD) : wholeE n = firstE [someE n, sizesE n, namesE n, varE n.vars, if wrongB n 122 = true then 122 else 0, if wrongB n 123 = true then 123 else 0, if wrongB n 12 = true then 12 else 0, if wrongB n 7 = true then 7 else 0, if wrongB n 121 = true then 121 else 0] := by
  rw [wrong_loc, wrong_edge, wrong_clk, wrong_form, wrong_test]; rfl
end Go.Proofs.YtgmlimipejcpgaaGreatDoor
end
section
set_option linter.unusedVariables false
set_option linter.unusedSimpArgs false
namespace Go.AM
section
variable {P : Program} {ge : GEnv} {st : St} {Q : Exit → St → Prop} {G : Gh} {w : World}
variable {d : Option Tmp} {t : TypeId} {p : String} {af : Array Edge} {g : Option (Nat × Bool)}
theorem inv_nils {fr : Bool} {c : Value} (h : R G w fr .nils c) : c = .slice none 0 0 := by cases h; rfl
/-- The capacity of nil. -/
theorem S_capNil {T e : TypeId} {x : Operand} {ts : Array TypeId} (hts : ts = #[T]) (hu : P.underlying T = some (.slice e)) (hx : ev ge st.tm x = .nils) :
    OpS P ge st ⟨d, .call { callee := .builtin .cap, args := #[x], argTypes := ts }, t, p, af, g⟩ (.int .i64 0) st.h :=
  OpS_pure fun G a w hr => by
    have hvx := hr.ev x
    rw [hx] at hvx
    have hcx := inv_nils hvx
    exact ⟨.int .i64 0, by simp [execOp, resolve, invoke, builtin, hcx, hts, Builtin.cap_, run_underlying hu, goInt], .int⟩
/-- A slice of nil. -/
theorem S_sliceNil {T e : TypeId} {x y : Operand} {k : IntKind} (hu : P.underlying T = some (.slice e)) (h0 : 0 < szOf P e) (hx : ev ge st.tm x = .nils) (hy : ev ge st.tm y = .int k 0) :
    OpS P ge st ⟨d, .slice T x none (some y) none, t, p, af, g⟩ .nils st.h :=
  OpS_pure fun G a w hr => by
    have hvx := hr.ev x
    have hvy := hr.ev y
    rw [hx] at hvx
    rw [hy] at hvy
    have hcx := inv_nils hvx
    have hcy := hvy.inv_int
    exact ⟨.slice none 0 0, by simp [execOp, hcx, hcy, Instr.sliceAt, Instr.slice, run_underlying hu, Instr.sliceBounds, Instr.sliceBound, asIntOf, run_sizeOf rfl h0], .nils⟩
/-- append of so many zeros onto nil; what they are is not told. -/
theorem S_appendCount {T N e : TypeId} {x y : Operand} {ts : Array TypeId} {k kn : IntKind} {n : Nat} {zs : List V} (hts : ts = #[T, N]) (hu : P.underlying T = some (.slice e)) (hN : P.underlying N = some (.int kn)) (hz : zeroOf P e = some zs) (hsz : szOf P e = zs.length) (h0 : 0 < zs.length)
    (hx : ev ge st.tm x = .nils) (hy : ev ge st.tm y = .int k (n : Int)) (hn : 0 < n) (hb : n * bytesOf P e ≤ 140737488355328) (hb0 : 0 < bytesOf P e) :
    OpS P ge st ⟨d, .call { callee := .builtin .append, args := #[x, y], argTypes := ts }, t, p, af, g⟩ (.ref st.h.length 0 0 n) (st.h ++ [.row e 0 0 true []]) := by
  intro G a w hr
  have hvx := hr.ev x
  have hvy := hr.ev y
  rw [hx] at hvx
  rw [hy] at hvy
  have hcx := inv_nils hvx
  have hcy := hvy.inv_int
  obtain ⟨z, _, hz1, hz2, _, hz3⟩ := run_zeroValue hz
  obtain ⟨inf, hi, hisz, hby⟩ := info_of hsz h0
  rw [hi] at hz1
  simp only [Option.bind_some] at hz1
  have h63 : n ≤ maxLen := by
    have : n * 1 ≤ n * bytesOf P e := Nat.mul_le_mul_left _ hb0
    unfold maxLen; omega
  have hrun := Go.Lib.run_append_nil_zeros (P := P) w T N t e inf z k kn hu hN hi hz1 n hn (by omega) (by unfold maxLen at h63; omega) (by rw [hby]; omega)
  have hgrow : WGrow w (w.drew.alloc (.cells (Builtin.zeroCells z.cells n ++ Builtin.zeroCells z.cells (grownCap w n 0 e - n)) e)) := (WGrow.drew w).trans (.alloc _ _)
  have hge := grownCap_ge w n 0 e
  have hk : ∀ k', (G.push (some w.heap.size) (szOf P e) (grownCap w n 0 e)).at G.n (.row e 0 0 true []) = some k' → w.heap.size ≤ k' := fun k' h => by simp [Gh.at, Gh.push] at h; omega
  refine ⟨.slice (some ⟨w.heap.size, 0, none⟩) n (grownCap w n 0 e), G.push (some w.heap.size) (szOf P e) (grownCap w n 0 e), w.drew.alloc (.cells (Builtin.zeroCells z.cells n ++ Builtin.zeroCells z.cells (grownCap w n 0 e - n)) e), .inl ?_, hr.rh.push hgrow ⟨by simp [Gh.push], Nat.zero_le _, by simp [Gh.push, hsz, h0], .inr ⟨w.heap.size, _, by simp [Gh.push], heap_alloc_new w.drew _, ?_, ?_, by simp, ?_, fun i x h => by simp at h, fun i x j v h => by simp at h⟩⟩ hk, ?_, .push hr.rh hgrow hk⟩
  · rw [run_append_call, hcx, hcy, hts, hrun]; rfl
  · simp [Gh.push, hr.rh.fzlt]
  · simp only [Gh.push, Array.size_append, size_zeroCells, hz2, hsz, if_true]
    rw [← Nat.add_mul]; congr 1; omega
  · simpa [Gh.push] using grownCap_le_maxLen w n 0 e h63
  · rw [hr.rh.n]
    have := R.ref (G := G.push (some w.heap.size) (szOf P e) (grownCap w n 0 e)) (w := w.drew.alloc (.cells (Builtin.zeroCells z.cells n ++ Builtin.zeroCells z.cells (grownCap w n 0 e - n)) e)) (b := G.n) (g := 0) (off := 0) (len := n) (k := w.heap.size) (by simp [Gh.push]) (by simp [Gh.push]) (by simp [Gh.push]) (by simp [Gh.push]; omega)
    simpa [Gh.push] using this
/-- Nil, as a slice that shows nothing. -/
def V.denil : V → V
  | .nils => .vec [] 0
  | v => v
theorem PCall.denil {f : Nat} {args args' : List V} {r : V} (hc : PCall P ge f args' r) (ha : args.map V.denil = args') : PCall P ge f args r := by
  subst ha
  refine ⟨hc.1, fun G w cargs h hg => hc.2 G w cargs ⟨by rw [List.length_map]; exact h.1, fun i v hv => ?_⟩ hg⟩
  rw [List.getElem?_map] at hv
  obtain ⟨u, h1, rfl⟩ := Option.map_eq_some_iff.1 hv
  have h2 := h.2 i u h1
  generalize cargs.getD i undef = c at h2 ⊢
  cases u <;> first | exact h2 | (cases h2; exact .emp (Nat.zero_le _))
end
end Go.AM
end
