/-
  YtgmlimipejcpgaaGreatDoorLj18: steps of the proof of a law of the program: what these texts prove holds under the hypotheses that their theorems name, and no others.
-/
import Derived.Test.YtgmlimipejcpgaaGreatDoorLj17
import Derived.Test.YtgmlimipejcpgaaGreatDoorLj16
import Derived.Test.YtgmlimipejcpgaaGreatDoorLj14
section
set_option linter.unusedSimpArgs false
set_option linter.unusedVariables false
namespace Go.Proofs.YtgmlimipejcpgaaGreatDoor
open Go Go.AM Fx
theorem retq3ct {P : Program} {st : St} {t u v : Nat} {T : TypeId} {cs : List V} {off : Nat} {r : V} (hp : place st.h (lk st.tm t) = some (cs, off)) (ho : loadOk P T cs off) (hc : Conv st.h (.tup [loadV P T cs off, lk st.tm u, lk st.tm v]) r) : RetQ P #[.cell t T, .tmp u, .tmp v] r .ret st :=
  ⟨.inr rfl, _, ⟨[loadV P T cs off, lk st.tm u, lk st.tm v], rfl, ⟨cs, off, hp, ho, rfl⟩, rfl, rfl, trivial⟩, hc⟩
def numStep (n c : Int) : Int := if n ≤ 2147483648 then IntKind.i64.wrap (IntKind.i64.wrap (IntKind.i64.wrap (n * 10) + IntKind.i64.wrap c) - 48) else n
def numE (s : ByteArray) : Nat → Nat → Int → Nat × Int
  | 0, k, n => (k, n)
  | f + 1, k, n => if k < s.size ∧ isDigit (byteS s k) = true then numE s f (k + 1) (numStep n (byteS s k)) else (k, n)
theorem numE_stop {s : ByteArray} {f k : Nat} {n : Int} (h : ¬ (k < s.size ∧ isDigit (byteS s k) = true)) : numE s f k n = (k, n) := by cases f <;> simp only [numE, if_neg h]
def tokV (kind : Int) (text : ByteArray) (n at_ : Int) : V := .agg [.int .i64 kind, .str text, .int .i64 n, .int .i64 at_]
set_option maxRecDepth 8000 in
set_option maxHeartbeats 4000000 in
theorem r_number (s : ByteArray) (at0 : Nat) (hs : s.size ≤ 1099511627776) (ha : at0 < s.size) : ∃ kind text n at_ k e, PC 239 [.str s, .int .i64 at0] (.tup [tokV kind text n at_, .int .i64 k, .int .i64 e]) ∧ kind ≠ 1 := by
  obtain ⟨⟨k0, n0⟩, hr⟩ : ∃ r, numE s (s.size - at0) at0 0 = r := ⟨_, rfl⟩
  obtain ⟨c0, hc0⟩ : ∃ c, byteS s at0 = c := ⟨_, rfl⟩
  have hda : at0 < s.data.size := ha
  have hb0 : ((s.data[at0]).toNat : Int) = c0 := by rw [← hc0]; simp [byteS, Array.getElem?_eq_getElem hda]
  have ha' : (at0 : Int) < s.size := by omega
  have key : ∀ R : V, (∀ n' : Int, at0 ≤ k0 → k0 ≤ s.size → R = (if (c0 = 48 ∧ (at0 : Int) + 1 < k0) ∨ 2147483647 < n0 then .tup [tokV 0 ⟨#[]⟩ 0 0, .int .i64 at0, .int .i64 91] else .tup [tokV 2 (s.extract at0 k0) n0 at0, .int .i64 k0, .int .i64 0])) →
      PC 239 [.str s, .int .i64 at0] R := by
    intro R hR
    have w1 : IntKind.i64.wrap ((at0 : Int) + 1) = at0 + 1 := wI (by omega) (by omega)
    refine pB Tryz.func239 rfl (by decide) Tryz.ntmps239 (by simp) Tryz.results239 ?_
    repeat' (first
 |refine aK fun K hK=>?_|refine Step.by1 ?_|refine sE (by decide) ?_|refine cz rfl ?_|refine Fork.by2 (fun h=>?_) fun h=>?_
 |(refine aR ?_;simp)
 |(refine Split.by2 (fun h=>?_) (fun h=>?_)<;>(simp [h]))
 |(apply hK;clear hK K)|refine AWh ‹_› ?_)
    refine aL [0, 1, 4] (fun p : Nat × Int => [(7, .int .i64 p.1), (8, .int .i64 p.2)]) (fun _ => [.var [.int .i64 0, .str ⟨#[]⟩, .int .i64 0, .int .i64 0]]) (fun p => at0 ≤ p.1 ∧ p.1 ≤ s.size ∧ numE s (s.size - p.1) p.1 p.2 = (k0, n0)) (fun p => s.size - p.1) (at0, 0) ⟨Nat.le_refl _, (by simp only; omega), hr⟩ (by apply Weak.mk' <;> simp) (fun _ _ => rfl) ?_
    rintro ⟨p, n⟩ ⟨i1, i2, i3⟩
    simp only at i1 i2 i3
    by_cases hlt : p < s.size
    · have hlt' : (p : Int) < s.size := by omega
      obtain ⟨c, hc⟩ : ∃ c, byteS s p = c := ⟨_, rfl⟩
      have hdp : p < s.data.size := hlt
      have hb : ((s.data[p]).toNat : Int) = c := by rw [← hc]; simp [byteS, Array.getElem?_eq_getElem hdp]
      have hdg := r_digit c
      have w2 : IntKind.i64.wrap ((p : Int) + 1) = p + 1 := wI (by omega) (by omega)
      by_cases hd : isDigit c = true
      · rw [show s.size - p = (s.size - (p + 1)) + 1 by omega] at i3
        unfold numE at i3
        rw [hc, if_pos ⟨hlt, hd⟩] at i3
        rw [hd] at hdg
        by_cases hn : n ≤ 2147483648
        · have hst : numStep n c = IntKind.i64.wrap (IntKind.i64.wrap (IntKind.i64.wrap (n * 10) + IntKind.i64.wrap c) - 48) := by unfold numStep; rw [if_pos hn]
          rw [hst] at i3
          repeat' (first
 |refine aK fun K hK=>?_|refine Step.by1 ?_|refine sE (by decide) ?_|refine cz rfl ?_|refine Fork.by2 (fun h=>?_) fun h=>?_
 |((first|refine aR ?_|refine aC (f:=238) rfl rfl (hdg) rfl rfl rfl ?_);simp [hlt, hlt', hb, hn, w2])
 |(refine Split.by2 (fun h=>?_) (fun h=>?_)<;>(simp [h, hlt, hlt', hb, hn, w2]))
 |(apply hK;clear hK K)|refine AWh ‹_› ?_)
          refine ⟨p + 1, _, ⟨by omega, by omega, i3⟩, by omega, ?_⟩
          apply Weak.mk' <;> simp
        · have hst : numStep n c = n := by unfold numStep; rw [if_neg hn]
          rw [hst] at i3
          repeat' (first
 |refine aK fun K hK=>?_|refine Step.by1 ?_|refine sE (by decide) ?_|refine cz rfl ?_|refine Fork.by2 (fun h=>?_) fun h=>?_
 |((first|refine aR ?_|refine aC (f:=238) rfl rfl (hdg) rfl rfl rfl ?_);simp [hlt, hlt', hb, hn, w2])
 |(refine Split.by2 (fun h=>?_) (fun h=>?_)<;>(simp [h, hlt, hlt', hb, hn, w2]))
 |(apply hK;clear hK K)|refine AWh ‹_› ?_)
          refine ⟨p + 1, n, ⟨by omega, by omega, i3⟩, by omega, ?_⟩
          apply Weak.mk' <;> simp
      · rw [numE_stop (by rw [hc]; exact fun h => hd h.2)] at i3
        cases i3
        have hd' : isDigit c = false := by simpa using hd
        rw [hd'] at hdg
        have hR' := hR 0 i1 i2
        repeat' (first
 |refine aK fun K hK=>?_|refine Step.by1 ?_|refine sE (by decide) ?_|refine cz rfl ?_|refine Fork.by2 (fun h=>?_) fun h=>?_
 |((first|refine aR ?_|refine aC (f:=238) rfl rfl (hdg) rfl rfl rfl ?_);simp [hlt, hlt', hb, hb0, hda, ha, ha', w1, i1, i2])
 |(refine Split.by2 (fun h=>?_) (fun h=>?_)<;>(simp [h, hlt, hlt', hb, hb0, hda, ha, ha', w1, i1, i2]))
 |(apply hK;clear hK K)|refine AWh ‹_› ?_)
        all_goals first
          | (rw [hR', if_pos (by omega)]; exact retq3ct rfl (by simp) (cE (by simp [tokV]) (by simp [tokV])))
          | (rw [hR', if_neg (by omega)]; exact retq3ct rfl (by simp) (cE (by simp [tokV]) (by simp [tokV])))
    · rw [numE_stop (fun h => hlt h.1)] at i3
      cases i3
      have hlt' : ¬ (k0 : Int) < s.size := by omega
      have hR' := hR 0 i1 i2
      repeat' (first
 |refine aK fun K hK=>?_|refine Step.by1 ?_|refine sE (by decide) ?_|refine cz rfl ?_|refine Fork.by2 (fun h=>?_) fun h=>?_
 |(refine aR ?_;simp [hlt, hlt', hb0, hda, ha, ha', w1, i1, i2])
 |(refine Split.by2 (fun h=>?_) (fun h=>?_)<;>(simp [h, hlt, hlt', hb0, hda, ha, ha', w1, i1, i2]))
 |(apply hK;clear hK K)|refine AWh ‹_› ?_)
      all_goals first
        | (rw [hR', if_pos (by omega)]; exact retq3ct rfl (by simp) (cE (by simp [tokV]) (by simp [tokV])))
        | (rw [hR', if_neg (by omega)]; exact retq3ct rfl (by simp) (cE (by simp [tokV]) (by simp [tokV])))
  by_cases hcnd : (c0 = 48 ∧ (at0 : Int) + 1 < k0) ∨ 2147483647 < n0
  · exact ⟨0, _, _, _, _, _, key _ (fun _ _ _ => by rw [if_pos hcnd]), by decide⟩
  · exact ⟨2, _, _, _, _, _, key _ (fun _ _ _ => by rw [if_neg hcnd]), by decide⟩
theorem begE_le {s : ByteArray} : ∀ (k i : Nat), i ≤ s.size → begE s k i ≤ s.size
  | 0, i, h => h
  | k + 1, i, h => by
    unfold begE
    split
    · split
      · exact begE_le k _ (by omega)
      · split
        · have := remE_ge (s := s) (s.size - i) i
          exact begE_le k _ (by omega)
        · exact h
    · exact h
theorem begE_letter {s : ByteArray} {k : Nat} (h : 0 < s.size) (hl : isLetter (byteS s 0) = true) : begE s k 0 = 0 := by
  cases k with
  | zero => rfl
  | succ k =>
    unfold begE
    simp only [isLetter, decide_eq_true_eq] at hl
    rw [if_pos h, if_neg (by omega), if_neg (by omega)]
theorem wordE_fuel {s : ByteArray} : ∀ (f i : Nat), s.size ≤ f + i → wordE s f i = wordE s (s.size - i) i
  | 0, i, h => by rw [show s.size - i = 0 by omega]
  | f + 1, i, h => by
    by_cases hlt : i < s.size
    · rw [show s.size - i = (s.size - (i + 1)) + 1 by omega]
      unfold wordE
      rw [if_pos hlt, if_pos hlt]
      split
      · exact wordE_fuel f (i + 1) (by omega)
      · rfl
    · rw [wordE_stop hlt, wordE_stop hlt]
theorem wordE_all {s : ByteArray} (h : 0 < s.size) (hl : isLetter (byteS s 0) = true) : wordE s (s.size - 0) 0 = wordN s := by
  unfold wordN
  rw [wordE_fuel s.size 1 (by omega), show s.size - 0 = (s.size - 1) + 1 by omega]
  conv => lhs; unfold wordE
  rw [if_pos h, if_pos (by simp [wordC, hl])]
def twosL : List ByteArray := [⟨#[46, 46]⟩, ⟨#[58, 61]⟩, ⟨#[45, 62]⟩, ⟨#[38, 38]⟩, ⟨#[124, 124]⟩, ⟨#[33, 61]⟩, ⟨#[60, 61]⟩, ⟨#[61, 61]⟩, ⟨#[62, 61]⟩]
def onesB : ByteArray := ⟨#[44, 59, 46, 123, 125, 40, 41, 33, 60, 62, 63, 43, 45, 42]⟩
def oneF (s : ByteArray) (p : Nat) : List Nat → V
  | [] => .tup [tokV 0 ⟨#[]⟩ 0 0, .int .i64 p, .int .i64 90]
  | j :: r => if byteS s p = byteS onesB j then .tup [tokV 3 (onesB.extract j (j + 1)) 0 p, .int .i64 ((p : Int) + 1), .int .i64 0] else oneF s p r
def twoF (s : ByteArray) (p : Nat) : List ByteArray → V
  | [] => oneF s p (List.range 14)
  | x :: r => if p + 2 ≤ s.size ∧ s.extract p (p + 2) = x then .tup [tokV 3 x 0 p, .int .i64 ((p : Int) + 2), .int .i64 0] else twoF s p r
theorem oneF_nil {s : ByteArray} {p : Nat} : oneF s p [] = .tup [tokV 0 ⟨#[]⟩ 0 0, .int .i64 p, .int .i64 90] := rfl
theorem oneF_cons {s : ByteArray} {p j : Nat} {r : List Nat} : oneF s p (j :: r) = if byteS s p = byteS onesB j then .tup [tokV 3 (onesB.extract j (j + 1)) 0 p, .int .i64 ((p : Int) + 1), .int .i64 0] else oneF s p r := rfl
theorem twoF_nil {s : ByteArray} {p : Nat} : twoF s p [] = oneF s p (List.range 14) := rfl
theorem twoF_cons {s : ByteArray} {p : Nat} {x : ByteArray} {r : List ByteArray} : twoF s p (x :: r) = if p + 2 ≤ s.size ∧ s.extract p (p + 2) = x then .tup [tokV 3 x 0 p, .int .i64 ((p : Int) + 2), .int .i64 0] else twoF s p r := rfl
theorem oneF_shape (s : ByteArray) (p : Nat) : ∀ l : List Nat, ∃ kind text n at_ k e, oneF s p l = .tup [tokV kind text n at_, .int .i64 k, .int .i64 e] ∧ kind ≠ 1
  | [] => ⟨0, _, _, _, _, _, rfl, by decide⟩
  | j :: r => by
    rw [oneF_cons]
    split
    · exact ⟨3, _, _, _, _, _, rfl, by decide⟩
    · exact oneF_shape s p r
theorem twoF_shape (s : ByteArray) (p : Nat) : ∀ l : List ByteArray, ∃ kind text n at_ k e, twoF s p l = .tup [tokV kind text n at_, .int .i64 k, .int .i64 e] ∧ kind ≠ 1
  | [] => oneF_shape s p _
  | j :: r => by
    rw [twoF_cons]
    split
    · exact ⟨3, _, _, _, _, _, rfl, by decide⟩
    · exact twoF_shape s p r
theorem twos_get {i : Nat} {x : ByteArray} (h : twosL[i]? = some x) : ([.str ⟨#[46, 46]⟩, .str ⟨#[58, 61]⟩, .str ⟨#[45, 62]⟩, .str ⟨#[38, 38]⟩, .str ⟨#[124, 124]⟩, .str ⟨#[33, 61]⟩, .str ⟨#[60, 61]⟩, .str ⟨#[61, 61]⟩, .str ⟨#[62, 61]⟩, .str ⟨#[]⟩, .str ⟨#[]⟩] : List V)[i]? = some (.str x) := by
  have hi : i < 9 := (List.getElem?_eq_some_iff.1 h).1
  rcases i with _ | _ | _ | _ | _ | _ | _ | _ | _ | i <;> first | (simp [twosL] at h; subst h; rfl) | omega
set_option maxRecDepth 20000 in
set_option maxHeartbeats 8000000 in
theorem r_Next0 (s : ByteArray) (hs : s.size ≤ 1099511627776) : ∃ kind text n at_ k e, PC 236 [.str s, .int .i64 0] (.tup [tokV kind text n at_, .int .i64 k, .int .i64 e]) ∧
    ((e = 0 ∧ kind = 1 ∧ k = s.size ∧ at_ = 0) ↔ (0 < s.size ∧ isLetter (byteS s 0) = true ∧ wordN s = s.size)) := by
  have hbeg := r_begin s 0 hs (Nat.zero_le _)
  have hle := begE_le (s := s) (s.size + 1 - 0) 0 (Nat.zero_le _)
  have hlet := begE_letter (s := s) (k := s.size + 1 - 0)
  obtain ⟨p, hp⟩ : ∃ p, begE s (s.size + 1 - 0) 0 = p := ⟨_, rfl⟩
  rw [hp] at hbeg hle hlet
  simp only [Int.natCast_zero] at hbeg
  have z1 : ¬ (s.size : Int) < 0 := by omega
  by_cases hps : p = s.size
  · -- nothing but blanks and remarks
    refine ⟨0, ⟨#[]⟩, 0, p, p, 0, ?_, ⟨fun h => absurd h.2.1 (by decide), fun h => absurd (hlet h.1 h.2.1) (by omega)⟩⟩
    subst hps
    refine pB Tryz.func236 rfl (by decide) Tryz.ntmps236 (by simp) Tryz.results236 ?_
    repeat' (first
 |refine aK fun K hK=>?_|refine Step.by1 ?_|refine sE (by decide) ?_|refine cz rfl ?_|refine Fork.by2 (fun h=>?_) fun h=>?_
 |((first|refine aR ?_|refine aC (f:=237) rfl rfl (hbeg) rfl rfl rfl ?_);simp [z1])
 |(refine Split.by2 (fun h=>?_) (fun h=>?_)<;>(simp [h, z1]))
 |(apply hK;clear hK K)|refine AWh ‹_› ?_)
    exact retq3ct rfl (by simp) (cE (by simp [tokV]) (by simp [tokV]))
  · have hlt : p < s.size := by omega
    have hlt' : (p : Int) < s.size := by omega
    have hne : ¬ (p : Int) = s.size := by omega
    obtain ⟨c, hc⟩ : ∃ c, byteS s p = c := ⟨_, rfl⟩
    have hdp : p < s.data.size := hlt
    have hb : ((s.data[p]).toNat : Int) = c := by rw [← hc]; simp [byteS, Array.getElem?_eq_getElem hdp]
    have hdig := r_digit c
    have hltr := r_letter c
    by_cases hd : isDigit c = true
    · -- a number
      obtain ⟨kind, text, n, at_, k, e, hnum, hk⟩ := r_number s p hs hlt
      refine ⟨kind, text, n, at_, k, e, ?_, ⟨fun h => absurd h.2.1 hk, fun h => ?_⟩⟩
      · rw [hd] at hdig
        simp only [tokV] at hnum ⊢
        refine pB Tryz.func236 rfl (by decide) Tryz.ntmps236 (by simp) Tryz.results236 ?_
        repeat' (first
 |refine aK fun K hK=>?_|refine Step.by1 ?_|refine sE (by decide) ?_|refine cz rfl ?_|refine Fork.by2 (fun h=>?_) fun h=>?_
 |((first|refine aR ?_|refine aC (f:=237) rfl rfl (hbeg) rfl rfl rfl ?_|refine aC (f:=238) rfl rfl (hdig) rfl rfl rfl ?_|refine aC (f:=239) rfl rfl (hnum) rfl rfl rfl ?_);simp [z1, hlt, hlt', hne, hb, hdp])
 |(refine Split.by2 (fun h=>?_) (fun h=>?_)<;>(simp [h, z1, hlt, hlt', hne, hb, hdp]))
 |(apply hK;clear hK K)|refine AWh ‹_› ?_)
        exact retq3ct rfl (by simp) (cE (by simp [tokV]) (by simp [tokV]))
      · exfalso
        have h0 := hlet h.1 h.2.1
        subst h0
        have hl := h.2.1
        rw [hc] at hl
        simp only [isLetter, isDigit, decide_eq_true_eq] at hd hl
        omega
    · have hd' : isDigit c = false := by simpa using hd
      rw [hd'] at hdig
      by_cases hl : isLetter c = true
      · -- a word
        rw [hl] at hltr
        obtain ⟨r, hr⟩ : ∃ r, wordE s (s.size - p) p = r := ⟨_, rfl⟩
        refine ⟨1, s.extract p r, 0, p, r, 0, ?_, ⟨fun h => ?_, fun h => ?_⟩⟩
        · refine pB Tryz.func236 rfl (by decide) Tryz.ntmps236 (by simp) Tryz.results236 ?_
          repeat' (first
 |refine aK fun K hK=>?_|refine Step.by1 ?_|refine sE (by decide) ?_|refine cz rfl ?_|refine Fork.by2 (fun h=>?_) fun h=>?_
 |((first|refine aR ?_|refine aC (f:=237) rfl rfl (hbeg) rfl rfl rfl ?_|refine aC (f:=238) rfl rfl (hdig) rfl rfl rfl ?_|refine aC (f:=240) rfl rfl (hltr) rfl rfl rfl ?_);simp [z1, hlt, hlt', hne, hb, hdp])
 |(refine Split.by2 (fun h=>?_) (fun h=>?_)<;>(simp [h, z1, hlt, hlt', hne, hb, hdp]))
 |(apply hK;clear hK K)|refine AWh ‹_› ?_)
          refine aL [0, 1, 4] (fun k : Nat => [(7, .int .i64 k)]) (fun _ => [.var [.int .i64 0, .str ⟨#[]⟩, .int .i64 0, .int .i64 0]]) (fun k => p ≤ k ∧ k ≤ s.size ∧ wordE s (s.size - k) k = r) (fun k => s.size - k) p ⟨Nat.le_refl _, by omega, hr⟩ (by apply Weak.mk' <;> simp) (fun _ _ => rfl) ?_
          rintro k ⟨h1, h2, h3⟩
          by_cases hk : k < s.size
          · have hk' : (k : Int) < s.size := by omega
            obtain ⟨q, hq⟩ : ∃ q, s.size - k = q + 1 := ⟨s.size - (k + 1), by omega⟩
            rw [hq] at h3
            unfold wordE at h3
            rw [if_pos hk] at h3
            obtain ⟨d, hd2⟩ : ∃ d, byteS s k = d := ⟨_, rfl⟩
            rw [hd2] at h3
            have hL := r_letter d
            have hD := r_digit d
            have hw : wordC d = (isLetter d || (isDigit d || decide (d = 95))) := rfl
            generalize isLetter d = ql at *
            generalize isDigit d = qd at *
            have hdk : k < s.data.size := hk
            have hbk : ((s.data[k]).toNat : Int) = d := by rw [← hd2]; simp [byteS, Array.getElem?_eq_getElem hdk]
            have w1 : IntKind.i64.wrap ((k : Int) + 1) = k + 1 := wI (by omega) (by omega)
            have hpk : (p : Int) ≤ k := by omega
            have hk2 : (k : Int) ≤ s.size := by omega
            repeat' (first
 |refine aK fun K hK=>?_|refine Step.by1 ?_|refine sE (by decide) ?_|refine cz rfl ?_|refine Fork.by2 (fun h=>?_) fun h=>?_
 |((first|refine aR ?_|refine aC (f:=240) rfl rfl (hL) rfl rfl rfl ?_|refine aC (f:=238) rfl rfl (hD) rfl rfl rfl ?_);simp [hk, hk', hbk, w1, h1, h2, hpk, hk2])
 |(refine Split.by2 (fun h=>?_) (fun h=>?_)<;>(simp [h, hk, hk', hbk, w1, h1, h2, hpk, hk2]))
 |(apply hK;clear hK K)|refine AWh ‹_› ?_)
            all_goals (try clear hL hD hbeg hdig hltr)
            all_goals first
              | (refine ⟨k + 1, ⟨by omega, by omega, ?_⟩, by omega, ?_⟩
                 · rw [show s.size - (k + 1) = q by omega, ← h3, if_pos]
                   rw [hw]; simp [*]
                 · apply Weak.mk' <;> simp)
              | (have hnw : ¬ wordC d = true := by rw [hw]; simp [*]
                 rw [if_neg hnw] at h3
                 subst h3
                 exact retq3ct rfl (by simp) (cE (by simp [tokV]) (by simp [tokV])))
          · have hk' : ¬ (k : Int) < s.size := by omega
            rw [wordE_stop hk] at h3
            subst h3
            have hpk : (p : Int) ≤ k := by omega
            have hk2 : (k : Int) ≤ s.size := by omega
            repeat' (first
 |refine aK fun K hK=>?_|refine Step.by1 ?_|refine sE (by decide) ?_|refine cz rfl ?_|refine Fork.by2 (fun h=>?_) fun h=>?_
 |(refine aR ?_;simp [hk, hk', h1, h2, hpk, hk2])
 |(refine Split.by2 (fun h=>?_) (fun h=>?_)<;>(simp [h, hk, hk', h1, h2, hpk, hk2]))
 |(apply hK;clear hK K)|refine AWh ‹_› ?_)
            exact retq3ct rfl (by simp) (cE (by simp [tokV]) (by simp [tokV]))
        · have h0 : p = 0 := by have := h.2.2.2; omega
          subst h0
          rw [hc]
          refine ⟨by omega, hl, ?_⟩
          rw [← wordE_all (by omega) (by rw [hc]; exact hl), hr]
          have := h.2.2.1; omega
        · have h0 := hlet h.1 h.2.1
          subst h0
          rw [wordE_all h.1 h.2.1] at hr
          have := h.2.2
          exact ⟨rfl, rfl, by omega, rfl⟩
      · -- a sign, or none
        have hl' : isLetter c = false := by simpa using hl
        rw [hl'] at hltr
        obtain ⟨kind, text, n, at_, k, e, hsh, hk⟩ := twoF_shape s p twosL
        refine ⟨kind, text, n, at_, k, e, ?_, ⟨fun h => absurd h.2.1 hk, fun h => ?_⟩⟩
        · have hp2 : IntKind.i64.wrap ((p : Int) + 2) = p + 2 := wI (by omega) (by omega)
          have hp1 : IntKind.i64.wrap ((p : Int) + 1) = p + 1 := wI (by omega) (by omega)
          obtain ⟨r, hr⟩ : ∃ r, V.tup [tokV kind text n at_, .int .i64 k, .int .i64 e] = r := ⟨_, rfl⟩
          rw [hr] at hsh ⊢
          rw [← hsh]
          clear hr hsh
          refine pB Tryz.func236 rfl (by decide) Tryz.ntmps236 (by simp) Tryz.results236 ?_
          repeat' (first
 |refine aK fun K hK=>?_|refine Step.by1 ?_|refine sE (by decide) ?_|refine cz rfl ?_|refine Fork.by2 (fun h=>?_) fun h=>?_
 |((first|refine aR ?_|refine aC (f:=237) rfl rfl (hbeg) rfl rfl rfl ?_|refine aC (f:=238) rfl rfl (hdig) rfl rfl rfl ?_|refine aC (f:=240) rfl rfl (hltr) rfl rfl rfl ?_);simp [z1, hlt, hlt', hne, hb, hdp])
 |(refine Split.by2 (fun h=>?_) (fun h=>?_)<;>(simp [h, z1, hlt, hlt', hne, hb, hdp]))
 |(apply hK;clear hK K)|refine AWh ‹_› ?_)
          generalize hcs : ([.str ⟨#[46, 46]⟩, .str ⟨#[58, 61]⟩, .str ⟨#[45, 62]⟩, .str ⟨#[38, 38]⟩, .str ⟨#[124, 124]⟩, .str ⟨#[33, 61]⟩, .str ⟨#[60, 61]⟩, .str ⟨#[61, 61]⟩, .str ⟨#[62, 61]⟩, .str ⟨#[]⟩, .str ⟨#[]⟩] : List V) = cs
          have hcl : cs.length = 11 := by rw [← hcs]; rfl
          have hcg : ∀ (i : Nat) (x : ByteArray), twosL[i]? = some x → cs[i]? = some (.str x) := fun i x h => by rw [← hcs]; exact twos_get h
          have htl : twosL.length = 9 := rfl
          have hlts : ∀ n, V.lts n cs = true := fun n => by rw [← hcs]; rfl
          clear hcs
          refine aS1 twosL 9 [0, 1, 4, 8] (twoF s p) rfl (by apply Weak.mk' <;> simp [hlts]) ?_ ?_
          · intro i x hx0 hlt2 hx hF
            rw [twoF_cons] at hF
            have h9 : (i : Int) < 9 := by omega
            have h11 : (i : Int) < 11 := by omega
            have hi11 : i < 11 := by omega
            have h0p : 0 ≤ (p : Int) + 2 := by omega
            have hci : i < cs.length := by omega
            have hget' : cs[i] = .str x := by have hget := hcg i x hx0; rw [List.getElem?_eq_getElem hci] at hget; exact Option.some.inj hget
            have hget := hcg i x hx0
            have w1 : IntKind.i64.wrap ((i : Int) + 1) = i + 1 := wI (by omega) (by omega)
            by_cases h2 : p + 2 ≤ s.size
            · have h2' : (p : Int) + 2 ≤ s.size := by omega
              have h2n : ((p : Int) + 2).toNat = p + 2 := by omega
              repeat' (first
 |refine aK fun K hK=>?_|refine Step.by1 ?_|refine sE (by decide) ?_|refine cz rfl ?_|refine Fork.by2 (fun h=>?_) fun h=>?_
 |((first|refine aR ?_|refine aX (id:=17) 16 mixed (by decide) ?_);simp [h9, h11, hi11, h0p, hcl, hget, hget', hp2, h2', h2n, h2, w1])
 |(refine Split.by2 (fun h=>?_) (fun h=>?_)<;>(simp [h, h9, h11, hi11, h0p, hcl, hget, hget', hp2, h2', h2n, h2, w1]))
 |(apply hK;clear hK K)|refine AWh ‹_› ?_)
              all_goals first
                | (exact retq3ct rfl (by simp) (cE (by rw [← hF]; simp [tokV, *]) (by simp)))
                | (refine ⟨by rw [← hF]; simp [*], ?_⟩; apply Weak.mk' <;> simp [hlts])
            · have h2' : ¬ (p : Int) + 2 ≤ s.size := by omega
              repeat' (first
 |refine aK fun K hK=>?_|refine Step.by1 ?_|refine sE (by decide) ?_|refine cz rfl ?_|refine Fork.by2 (fun h=>?_) fun h=>?_
 |((first|refine aR ?_|refine aX (id:=17) 16 mixed (by decide) ?_);simp [h9, h11, hi11, h0p, hcl, hget, hget', hp2, h2', h2, w1])
 |(refine Split.by2 (fun h=>?_) (fun h=>?_)<;>(simp [h, h9, h11, hi11, h0p, hcl, hget, hget', hp2, h2', h2, w1]))
 |(apply hK;clear hK K)|refine AWh ‹_› ?_)
              all_goals first
                | (refine ⟨by rw [← hF]; simp [*], ?_⟩; apply Weak.mk' <;> simp [hlts])
          · intro hF
            rw [twoF_nil] at hF
            repeat' (first
 |refine aK fun K hK=>?_|refine Step.by1 ?_|refine sE (by decide) ?_|refine cz rfl ?_|refine Fork.by2 (fun h=>?_) fun h=>?_
 |(refine aR ?_;simp [htl])
 |(refine Split.by2 (fun h=>?_) (fun h=>?_)<;>(simp [h, htl]))
 |(apply hK;clear hK K)|refine AWh ‹_› ?_)
            generalize hob : (⟨#[44, 59, 46, 123, 125, 40, 41, 33, 60, 62, 63, 43, 45, 42]⟩ : ByteArray) = ob
            have hobs : ob.size = 14 := by rw [← hob]; rfl
            have hon : onesB = ob := hob
            clear hob
            have h14 : (List.range 14).length = 14 := by simp
            refine aS1 (r := twoF s p twosL) (List.range 14) 11 [0, 1, 4, 10] (oneF s p) hF (by apply Weak.mk' <;> simp [hlts]) ?_ ?_
            · intro i j hj0 hlt3 hj hG
              clear hF
              have hij : j = i := by rw [← hj]; simp
              subst hij
              rw [oneF_cons, hon] at hG
              have h14' : (j : Int) < 14 := by omega
              have hdj : j < ob.data.size := by have : ob.data.size = 14 := hobs; omega
              have hbj : ((ob.data[j]).toNat : Int) = byteS ob j := by simp [byteS, Array.getElem?_eq_getElem hdj]
              have w1 : IntKind.i64.wrap ((j : Int) + 1) = j + 1 := wI (by omega) (by omega)
              have hj1 : ((j : Int) + 1).toNat = j + 1 := by omega
              have hj2 : (j : Int) + 1 ≤ 14 := by omega
              have hj3 : 0 ≤ (j : Int) + 1 := by omega
              have hj4 : j ≤ 13 := by omega
              have hbj2 : ((ob.data[j]?.getD 0).toNat : Int) = byteS ob j := by rw [Array.getElem?_eq_getElem hdj]; exact hbj
              rw [hc] at hG
              generalize byteS ob j = bj at *
              repeat' (first
 |refine aK fun K hK=>?_|refine Step.by1 ?_|refine sE (by decide) ?_|refine cz rfl ?_|refine Fork.by2 (fun h=>?_) fun h=>?_
 |((first|refine aR ?_|refine aX (id:=23) 7 mixed (by decide) ?_);simp [h14', hobs, hdj, hbj, hbj2, hj3, hj4, hb, hdp, hlt, hlt', hp1, w1, hj1, hj2])
 |(refine Split.by2 (fun h=>?_) (fun h=>?_)<;>(simp [h, h14', hobs, hdj, hbj, hbj2, hj3, hj4, hb, hdp, hlt, hlt', hp1, w1, hj1, hj2]))
 |(apply hK;clear hK K)|refine AWh ‹_› ?_)
              all_goals first
                | (exact retq3ct rfl (by simp) (cE (by rw [← hG]; simp [tokV, *]) (by simp)))
                | (refine ⟨by rw [← hG]; simp [*], ?_⟩; apply Weak.mk' <;> simp [hlts])
            · intro hG
              rw [oneF_nil] at hG
              repeat' (first
 |refine aK fun K hK=>?_|refine Step.by1 ?_|refine sE (by decide) ?_|refine cz rfl ?_|refine Fork.by2 (fun h=>?_) fun h=>?_
 |(refine aR ?_;simp [h14, hobs])
 |(refine Split.by2 (fun h=>?_) (fun h=>?_)<;>(simp [h, h14, hobs]))
 |(apply hK;clear hK K)|refine AWh ‹_› ?_)
              exact retq3ct rfl (by simp) (cE (by rw [← hG]; simp [tokV]) (by simp))
        · exfalso
          have h0 := hlet h.1 h.2.1
          subst h0
          have hl2 := h.2.1
          rw [hc] at hl2
          exact hl hl2
def kept15 : List ByteArray := [⟨#[99, 108, 111, 99, 107]⟩, ⟨#[105, 110, 116]⟩, ⟨#[99, 104, 97, 110]⟩, ⟨#[97, 117, 116, 111]⟩, ⟨#[108, 111, 99]⟩, ⟨#[101, 100, 103, 101]⟩, ⟨#[105, 110]⟩, ⟨#[105, 110, 118]⟩, ⟨#[119, 104, 101, 110]⟩, ⟨#[115, 121, 110, 99]⟩, ⟨#[100, 111]⟩, ⟨#[117, 114, 103, 101, 110, 116]⟩, ⟨#[99, 111, 109, 109, 105, 116, 116, 101, 100]⟩, ⟨#[116, 114, 117, 101]⟩, ⟨#[114, 101, 97, 99, 104]⟩]
def neverS : ByteArray := ⟨#[110, 101, 118, 101, 114]⟩
theorem kept_split : keptS = kept15 ++ [neverS] := rfl
theorem isNameB_eq (s : ByteArray) : isNameB s = (!memS s kept15 && (!decide (s = neverS) && (decide (0 < s.size ∧ isLetter (byteS s 0) = true ∧ wordN s = s.size) && decide (s.size ≤ 16)))) := by
  have h1 : memS s keptS = (memS s kept15 || decide (neverS = s)) := by rw [kept_split]; simp [memS]
  have h2 : decide (neverS = s) = decide (s = neverS) := decide_eq_decide.2 ⟨Eq.symm, Eq.symm⟩
  have h3 : (!decide (s = ⟨#[]⟩)) = decide (0 < s.size) := by
    by_cases h : s = ⟨#[]⟩
    · subst h; rfl
    · simp [h, size_pos h]
  unfold isNameB
  rw [h1, h2, h3]
  generalize memS s kept15 = a
  generalize isLetter (byteS s 0) = b
  by_cases c1 : 0 < s.size <;> by_cases c2 : s.size ≤ 16 <;> by_cases c3 : wordN s = s.size <;> by_cases c4 : s = neverS <;> cases a <;> cases b <;> simp [*]
def nameF (tb : Bool) (s : ByteArray) (l : List ByteArray) : Bool := !memS s l && tb
theorem nameF_nil {tb : Bool} {s : ByteArray} : nameF tb s [] = tb := rfl
theorem nameF_cons {tb : Bool} {s x : ByteArray} {l : List ByteArray} : nameF tb s (x :: l) = if s = x then false else nameF tb s l := by
  unfold nameF memS
  rw [List.any_cons]
  by_cases h : s = x
  · simp [h]
  · have h' : ¬ x = s := fun e => h e.symm
    simp [h, h']
set_option maxRecDepth 20000 in
set_option maxHeartbeats 8000000 in
theorem r_IsName9 (s : ByteArray) (hs : s.size ≤ 1099511627776) : PC 234 [.str s] (.bool (isNameB s)) := by
  obtain ⟨kind, text, n, at_, k, e, hnext, hiff⟩ := r_Next0 s hs
  have hd : decide (0 < s.size ∧ isLetter (byteS s 0) = true ∧ wordN s = s.size) = decide (e = 0 ∧ kind = 1 ∧ k = s.size ∧ at_ = 0) := decide_eq_decide.2 hiff.symm
  obtain ⟨tb, htb⟩ : ∃ tb, (!decide (s = neverS) && (decide (e = 0 ∧ kind = 1 ∧ k = s.size ∧ at_ = 0) && decide (s.size ≤ 16))) = tb := ⟨_, rfl⟩
  have hr : isNameB s = nameF tb s kept15 := by rw [isNameB_eq, hd, htb]; rfl
  obtain ⟨r, hr'⟩ : ∃ r, isNameB s = r := ⟨_, rfl⟩
  rw [hr']
  rw [hr'] at hr
  clear hiff hd hr'
  simp only [tokV] at hnext
  refine pB Tryz.func234 rfl (by decide) Tryz.ntmps234 (by simp) Tryz.results234 ?_
  repeat' (first
 |refine aK fun K hK=>?_|refine Step.by1 ?_|refine sE (by decide) ?_|refine cz rfl ?_|refine Fork.by2 (fun h=>?_) fun h=>?_
 |(refine aR ?_;simp)
 |(refine Split.by2 (fun h=>?_) (fun h=>?_)<;>(simp [h]))
 |(apply hK;clear hK K)|refine AWh ‹_› ?_)
  have hk15 : kept15.length = 15 := rfl
  generalize hcs : ([.str ⟨#[99, 108, 111, 99, 107]⟩, .str ⟨#[105, 110, 116]⟩, .str ⟨#[99, 104, 97, 110]⟩, .str ⟨#[97, 117, 116, 111]⟩, .str ⟨#[108, 111, 99]⟩, .str ⟨#[101, 100, 103, 101]⟩, .str ⟨#[105, 110]⟩, .str ⟨#[105, 110, 118]⟩, .str ⟨#[119, 104, 101, 110]⟩, .str ⟨#[115, 121, 110, 99]⟩, .str ⟨#[100, 111]⟩, .str ⟨#[117, 114, 103, 101, 110, 116]⟩, .str ⟨#[99, 111, 109, 109, 105, 116, 116, 101, 100]⟩, .str ⟨#[116, 114, 117, 101]⟩, .str ⟨#[114, 101, 97, 99, 104]⟩] : List V) = cs
  have hcl : cs.length = 15 := by rw [← hcs]; rfl
  have hcm : cs = kept15.map .str := by rw [← hcs]; rfl
  have hlts : ∀ n, V.lts n cs = true := fun n => by rw [← hcs]; rfl
  clear hcs
  refine aS1 (r := r) kept15 4 [0, 3] (nameF tb s) hr.symm (by apply Weak.mk' <;> simp [hlts]) ?_ ?_
  · intro i x _ hlt hx hF
    rw [nameF_cons] at hF
    have h15 : (i : Int) < 15 := by omega
    have hi15 : i < 15 := by omega
    have hci : i < cs.length := by omega
    have hget : cs[i] = .str x := by
      have : cs[i]? = some (.str x) := by rw [hcm, List.getElem?_map, List.getElem?_eq_getElem hlt, hx]; rfl
      rw [List.getElem?_eq_getElem hci] at this; exact Option.some.inj this
    have w1 : IntKind.i64.wrap ((i : Int) + 1) = i + 1 := wI (by omega) (by omega)
    repeat' (first
 |refine aK fun K hK=>?_|refine Step.by1 ?_|refine sE (by decide) ?_|refine cz rfl ?_|refine Fork.by2 (fun h=>?_) fun h=>?_
 |(refine aR ?_;simp [h15, hi15, hcl, hget, w1])
 |(refine Split.by2 (fun h=>?_) (fun h=>?_)<;>(simp [h, h15, hi15, hcl, hget, w1]))
 |(apply hK;clear hK K)|refine AWh ‹_› ?_)
    all_goals first
      | (exact r1q (cE (by rw [← hF]; simp [*]) rfl))
      | (refine ⟨by rw [← hF]; simp [*], ?_⟩; apply Weak.mk' <;> simp [hlts])
  · intro hF
    rw [nameF_nil] at hF
    have hnv : (⟨#[110, 101, 118, 101, 114]⟩ : ByteArray) = neverS := rfl
    rw [hF] at htb
    clear hF hr
    by_cases h16 : s.size ≤ 16
    · have h16' : (s.size : Int) ≤ 16 := by omega
      repeat' (first
 |refine aK fun K hK=>?_|refine Step.by1 ?_|refine sE (by decide) ?_|refine cz rfl ?_|refine Fork.by2 (fun h=>?_) fun h=>?_
 |((first|refine aR ?_|refine aC (f:=236) rfl rfl (hnext) rfl rfl rfl ?_);simp [hk15, h16, h16'])
 |(refine Split.by2 (fun h=>?_) (fun h=>?_)<;>(simp [h, hk15, h16, h16']))
 |(apply hK;clear hK K)|refine AWh ‹_› ?_)
      all_goals (try clear hnext)
      all_goals first
        | exact r1q (cE (by rw [← htb, ← hnv]; clear hnv htb; simp [*]; done) rfl)
        | exact r1q (cE (by rw [← htb, ← hnv]; clear hnv htb; simp [*]; omega) rfl)
    · have h16' : ¬ (s.size : Int) ≤ 16 := by omega
      repeat' (first
 |refine aK fun K hK=>?_|refine Step.by1 ?_|refine sE (by decide) ?_|refine cz rfl ?_|refine Fork.by2 (fun h=>?_) fun h=>?_
 |((first|refine aR ?_|refine aC (f:=236) rfl rfl (hnext) rfl rfl rfl ?_);simp [hk15, h16, h16'])
 |(refine Split.by2 (fun h=>?_) (fun h=>?_)<;>(simp [h, hk15, h16, h16']))
 |(apply hK;clear hK K)|refine AWh ‹_› ?_)
      all_goals (try clear hnext)
      all_goals first
        | exact r1q (cE (by rw [← htb, ← hnv]; clear hnv htb; simp [*]; done) rfl)
        | exact r1q (cE (by rw [← htb, ← hnv]; clear hnv htb; simp [*]; omega) rfl)
theorem r_isName (s : ByteArray) (hs : s.size ≤ 1099511627776) : PC 221 [.str s] (.bool (isNameB s)) := by
  have hc := r_IsName9 s hs
  have h16 : isNameB s = true → s.size ≤ 16 := isNameB_size
  generalize isNameB s = k at *
  refine pB Tryz.func221 rfl (by decide) Tryz.ntmps221 (by simp) Tryz.results221 ?_
  cases k
  · repeat' (first
 |refine aK fun K hK=>?_|refine Step.by1 ?_|refine sE (by decide) ?_|refine cz rfl ?_|refine Fork.by2 (fun h=>?_) fun h=>?_
 |((first|refine aR ?_|refine aC (f:=234) rfl rfl (hc) rfl rfl rfl ?_);simp)
 |(refine Split.by2 (fun h=>?_) (fun h=>?_)<;>(simp [h]))
 |(apply hK;clear hK K)|refine AWh ‹_› ?_)
    exact r1q (cE rfl rfl)
  · have hh : (s.size : Int) ≤ 16 := by have := h16 rfl; omega
    repeat' (first
 |refine aK fun K hK=>?_|refine Step.by1 ?_|refine sE (by decide) ?_|refine cz rfl ?_|refine Fork.by2 (fun h=>?_) fun h=>?_
 |((first|refine aR ?_|refine aC (f:=234) rfl rfl (hc) rfl rfl rfl ?_);simp [hh])
 |(refine Split.by2 (fun h=>?_) (fun h=>?_)<;>(simp [h, hh]))
 |(apply hK;clear hK K)|refine AWh ‹_› ?_)
    exact r1q (cE rfl rfl)
set_option maxHeartbeats 4000000 in
theorem r_named (l : List ByteArray) (hl : l.length ≤ 1099511627776) (hs : ∀ s ∈ l, s.size ≤ 1048576) : PC 196 [vl strV l] (.bool (givenB l)) := by
  obtain ⟨r, hr⟩ : ∃ r, givenB l = r := ⟨_, rfl⟩
  have hbad := fun i hi h => givenB_bad (l := l) (i := i) hi h
  have hgood := givenB_good (l := l)
  rw [hr] at hbad hgood ⊢
  refine pB Tryz.func196 rfl (by decide) Tryz.ntmps196 (by simp) Tryz.results196 ?_
  repeat' (first
 |refine aK fun K hK=>?_|refine Step.by1 ?_|refine sE (by decide) ?_|refine cz rfl ?_|refine Fork.by2 (fun h=>?_) fun h=>?_
 |(refine aR ?_;simp [vl, strV])
 |(refine Split.by2 (fun h=>?_) (fun h=>?_)<;>(simp [h, vl, strV]))
 |(apply hK;clear hK K)|refine AWh ‹_› ?_)
  refine aL [0] (fun i : Nat => [(3, .int .i64 i)]) (fun i => []) (fun i => i ≤ l.length ∧ ∀ j, j < i → goodAt l j = true) (fun i => l.length - i) 0 ⟨Nat.zero_le _, fun j hj => by omega⟩ (by apply Weak.mk' <;> simp [vl, strV]) (fun _ _ => rfl) ?_
  rintro i ⟨hi, hpre⟩
  by_cases hlt : i < l.length
  · have hb := hbad i hlt
    have hga : goodAt l i = (isNameB l[i] && !memS l[i] (l.take i)) := by simp [goodAt, List.getD, hlt]
    have hsx := hs l[i] (List.getElem_mem hlt)
    have hname := r_isName l[i] (by omega)
    have hmem : memS l[i] (l.take i) = true ↔ ∃ k, k < i ∧ ∃ h : k < l.length, l[k] = l[i] := by
      rw [memS_iff, List.mem_take_iff_getElem]
      constructor
      · rintro ⟨k, hk, e⟩; exact ⟨k, by omega, by omega, e⟩
      · rintro ⟨k, hk, h, e⟩; exact ⟨k, by omega, e⟩
    obtain ⟨x, hx⟩ : ∃ x, l[i] = x := ⟨_, rfl⟩
    rw [hx] at hga hmem hname
    have hlt' : (i : Int) < l.length := by omega
    have w0 : IntKind.i64.wrap ((i : Int) + 1) = i + 1 := wI (by omega) (by omega)
    cases hnb : isNameB x
    · rw [hnb] at hname
      have hr0 := hb (by rw [hga, hnb]; rfl)
      repeat' (first
 |refine aK fun K hK=>?_|refine Step.by1 ?_|refine sE (by decide) ?_|refine cz rfl ?_|refine Fork.by2 (fun h=>?_) fun h=>?_
 |((first|refine aR ?_|refine aC (f:=221) rfl rfl (hname) rfl rfl rfl ?_);simp [vl, strV, hlt, hlt', hx, w0])
 |(refine Split.by2 (fun h=>?_) (fun h=>?_)<;>(simp [h, vl, strV, hlt, hlt', hx, w0]))
 |(apply hK;clear hK K)|refine AWh ‹_› ?_)
      exact r1q (cE (by simp [hr0]) rfl)
    · rw [hnb] at hname
      repeat' (first
 |refine aK fun K hK=>?_|refine Step.by1 ?_|refine sE (by decide) ?_|refine cz rfl ?_|refine Fork.by2 (fun h=>?_) fun h=>?_
 |((first|refine aR ?_|refine aC (f:=221) rfl rfl (hname) rfl rfl rfl ?_);simp [vl, strV, hlt, hlt', hx, w0])
 |(refine Split.by2 (fun h=>?_) (fun h=>?_)<;>(simp [h, vl, strV, hlt, hlt', hx, w0]))
 |(apply hK;clear hK K)|refine AWh ‹_› ?_)
      refine aL [0, 3] (fun k : Nat => [(4, .int .i64 k)]) (fun i => []) (fun k => k ≤ i ∧ ∀ j, j < k → ∀ h : j < l.length, l[j] ≠ x) (fun k => i - k) 0 ⟨Nat.zero_le _, fun j hj => by omega⟩ (by apply Weak.mk' <;> simp [vl, strV]) (fun _ _ => rfl) ?_
      rintro k ⟨hk, hne⟩
      by_cases hki : k < i
      · have hki' : (k : Int) < i := by omega
        have hkl : k < l.length := by omega
        have hkl' : (k : Int) < l.length := by omega
        have w1 : IntKind.i64.wrap ((k : Int) + 1) = k + 1 := wI (by omega) (by omega)
        obtain ⟨y, hy⟩ : ∃ y, l[k] = y := ⟨_, rfl⟩
        by_cases hyx : y = x
        · have hr0 := hb (by rw [hga, hmem.2 ⟨k, hki, hkl, by rw [hy]; exact hyx⟩]; simp)
          repeat' (first
 |refine aK fun K hK=>?_|refine Step.by1 ?_|refine sE (by decide) ?_|refine cz rfl ?_|refine Fork.by2 (fun h=>?_) fun h=>?_
 |((first|refine aR ?_|refine aX (id:=9) 9 mixed (by decide) ?_);simp [vl, strV, hlt, hlt', hx, hki, hki', hkl, hkl', hy, hyx, w1])
 |(refine Split.by2 (fun h=>?_) (fun h=>?_)<;>(simp [h, vl, strV, hlt, hlt', hx, hki, hki', hkl, hkl', hy, hyx, w1]))
 |(apply hK;clear hK K)|refine AWh ‹_› ?_)
          exact r1q (cE (by simp [hr0]) rfl)
        · repeat' (first
 |refine aK fun K hK=>?_|refine Step.by1 ?_|refine sE (by decide) ?_|refine cz rfl ?_|refine Fork.by2 (fun h=>?_) fun h=>?_
 |((first|refine aR ?_|refine aX (id:=9) 9 mixed (by decide) ?_);simp [vl, strV, hlt, hlt', hx, hki, hki', hkl, hkl', hy, hyx, w1])
 |(refine Split.by2 (fun h=>?_) (fun h=>?_)<;>(simp [h, vl, strV, hlt, hlt', hx, hki, hki', hkl, hkl', hy, hyx, w1]))
 |(apply hK;clear hK K)|refine AWh ‹_› ?_)
          refine ⟨k + 1, ⟨by omega, fun j hj h => ?_⟩, by omega, ?_⟩
          · rcases Nat.lt_or_ge j k with h' | h'
            · exact hne j h' h
            · have : j = k := by omega
              subst this; rw [hy]; exact hyx
          · apply Weak.mk' <;> simp [vl, strV]
      · have hki' : ¬ (k : Int) < i := by omega
        have hnm : memS x (l.take i) = false := by
          rw [Bool.eq_false_iff]
          intro h
          obtain ⟨j, h1, h2, h3⟩ := hmem.1 h
          exact hne j (by omega) h2 h3
        repeat' (first
 |refine aK fun K hK=>?_|refine Step.by1 ?_|refine sE (by decide) ?_|refine cz rfl ?_|refine Fork.by2 (fun h=>?_) fun h=>?_
 |(refine aR ?_;simp [vl, strV, hki, hki', w0])
 |(refine Split.by2 (fun h=>?_) (fun h=>?_)<;>(simp [h, vl, strV, hki, hki', w0]))
 |(apply hK;clear hK K)|refine AWh ‹_› ?_)
        refine ⟨i + 1, ⟨by omega, fun j hj => ?_⟩, by omega, ?_⟩
        · rcases Nat.lt_or_ge j i with h' | h'
          · exact hpre j h'
          · rw [show j = i by omega, hga, hnb, hnm]; rfl
        · apply Weak.mk' <;> simp [vl, strV]
  · have hr1 := hgood (fun j hj => hpre j (by omega))
    repeat' (first
 |refine aK fun K hK=>?_|refine Step.by1 ?_|refine sE (by decide) ?_|refine cz rfl ?_|refine Fork.by2 (fun h=>?_) fun h=>?_
 |(refine aR ?_;simp [vl, strV, hlt])
 |(refine Split.by2 (fun h=>?_) (fun h=>?_)<;>(simp [h, vl, strV, hlt]))
 |(apply hK;clear hK K)|refine AWh ‹_› ?_)
    exact r1q (cE (by simp [hr1]) rfl)
set_option maxHeartbeats 8000000 in
theorem r_Names (n : NetD) (ha : n.vars.length ≤ 1048576) : PC 222 [.agg n.cells] (vl (fun s => [V.str s]) (namesL n)) := by
  have hgoal : PC 222 [.agg n.cells] (.own 9 ((namesL n).map fun s => [V.str s])) := by
    refine pB Tryz.func222 rfl (by decide) Tryz.ntmps222 (by simp) Tryz.results222 ?_
    repeat' (first
 |refine AW_nilrow 3 9 rfl (by simp) ?_
 |refine aK fun K hK=>?_|refine Step.by1 ?_|refine sE (by decide) ?_|refine cz rfl ?_|refine Fork.by2 (fun h=>?_) fun h=>?_
 |(refine aR ?_;simp [vl, NetD.cells])
 |(refine Split.by2 (fun h=>?_) (fun h=>?_)<;>(simp [h, vl, NetD.cells]))
 |(apply hK;clear hK K)|refine AWh ‹_› ?_)
    refine AW_range n.vars 4 [1] (fun c : Nat × List ByteArray => [(3, .ref 1 c.1 0 c.2.length)]) (fun c => [.var n.cells, .row 9 c.1 0 true (c.2.map fun s => [V.str s])]) (fun i c => c.2.length = i) (catF fun x : VarD => [x.name]) (0, []) (r := namesL n)
      (by simp [catF, namesL, List.flatMap_singleton']; try exact (List.map_eq_flatMap ..).symm) (by simp) (by apply Weak.mk' <;> simp [vl, NetD.cells]) (fun _ _ _ => rfl) ?_ ?_
    · rintro i ⟨g, out⟩ x _ hlt hx hJ hF
      simp only at hJ
      rw [catF_cons (g + 1)] at hF
      have hby : (out.length + 1) * 16 ≤ 140737488355328 := by omega
      repeat' (first
 |refine aK fun K hK=>?_|refine Step.by1 ?_|refine sE (by decide) ?_|refine cz rfl ?_|refine Fork.by2 (fun h=>?_) fun h=>?_
 |(refine aR ?_;simp [vl, NetD.cells, VarD.cells, hlt, hx, hby, wI];try (simp (disch:=omega) only [wI];try simp [vl, NetD.cells, VarD.cells, hlt, hx, hby, wI]))
 |(refine Split.by2 (fun h=>?_) (fun h=>?_)<;>(simp [h, vl, NetD.cells, VarD.cells, hlt, hx, hby, wI];try (simp (disch:=omega) only [wI];try simp [vl, NetD.cells, VarD.cells, hlt, hx, hby, wI])))
 |(apply hK;clear hK K)|refine AWh ‹_› ?_)
      exact ⟨g + 1, out ++ [x.name], hF, by simp; omega, by apply Weak.mk' <;> simp [vl, NetD.cells]⟩
    · rintro ⟨g, out⟩ hJ hF
      rw [catF_nil] at hF
      simp only at hF
      subst hF
      repeat' (first
 |refine aK fun K hK=>?_|refine Step.by1 ?_|refine sE (by decide) ?_|refine cz rfl ?_|refine Fork.by2 (fun h=>?_) fun h=>?_
 |(refine aR ?_;simp [vl, NetD.cells])
 |(refine Split.by2 (fun h=>?_) (fun h=>?_)<;>(simp [h, vl, NetD.cells]))
 |(apply hK;clear hK K)|refine AWh ‹_› ?_)
      exact r1q (.inr (.inl (conv1_own rfl (by simp))))
  have := hgoal.freeze
  simpa [vl] using this
end Go.Proofs.YtgmlimipejcpgaaGreatDoor
end
