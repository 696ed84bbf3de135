/-
  YtgmlimipejcpgaaGreatDoorCo33: steps of the proof of a law of the program: what these texts prove holds under the hypotheses that their theorems name, and no others.
-/
import Derived.Test.YtgmlimipejcpgaaGreatDoorCo32
section
set_option linter.unusedSimpArgs false
set_option linter.unusedVariables false
namespace Go.Proofs.YtgmlimipejcpgaaGreatDoor
open Go Go.AM Fx
theorem Texts_eq (x y : ByteArray) : x = y ↔ x = y := Iff.rfl
set_option maxHeartbeats 2000000 in
theorem c_SameTexts (a b : List ByteArray) (ha : a.length ≤ 1099511627776) : PC 141 [vl (fun s : ByteArray => [V.str s]) a, vl (fun s : ByteArray => [V.str s]) b] (.bool (decide (a = b))) := by
  refine pB Tryz.func141 rfl (by decide) Tryz.ntmps141 (by simp) Tryz.results141 ?_
  by_cases hab : a.length = b.length
  · have hab' : (a.length : Int) = b.length := by omega
    repeat' (first
 |refine aK fun K hK=>?_|refine Step.by1 ?_|refine sE (by decide) ?_|refine cz rfl ?_|refine Fork.by2 (fun h=>?_) fun h=>?_
 |(refine aR ?_;simp [vl, hab'])
 |(refine Split.by2 (fun h=>?_) (fun h=>?_)<;>(simp [h, vl, hab']))
 |(apply hK;clear hK K)|refine AWh ‹_› ?_)
    refine aL [0, 1] (fun i : Nat => [(5, .int .i64 i)]) (fun _ => []) (fun i => i ≤ a.length ∧ a.take i = b.take i) (fun i => a.length - i) 0 ⟨Nat.zero_le _, rfl⟩ (by apply Weak.mk' <;> simp) (fun _ _ => rfl) ?_
    intro i hi
    by_cases hlt : i < a.length
    · have hlb : i < b.length := by omega
      have hne : a[i] ≠ b[i] → a ≠ b := fun h e => h (by subst e; rfl)
      have hsucc := fun h => take_same hi.2 hlt hlb h
      obtain ⟨x, hx⟩ : ∃ x, a[i] = x := ⟨_, rfl⟩
      obtain ⟨y, hy⟩ : ∃ y, b[i] = y := ⟨_, rfl⟩
      rw [hx, hy] at hne hsucc
      rw [ne_eq, Texts_eq] at hne
      rw [Texts_eq] at hsucc
      repeat' (first
 |refine aK fun K hK=>?_|refine Step.by1 ?_|refine sE (by decide) ?_|refine cz rfl ?_|refine Fork.by2 (fun h=>?_) fun h=>?_
 |((first|refine aR ?_|refine aX (id:=6) 9 mixed (by decide) ?_);simp [vl, hlt, hlb, hx, hy, ceqs, wI];try (simp (disch:=omega) only [wI];try simp [vl, hlt, hlb, hx, hy, ceqs, wI]))
 |(refine Split.by2 (fun h=>?_) (fun h=>?_)<;>(simp [h, vl, hlt, hlb, hx, hy, ceqs, wI];try (simp (disch:=omega) only [wI];try simp [vl, hlt, hlb, hx, hy, ceqs, wI])))
 |(apply hK;clear hK K)|refine AWh ‹_› ?_)
      all_goals first
        | exact r1q (cE (by simp; exact hne (by first | exact h | (simp at h; intro he; simp [he] at h))) rfl)
        | (refine ⟨i + 1, ⟨by omega, hsucc (by first | exact h | (simp at h; simp [h]))⟩, by omega, ?_⟩; apply Weak.mk' <;> simp [vl])
    · have hie : i = a.length := by omega
      subst hie
      have he : a = b := take_end hi.2 hab
      repeat' (first
 |refine aK fun K hK=>?_|refine Step.by1 ?_|refine sE (by decide) ?_|refine cz rfl ?_|refine Fork.by2 (fun h=>?_) fun h=>?_
 |(refine aR ?_;simp [vl, hlt])
 |(refine Split.by2 (fun h=>?_) (fun h=>?_)<;>(simp [h, vl, hlt]))
 |(apply hK;clear hK K)|refine AWh ‹_› ?_)
      exact r1q (cE (by simp [he]) rfl)
  · have hab' : ¬ (a.length : Int) = b.length := by omega
    have he : ¬ a = b := fun h => hab (by rw [h])
    repeat' (first
 |refine aK fun K hK=>?_|refine Step.by1 ?_|refine sE (by decide) ?_|refine cz rfl ?_|refine Fork.by2 (fun h=>?_) fun h=>?_
 |(refine aR ?_;simp [vl, hab'])
 |(refine Split.by2 (fun h=>?_) (fun h=>?_)<;>(simp [h, vl, hab']))
 |(apply hK;clear hK K)|refine AWh ‹_› ?_)
    exact r1q (cE (by simp [he]) rfl)
def markTexts (j : Nat) : List V := [.str (textB j)]
set_option maxHeartbeats 2000000 in
theorem c_HandTexts (l : List ByteArray) (hl : l.length ≤ 1099511627776) : PC 55 [vl (fun s : ByteArray => [V.str s]) l] (handV (fun s : ByteArray => [V.str s]) markTexts l) := by
  have w9 : IntKind.i64.wrap ((l.length : Int) + 9) = (l.length : Int) + 9 := wI (by omega) (by omega)
  have t9 : ((l.length : Int) + 9).toNat = l.length + 9 := by omega
  have n9 : ((l.length : Int) + 9) * 16 ≤ 281474976710656 := by omega
  have hz : (0 : Int) ≤ (l.length : Int) + 9 := by omega
  refine pB Tryz.func55 rfl (by decide) Tryz.ntmps55 (by simp) Tryz.results55 ?_
  repeat' (first
 |refine aK fun K hK=>?_|refine Step.by1 ?_|refine sE (by decide) ?_|refine cz rfl ?_|refine Fork.by2 (fun h=>?_) fun h=>?_
 |(refine aR ?_;simp [vl, w9, n9, hz, t9])
 |(refine Split.by2 (fun h=>?_) (fun h=>?_)<;>(simp [h, vl, w9, n9, hz, t9]))
 |(apply hK;clear hK K)|refine AWh ‹_› ?_)
  refine aL [0, 3] (fun i : Nat => [(4, .int .i64 i)]) (fun i => [.row 9 0 0 true (fillR (handF (fun s : ByteArray => [V.str s]) markTexts l) [.str ⟨#[]⟩] (l.length + 9) i)]) (fun i => i ≤ l.length) (fun i => l.length - i) 0 (Nat.zero_le _) (by apply Weak.mk' <;> simp [vl, fillR, t9]) (fun _ _ => rfl) ?_
  intro i hi
  by_cases hlt : i < l.length
  · have hlt9 : i < l.length + 9 := by omega
    have hlt8 : (i : Int) < l.length + 9 := by omega
    have hset := fillR_set (f := handF (fun s : ByteArray => [V.str s]) markTexts l) (z := [.str ⟨#[]⟩]) hlt9
    have hlen := fillR_len (f := handF (fun s : ByteArray => [V.str s]) markTexts l) (z := [.str ⟨#[]⟩]) (n := l.length + 9) (i := i) (by omega)
    have hget := fillR_get (f := handF (fun s : ByteArray => [V.str s]) markTexts l) (z := [.str ⟨#[]⟩]) hlt9
    rw [handF_in hlt] at hset
    obtain ⟨x, hx⟩ : ∃ x, l[i] = x := ⟨_, rfl⟩
    rw [hx] at hset
    generalize fillR (handF (fun s : ByteArray => [V.str s]) markTexts l) [.str ⟨#[]⟩] (l.length + 9) i = row at *
    have hrl : i < row.length := by omega
    have hri : row[i] = [.str ⟨#[]⟩] := by rw [List.getElem?_eq_getElem hrl] at hget; exact Option.some.inj hget
    repeat' (first
 |refine aK fun K hK=>?_|refine Step.by1 ?_|refine sE (by decide) ?_|refine cz rfl ?_|refine Fork.by2 (fun h=>?_) fun h=>?_
 |(refine aR ?_;simp [vl, hlt, hlt9, hlt8, t9, hrl, hri, hx, hlen, ceqs, wI];try (simp (disch:=omega) only [wI];try simp [vl, hlt, hlt9, hlt8, t9, hrl, hri, hx, hlen, ceqs, wI]))
 |(refine Split.by2 (fun h=>?_) (fun h=>?_)<;>(simp [h, vl, hlt, hlt9, hlt8, t9, hrl, hri, hx, hlen, ceqs, wI];try (simp (disch:=omega) only [wI];try simp [vl, hlt, hlt9, hlt8, t9, hrl, hri, hx, hlen, ceqs, wI])))
 |(apply hK;clear hK K)|refine AWh ‹_› ?_)
    refine ⟨i + 1, by omega, by omega, ?_⟩
    apply Weak.mk' <;> simp [vl]
    simpa [ceqs] using hset
  · have hie : i = l.length := by omega
    subst hie
    repeat' (first
 |refine aK fun K hK=>?_|refine Step.by1 ?_|refine sE (by decide) ?_|refine cz rfl ?_|refine Fork.by2 (fun h=>?_) fun h=>?_
 |(refine aR ?_;simp [vl, hlt])
 |(refine Split.by2 (fun h=>?_) (fun h=>?_)<;>(simp [h, vl, hlt]))
 |(apply hK;clear hK K)|refine AWh ‹_› ?_)
    refine aL [0, 3] (fun j : Nat => [(5, .int .i64 (l.length + j : Nat))]) (fun j => [.row 9 0 0 true (fillR (handF (fun s : ByteArray => [V.str s]) markTexts l) [.str ⟨#[]⟩] (l.length + 9) (l.length + j))]) (fun j => j ≤ 9) (fun j => 9 - j) 0 (Nat.zero_le _) (by apply Weak.mk' <;> simp [vl]) (fun _ _ => rfl) ?_
    intro j hj
    by_cases hjt : j < 9
    · have hlt9 : l.length + j < l.length + 9 := by omega
      have hset := fillR_set (f := handF (fun s : ByteArray => [V.str s]) markTexts l) (z := [.str ⟨#[]⟩]) hlt9
      have hlen := fillR_len (f := handF (fun s : ByteArray => [V.str s]) markTexts l) (z := [.str ⟨#[]⟩]) (n := l.length + 9) (i := l.length + j) (by omega)
      have hget := fillR_get (f := handF (fun s : ByteArray => [V.str s]) markTexts l) (z := [.str ⟨#[]⟩]) hlt9
      rw [handF_out] at hset
      rw [show l.length + j + 1 = l.length + (j + 1) by omega] at hset
      generalize fillR (handF (fun s : ByteArray => [V.str s]) markTexts l) [.str ⟨#[]⟩] (l.length + 9) (l.length + j) = row at *
      have hrl : l.length + j < row.length := by omega
      have hri : row[l.length + j] = [.str ⟨#[]⟩] := by rw [List.getElem?_eq_getElem hrl] at hget; exact Option.some.inj hget
      have hle : (l.length : Int) + j ≤ 1099511627785 := by omega
      have w1 : IntKind.i64.wrap (700 + ((l.length : Int) + j)) = 700 + ((l.length : Int) + j) := wI (by omega) (by omega)
      have w2 : IntKind.i64.wrap (700 + ((l.length : Int) + j) - l.length) = 700 + (j : Int) := by rw [wI (by omega) (by omega)]; omega
      have hct := c_text j hjt
      have w3 : IntKind.i64.wrap ((l.length : Int) + j + 1) = (l.length : Int) + j + 1 := wI (by omega) (by omega)
      have hjn : ((l.length : Int) + j).toNat = l.length + j := by omega
      have hj0 : (0 : Int) ≤ (l.length : Int) + j := by omega
      have hj1 : (l.length : Int) + j < (l.length : Int) + 9 := by omega
      have hjt' : (j : Int) < 9 := by omega
      repeat' (first
 |refine aK fun K hK=>?_|refine Step.by1 ?_|refine sE (by decide) ?_|refine cz rfl ?_|refine Fork.by2 (fun h=>?_) fun h=>?_
 |((first|refine aR ?_|refine aX (id:=7) 11 mixed (by decide) ?_|refine aC (f:=127) rfl rfl (hct) rfl rfl rfl ?_|refine aP1 (f:=127) rfl rfl (hct) rfl rfl rfl ?_);simp [vl, hlt9, hrl, hri, hlen, w1, w2, w3, hjn, hj0, hj1, hjt', hjt, t9])
 |(refine Split.by2 (fun h=>?_) (fun h=>?_)<;>(simp [h, vl, hlt9, hrl, hri, hlen, w1, w2, w3, hjn, hj0, hj1, hjt', hjt, t9]))
 |(apply hK;clear hK K)|refine AWh ‹_› ?_)
      refine ⟨j + 1, by omega, by omega, ?_⟩
      apply Weak.mk' <;> simp [vl]
      · omega
      · simpa [markTexts] using hset
    · have hje : j = 9 := by omega
      subst hje
      have hfin : fillR (handF (fun s : ByteArray => [V.str s]) markTexts l) [.str ⟨#[]⟩] (l.length + 9) (l.length + 9) = l.map (fun s : ByteArray => [V.str s]) ++ (List.range 9).map markTexts := by unfold fillR; rw [range_hand]; simp
      rw [hfin]
      repeat' (first
 |refine aK fun K hK=>?_|refine Step.by1 ?_|refine sE (by decide) ?_|refine cz rfl ?_|refine Fork.by2 (fun h=>?_) fun h=>?_
 |(refine aR ?_;simp [vl, t9])
 |(refine Split.by2 (fun h=>?_) (fun h=>?_)<;>(simp [h, vl, t9]))
 |(apply hK;clear hK K)|refine AWh ‹_› ?_)
      exact r1q (.inl ⟨1, by simp [handV], rfl⟩)
theorem trims_Texts (x : ByteArray) : V.trims ((fun s : ByteArray => [V.str s]) x) = (fun s : ByteArray => [V.str s]) x := trims_map _ (by simp [ceqs, V.trim])
theorem trim_handTexts (l : List ByteArray) : (handV (fun s : ByteArray => [V.str s]) markTexts l).trim = vl (fun s : ByteArray => [V.str s]) l := trim_pad _ fun x _ => trims_Texts x
theorem trim_vlTexts (l : List ByteArray) : (vl (fun s : ByteArray => [V.str s]) l).trim = vl (fun s : ByteArray => [V.str s]) l := trim_vl fun x _ => trims_Texts x
set_option maxHeartbeats 2000000 in
theorem c_KeptTexts (l : List ByteArray) (hl : l.length ≤ 1099511627776) : PC 71 [handV (fun s : ByteArray => [V.str s]) markTexts l, vl (fun s : ByteArray => [V.str s]) l] (.bool true) := by
  have hs := (c_SameTexts l l hl).trim (args := [handV (fun s : ByteArray => [V.str s]) markTexts l, vl (fun s : ByteArray => [V.str s]) l]) (by simp only [V.trims, trim_handTexts, trim_vlTexts])
  have w9 : IntKind.i64.wrap ((l.length : Int) + 9) = (l.length : Int) + 9 := wI (by omega) (by omega)
  have t9 : ((l.length : Int) + 9).toNat = l.length + 9 := by omega
  have hz : (0 : Int) ≤ (l.length : Int) + 9 := by omega
  obtain ⟨row, hrow⟩ : ∃ row, l.map (fun s : ByteArray => [V.str s]) ++ (List.range 9).map markTexts = row := ⟨_, rfl⟩
  have hlen : row.length = l.length + 9 := by rw [← hrow]; simp
  have hall : ∀ x ∈ row, x.length = 1 := fun x hx => by
    rw [← hrow] at hx
    rcases List.mem_append.1 hx with h | h
    · obtain ⟨y, _, rfl⟩ := List.mem_map.1 h; rfl
    · obtain ⟨y, _, rfl⟩ := List.mem_map.1 h; rfl
  have hget : ∀ j, j < 9 → row[l.length + j]? = some (markTexts j) := fun j hj => by
    rw [← hrow, List.getElem?_append_right (by simp), List.length_map, Nat.add_sub_cancel_left, List.getElem?_map, List.getElem?_range hj]; rfl
  simp only [handV, hrow, vl, decide_true] at hs
  unfold handV
  rw [hrow]
  refine pB Tryz.func71 rfl (by decide) Tryz.ntmps71 (by simp) Tryz.results71 ?_
  repeat' (first
 |refine aK fun K hK=>?_|refine Step.by1 ?_|refine sE (by decide) ?_|refine cz rfl ?_|refine Fork.by2 (fun h=>?_) fun h=>?_
 |((first|refine aR ?_|refine aC (f:=141) rfl rfl (hs) rfl rfl rfl ?_);simp [vl, w9, t9, hz, hlen])
 |(refine Split.by2 (fun h=>?_) (fun h=>?_)<;>(simp [h, vl, w9, t9, hz, hlen]))
 |refine And.intro hall ?_
 |(apply hK;clear hK K)|refine AWh ‹_› ?_)
  refine aL [1, 5] (fun j : Nat => [(6, .int .i64 (l.length + j : Nat))]) (fun _ => []) (fun j => j ≤ 9) (fun j => 9 - j) 0 (Nat.zero_le _) (by apply Weak.mk' <;> simp [vl]) (fun _ _ => rfl) ?_
  intro j hj
  by_cases hjt : j < 9
  · have hm := hget j hjt
    have hrl : l.length + j < row.length := by omega
    have hri : row[l.length + j] = markTexts j := by rw [List.getElem?_eq_getElem hrl] at hm; exact Option.some.inj hm
    have w1 : IntKind.i64.wrap (700 + ((l.length : Int) + j)) = 700 + ((l.length : Int) + j) := wI (by omega) (by omega)
    have w2 : IntKind.i64.wrap (700 + ((l.length : Int) + j) - l.length) = 700 + (j : Int) := by rw [wI (by omega) (by omega)]; omega
    have hct := c_text j hjt
    have w3 : IntKind.i64.wrap ((l.length : Int) + j + 1) = (l.length : Int) + j + 1 := wI (by omega) (by omega)
    have hjn : ((l.length : Int) + j).toNat = l.length + j := by omega
    have hj0 : (0 : Int) ≤ (l.length : Int) + j := by omega
    have hj1 : (l.length : Int) + j < (l.length : Int) + 9 := by omega
    have hjt' : (j : Int) < 9 := by omega
    repeat' (first
 |refine aK fun K hK=>?_|refine Step.by1 ?_|refine sE (by decide) ?_|refine cz rfl ?_|refine Fork.by2 (fun h=>?_) fun h=>?_
 |((first|refine aR ?_|refine aX (id:=7) 11 mixed (by decide) ?_|refine aC (f:=127) rfl rfl (hct) rfl rfl rfl ?_|refine aP1 (f:=127) rfl rfl (hct) rfl rfl rfl ?_);simp [vl, hrl, hri, hlen, w1, w2, w3, hjn, hj0, hj1, hjt', hjt, t9, markTexts])
 |(refine Split.by2 (fun h=>?_) (fun h=>?_)<;>(simp [h, vl, hrl, hri, hlen, w1, w2, w3, hjn, hj0, hj1, hjt', hjt, t9, markTexts]))
 |(apply hK;clear hK K)|refine AWh ‹_› ?_)
    refine ⟨j + 1, by omega, by omega, ?_⟩
    apply Weak.mk' <;> simp [vl]
    omega
  · have hje : j = 9 := by omega
    subst hje
    repeat' (first
 |refine aK fun K hK=>?_|refine Step.by1 ?_|refine sE (by decide) ?_|refine cz rfl ?_|refine Fork.by2 (fun h=>?_) fun h=>?_
 |(refine aR ?_;simp [vl, t9])
 |(refine Split.by2 (fun h=>?_) (fun h=>?_)<;>(simp [h, vl, t9]))
 |(apply hK;clear hK K)|refine AWh ‹_› ?_)
    exact r1q (cE rfl rfl)
theorem SetD_eq (x y : SetD) : x = y ↔ (x.clock = y.clock ∧ x.n = y.n ∧ x.var = y.var ∧ x.expr = y.expr) := by cases x; cases y; simp
theorem LocD_eq (x y : LocD) : x = y ↔ (x.name = y.name ∧ x.kind = y.kind ∧ x.inv = y.inv) := by cases x; cases y; simp
theorem EdgeD_eq (x y : EdgeD) : x = y ↔ (x.frm = y.frm ∧ x.to = y.to ∧ x.chan = y.chan ∧ x.send = y.send ∧ x.guards = y.guards ∧ x.test = y.test ∧ x.sets = y.sets) := by
  cases x; cases y; simp only [EdgeD.mk.injEq]; constructor
  · rintro ⟨h1, h2, h3, h4, h5, h6, h7⟩; exact ⟨h1, h2, h5, h6, h3, h4, h7⟩
  · rintro ⟨h1, h2, h5, h6, h3, h4, h7⟩; exact ⟨h1, h2, h3, h4, h5, h6, h7⟩
theorem VarD_eq (x y : VarD) : x = y ↔ (x.name = y.name ∧ x.lo = y.lo ∧ x.hi = y.hi ∧ x.init = y.init) := by cases x; cases y; simp
theorem AutoD_eq (x y : AutoD) : x = y ↔ (x.name = y.name ∧ x.locs = y.locs ∧ x.edges = y.edges) := by cases x; cases y; simp
theorem NetD_eq (x y : NetD) : x = y ↔ (x.clocks = y.clocks ∧ x.chans = y.chans ∧ x.vars = y.vars ∧ x.autos = y.autos) := by
  cases x; cases y; simp only [NetD.mk.injEq]; constructor
  · rintro ⟨h1, h2, h3, h4⟩; exact ⟨h1, h3, h2, h4⟩
  · rintro ⟨h1, h3, h2, h4⟩; exact ⟨h1, h2, h3, h4⟩
set_option maxHeartbeats 4000000 in
theorem c_sameSets (a b : List SetD) (ha : a.length ≤ 1048576 ∧ ∀ x ∈ a, x.ok) : PC 199 [vl SetD.cells a, vl SetD.cells b] (.bool (decide (a = b))) := by
  have hal := ha.1
  refine pB Tryz.func199 rfl (by decide) Tryz.ntmps199 (by simp) Tryz.results199 ?_
  by_cases hab : a.length = b.length
  · have hab' : (a.length : Int) = b.length := by omega
    repeat' (first
 |refine aK fun K hK=>?_|refine Step.by1 ?_|refine sE (by decide) ?_|refine cz rfl ?_|refine Fork.by2 (fun h=>?_) fun h=>?_
 |(refine aR ?_;simp [vl, hab'])
 |(refine Split.by2 (fun h=>?_) (fun h=>?_)<;>(simp [h, vl, hab']))
 |(apply hK;clear hK K)|refine AWh ‹_› ?_)
    refine aL [0, 1] (fun i : Nat => [(5, .int .i64 i)]) (fun _ => []) (fun i => i ≤ a.length ∧ a.take i = b.take i) (fun i => a.length - i) 0 ⟨Nat.zero_le _, rfl⟩ (by apply Weak.mk' <;> simp) (fun _ _ => rfl) ?_
    intro i hi
    by_cases hlt : i < a.length
    · have hlb : i < b.length := by omega
      have hne : a[i] ≠ b[i] → a ≠ b := fun h e => h (by subst e; rfl)
      have hsucc := fun h => take_same hi.2 hlt hlb h
      have hok := ha.2 a[i] (List.getElem_mem hlt)
      obtain ⟨x, hx⟩ : ∃ x, a[i] = x := ⟨_, rfl⟩
      obtain ⟨y, hy⟩ : ∃ y, b[i] = y := ⟨_, rfl⟩
      rw [hx] at hok
      rw [hx, hy] at hne hsucc
      rw [ne_eq, SetD_eq] at hne
      rw [SetD_eq] at hsucc
      have hcall := c_SameNodes x.expr y.expr (by have := hok.2.2.2.1; omega)
      repeat' (first
 |refine aK fun K hK=>?_|refine Step.by1 ?_|refine sE (by decide) ?_|refine cz rfl ?_|refine Fork.by2 (fun h=>?_) fun h=>?_
 |((first|refine aR ?_|refine aX (id:=6) 51 mixed (by decide) ?_|refine aP1 (f:=144) rfl rfl (hcall) rfl rfl rfl ?_);simp [vl, hlt, hlb, hx, hy, SetD.cells, wI];try (simp (disch:=omega) only [wI];try simp [vl, hlt, hlb, hx, hy, SetD.cells, wI]))
 |(refine Split.by2 (fun h=>?_) (fun h=>?_)<;>(simp [h, vl, hlt, hlb, hx, hy, SetD.cells, wI];try (simp (disch:=omega) only [wI];try simp [vl, hlt, hlb, hx, hy, SetD.cells, wI])))
 |(apply hK;clear hK K)|refine AWh ‹_› ?_)
      all_goals first
        | exact r1q (cE (by simp; exact hne (by simp_all)) rfl)
        | (refine ⟨i + 1, ⟨by omega, hsucc (by simp_all)⟩, by omega, ?_⟩; apply Weak.mk' <;> simp [vl])
    · have hie : i = a.length := by omega
      subst hie
      have he : a = b := take_end hi.2 hab
      repeat' (first
 |refine aK fun K hK=>?_|refine Step.by1 ?_|refine sE (by decide) ?_|refine cz rfl ?_|refine Fork.by2 (fun h=>?_) fun h=>?_
 |(refine aR ?_;simp [vl, hlt])
 |(refine Split.by2 (fun h=>?_) (fun h=>?_)<;>(simp [h, vl, hlt]))
 |(apply hK;clear hK K)|refine AWh ‹_› ?_)
      exact r1q (cE (by simp [he]) rfl)
  · have hab' : ¬ (a.length : Int) = b.length := by omega
    have he : ¬ a = b := fun h => hab (by rw [h])
    repeat' (first
 |refine aK fun K hK=>?_|refine Step.by1 ?_|refine sE (by decide) ?_|refine cz rfl ?_|refine Fork.by2 (fun h=>?_) fun h=>?_
 |(refine aR ?_;simp [vl, hab'])
 |(refine Split.by2 (fun h=>?_) (fun h=>?_)<;>(simp [h, vl, hab']))
 |(apply hK;clear hK K)|refine AWh ‹_› ?_)
    exact r1q (cE (by simp [he]) rfl)
theorem beq_dec (a b : Bool) : (a == b) = decide (a = b) := by cases a <;> cases b <;> rfl
set_option maxRecDepth 40000 in
set_option maxHeartbeats 16000000 in
theorem c_sameAuto (a b : AutoD) (ha : a.ok) : PC 142 [.agg a.cells, .agg b.cells] (.bool (decide (a = b))) := by
  obtain ⟨ha1, ⟨ha2, ha3⟩, ha4, ha5⟩ := ha
  refine pB Tryz.func142 rfl (by decide) Tryz.ntmps142 (by simp) Tryz.results142 ?_
  by_cases h0 : a.name = b.name ∧ a.locs.length = b.locs.length ∧ a.edges.length = b.edges.length
  · obtain ⟨e0, e1, e2⟩ := h0
    have e1' : (a.locs.length : Int) = b.locs.length := by omega
    have e2' : (a.edges.length : Int) = b.edges.length := by omega
    repeat' (first
 |refine aK fun K hK=>?_|refine Step.by1 ?_|refine sE (by decide) ?_|refine cz rfl ?_|refine Fork.by2 (fun h=>?_) fun h=>?_
 |(refine aR ?_;simp [vl, AutoD.cells, e0, e1', e2'])
 |(refine Split.by2 (fun h=>?_) (fun h=>?_)<;>(simp [h, vl, AutoD.cells, e0, e1', e2']))
 |(apply hK;clear hK K)|refine AWh ‹_› ?_)
    refine aL [2, 3] (fun i : Nat => [(5, .int .i64 i)]) (fun _ => [.var a.cells, .var b.cells]) (fun i => i ≤ a.locs.length ∧ a.locs.take i = b.locs.take i) (fun i => a.locs.length - i) 0 ⟨Nat.zero_le _, rfl⟩ (by apply Weak.mk' <;> simp [vl, AutoD.cells, e0]) (fun _ _ => rfl) ?_
    intro i hi
    by_cases hlt : i < a.locs.length
    · have hlb : i < b.locs.length := by omega
      have hne : a.locs[i] ≠ b.locs[i] → a ≠ b := fun h e => h (by subst e; rfl)
      have hsucc := fun h => take_same hi.2 hlt hlb h
      have hok := ha3 a.locs[i] (List.getElem_mem hlt)
      obtain ⟨x, hx⟩ : ∃ x, a.locs[i] = x := ⟨_, rfl⟩
      obtain ⟨y, hy⟩ : ∃ y, b.locs[i] = y := ⟨_, rfl⟩
      rw [hx] at hok
      rw [hx, hy] at hne hsucc
      rw [ne_eq, LocD_eq] at hne
      rw [LocD_eq] at hsucc
      have hcall := c_SameGuards x.inv y.inv (by have := hok.2.2.1; omega)
      repeat' (first
 |refine aK fun K hK=>?_|refine Step.by1 ?_|refine sE (by decide) ?_|refine cz rfl ?_|refine Fork.by2 (fun h=>?_) fun h=>?_
 |((first|refine aR ?_|refine aX (id:=6) 44 mixed (by decide) ?_|refine aP1 (f:=143) rfl rfl (hcall) rfl rfl rfl ?_);simp [vl, AutoD.cells, LocD.cells, hlt, hlb, hx, hy, wI];try (simp (disch:=omega) only [wI];try simp [vl, AutoD.cells, LocD.cells, hlt, hlb, hx, hy, wI]))
 |(refine Split.by2 (fun h=>?_) (fun h=>?_)<;>(simp [h, vl, AutoD.cells, LocD.cells, hlt, hlb, hx, hy, wI];try (simp (disch:=omega) only [wI];try simp [vl, AutoD.cells, LocD.cells, hlt, hlb, hx, hy, wI])))
 |(apply hK;clear hK K)|refine AWh ‹_› ?_)
      all_goals first
        | exact r1q (cE (by simp; exact hne (fun hh => by first | exact h hh.1 | exact h hh.2.1 | exact h hh.2.2 | exact h hh.2.2.1 | exact h hh.2.2.2.1 | exact h hh.2.2.2.2.1 | exact h hh.2.2.2.2.2.1 | exact h hh.2.2.2.2.2.2 | simp_all)) rfl)
        | (refine ⟨i + 1, ⟨by omega, hsucc (by simp_all)⟩, by omega, ?_⟩; apply Weak.mk' <;> simp [vl, AutoD.cells])
    · have hie : i = a.locs.length := by omega
      subst hie
      have hel : a.locs = b.locs := take_end hi.2 e1
      repeat' (first
 |refine aK fun K hK=>?_|refine Step.by1 ?_|refine sE (by decide) ?_|refine cz rfl ?_|refine Fork.by2 (fun h=>?_) fun h=>?_
 |(refine aR ?_;simp [vl, AutoD.cells, hlt])
 |(refine Split.by2 (fun h=>?_) (fun h=>?_)<;>(simp [h, vl, AutoD.cells, hlt]))
 |(apply hK;clear hK K)|refine AWh ‹_› ?_)
      refine aL [2, 3] (fun i : Nat => [(6, .int .i64 i)]) (fun _ => [.var a.cells, .var b.cells]) (fun i => i ≤ a.edges.length ∧ a.edges.take i = b.edges.take i) (fun i => a.edges.length - i) 0 ⟨Nat.zero_le _, rfl⟩ (by apply Weak.mk' <;> simp [vl, AutoD.cells, e0]) (fun _ _ => rfl) ?_
      intro i hi
      by_cases hlt : i < a.edges.length
      · have hlb : i < b.edges.length := by omega
        have hne : a.edges[i] ≠ b.edges[i] → a ≠ b := fun h e => h (by subst e; rfl)
        have hsucc := fun h => take_same hi.2 hlt hlb h
        have hok := ha5 a.edges[i] (List.getElem_mem hlt)
        obtain ⟨x, hx⟩ : ∃ x, a.edges[i] = x := ⟨_, rfl⟩
        obtain ⟨y, hy⟩ : ∃ y, b.edges[i] = y := ⟨_, rfl⟩
        rw [hx] at hok
        rw [hx, hy] at hne hsucc
        rw [ne_eq, EdgeD_eq] at hne
        rw [EdgeD_eq] at hsucc
        obtain ⟨_, _, ok3, ok4, _, _, ok7⟩ := hok
        have hc1 := c_SameGuards x.guards y.guards (by have := ok3.1; omega)
        have hc2 := c_SameNodes x.test y.test (by have := ok4.1; omega)
        have hc3 := c_sameSets x.sets y.sets ok7
        repeat' (first
 |refine aK fun K hK=>?_|refine Step.by1 ?_|refine sE (by decide) ?_|refine cz rfl ?_|refine Fork.by2 (fun h=>?_) fun h=>?_
 |((first|refine aR ?_|refine aC (f:=143) rfl rfl (hc1) rfl rfl rfl ?_|refine aC (f:=144) rfl rfl (hc2) rfl rfl rfl ?_|refine aC (f:=199) rfl rfl (hc3) rfl rfl rfl ?_);simp [vl, AutoD.cells, EdgeD.cells, hlt, hlb, hx, hy, beq_dec, wI];try (simp (disch:=omega) only [wI];try simp [vl, AutoD.cells, EdgeD.cells, hlt, hlb, hx, hy, beq_dec, wI]))
 |(refine Split.by2 (fun h=>?_) (fun h=>?_)<;>(simp [h, vl, AutoD.cells, EdgeD.cells, hlt, hlb, hx, hy, beq_dec, wI];try (simp (disch:=omega) only [wI];try simp [vl, AutoD.cells, EdgeD.cells, hlt, hlb, hx, hy, beq_dec, wI])))
 |(apply hK;clear hK K)|refine AWh ‹_› ?_)
        all_goals first
          | exact r1q (cE (by simp; exact hne (fun hh => by first | exact h hh.1 | exact h hh.2.1 | exact h hh.2.2 | exact h hh.2.2.1 | exact h hh.2.2.2.1 | exact h hh.2.2.2.2.1 | exact h hh.2.2.2.2.2.1 | exact h hh.2.2.2.2.2.2 | simp_all)) rfl)
          | (refine ⟨i + 1, ⟨by omega, hsucc (by simp_all)⟩, by omega, ?_⟩; apply Weak.mk' <;> simp [vl, AutoD.cells])
          | (exfalso; first | contradiction | (simp_all; done))
      · have hie : i = a.edges.length := by omega
        subst hie
        have hee : a.edges = b.edges := take_end hi.2 e2
        have he : a = b := (AutoD_eq a b).2 ⟨e0, hel, hee⟩
        repeat' (first
 |refine aK fun K hK=>?_|refine Step.by1 ?_|refine sE (by decide) ?_|refine cz rfl ?_|refine Fork.by2 (fun h=>?_) fun h=>?_
 |(refine aR ?_;simp [vl, AutoD.cells, hlt])
 |(refine Split.by2 (fun h=>?_) (fun h=>?_)<;>(simp [h, vl, AutoD.cells, hlt]))
 |(apply hK;clear hK K)|refine AWh ‹_› ?_)
        exact r1q (cE (by simp [he]) rfl)
  · have he : ¬ a = b := fun h => h0 (by subst h; exact ⟨rfl, rfl, rfl⟩)
    repeat' (first
 |refine aK fun K hK=>?_|refine Step.by1 ?_|refine sE (by decide) ?_|refine cz rfl ?_|refine Fork.by2 (fun h=>?_) fun h=>?_
 |(refine aR ?_;simp [vl, AutoD.cells])
 |(refine Split.by2 (fun h=>?_) (fun h=>?_)<;>(simp [h, vl, AutoD.cells]))
 |(apply hK;clear hK K)|refine AWh ‹_› ?_)
    all_goals first
      | exact r1q (cE (by simp [he]) rfl)
      | (exfalso; exact h0 ⟨by assumption, by omega, by omega⟩)
end Go.Proofs.YtgmlimipejcpgaaGreatDoor
end
