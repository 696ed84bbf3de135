/-
  YtgmlimipejcpgaaGreatDoorLj34: steps of the proof of a law of the program: what these texts prove holds under the hypotheses that their theorems name, and no others.
-/
import Derived.Test.YtgmlimipejcpgaaGreatDoorLj14
import Derived.Test.YtgmlimipejcpgaaGreatDoorLj33
import Derived.Test.YtgmlimipejcpgaaGreatDoorLj12
import Derived.Test.YtgmlimipejcpgaaGreatDoorLj22
section
set_option linter.unusedSimpArgs false
set_option linter.unusedVariables false
namespace Go.Proofs.YtgmlimipejcpgaaGreatDoor
open Go Go.AM Fx
theorem IntsD_eq (x y : Int) : x = y ↔ x = y := Iff.rfl
set_option maxHeartbeats 2000000 in
theorem c_SameIntsB (a b : List Int) (ha : a.length ≤ 1099511627776) : PC 26 [vl (fun k : Int => [V.int .i64 k]) a, vl (fun k : Int => [V.int .i64 k]) b] (.bool (decide (a = b))) := by
  refine pB Tryz.func26 rfl (by decide) Tryz.ntmps26 (by simp) Tryz.results26 ?_
  by_cases hab : a.length = b.length
  · have hab' : (a.length : Int) = b.length := by omega
    repeat' (first
 |refine aK fun K hK=>?_|refine Step.by1 ?_|refine sE (by decide) ?_|refine cz rfl ?_|refine Fork.by2 (fun h=>?_) fun h=>?_
 |(refine aR ?_;simp [vl, hab'])
 |(refine Split.by2 (fun h=>?_) (fun h=>?_)<;>(simp [h, vl, hab']))
 |(apply hK;clear hK K)|refine AWh ‹_› ?_)
    refine aL [0, 1] (fun i : Nat => [(5, .int .i64 i)]) (fun _ => []) (fun i => i ≤ a.length ∧ a.take i = b.take i) (fun i => a.length - i) 0 ⟨Nat.zero_le _, rfl⟩ (by apply Weak.mk' <;> simp) (fun _ _ => rfl) ?_
    intro i hi
    by_cases hlt : i < a.length
    · have hlb : i < b.length := by omega
      have hne : a[i] ≠ b[i] → a ≠ b := fun h e => h (by subst e; rfl)
      have hsucc := fun h => take_same hi.2 hlt hlb h
      obtain ⟨x, hx⟩ : ∃ x, a[i] = x := ⟨_, rfl⟩
      obtain ⟨y, hy⟩ : ∃ y, b[i] = y := ⟨_, rfl⟩
      rw [hx, hy] at hne hsucc
      rw [ne_eq, IntsD_eq] at hne
      rw [IntsD_eq] at hsucc
      repeat' (first
 |refine aK fun K hK=>?_|refine Step.by1 ?_|refine sE (by decide) ?_|refine cz rfl ?_|refine Fork.by2 (fun h=>?_) fun h=>?_
 |((first|refine aR ?_|refine aX (id:=6) 9 mixed (by decide) ?_);simp [vl, hlt, hlb, hx, hy, ceqs, wI];try (simp (disch:=omega) only [wI];try simp [vl, hlt, hlb, hx, hy, ceqs, wI]))
 |(refine Split.by2 (fun h=>?_) (fun h=>?_)<;>(simp [h, vl, hlt, hlb, hx, hy, ceqs, wI];try (simp (disch:=omega) only [wI];try simp [vl, hlt, hlb, hx, hy, ceqs, wI])))
 |(apply hK;clear hK K)|refine AWh ‹_› ?_)
      all_goals first
        | exact r1q (cE (by simp; exact hne (by first | exact h | (simp at h; intro he; simp [he] at h))) rfl)
        | (refine ⟨i + 1, ⟨by omega, hsucc (by first | exact h | (simp at h; simp [h]))⟩, by omega, ?_⟩; apply Weak.mk' <;> simp [vl])
    · have hie : i = a.length := by omega
      subst hie
      have he : a = b := take_end hi.2 hab
      repeat' (first
 |refine aK fun K hK=>?_|refine Step.by1 ?_|refine sE (by decide) ?_|refine cz rfl ?_|refine Fork.by2 (fun h=>?_) fun h=>?_
 |(refine aR ?_;simp [vl, hlt])
 |(refine Split.by2 (fun h=>?_) (fun h=>?_)<;>(simp [h, vl, hlt]))
 |(apply hK;clear hK K)|refine AWh ‹_› ?_)
      exact r1q (cE (by simp [he]) rfl)
  · have hab' : ¬ (a.length : Int) = b.length := by omega
    have he : ¬ a = b := fun h => hab (by rw [h])
    repeat' (first
 |refine aK fun K hK=>?_|refine Step.by1 ?_|refine sE (by decide) ?_|refine cz rfl ?_|refine Fork.by2 (fun h=>?_) fun h=>?_
 |(refine aR ?_;simp [vl, hab'])
 |(refine Split.by2 (fun h=>?_) (fun h=>?_)<;>(simp [h, vl, hab']))
 |(apply hK;clear hK K)|refine AWh ‹_› ?_)
    exact r1q (cE (by simp [he]) rfl)
def markInts (j : Nat) : List V := [.int .i64 (-700 - (j : Int))]
set_option maxHeartbeats 2000000 in
theorem c_HandInts (l : List Int) (hl : l.length ≤ 1099511627776) : PC 171 [vl (fun k : Int => [V.int .i64 k]) l] (handV (fun k : Int => [V.int .i64 k]) markInts l) := by
  have w9 : IntKind.i64.wrap ((l.length : Int) + 9) = (l.length : Int) + 9 := wI (by omega) (by omega)
  have t9 : ((l.length : Int) + 9).toNat = l.length + 9 := by omega
  have n9 : ((l.length : Int) + 9) * 8 ≤ 281474976710656 := by omega
  have hz : (0 : Int) ≤ (l.length : Int) + 9 := by omega
  refine pB Tryz.func171 rfl (by decide) Tryz.ntmps171 (by simp) Tryz.results171 ?_
  repeat' (first
 |refine aK fun K hK=>?_|refine Step.by1 ?_|refine sE (by decide) ?_|refine cz rfl ?_|refine Fork.by2 (fun h=>?_) fun h=>?_
 |(refine aR ?_;simp [vl, w9, n9, hz, t9])
 |(refine Split.by2 (fun h=>?_) (fun h=>?_)<;>(simp [h, vl, w9, n9, hz, t9]))
 |(apply hK;clear hK K)|refine AWh ‹_› ?_)
  refine aL [0, 3] (fun i : Nat => [(4, .int .i64 i)]) (fun i => [.row 3 0 0 true (fillR (handF (fun k : Int => [V.int .i64 k]) markInts l) [.int .i64 0] (l.length + 9) i)]) (fun i => i ≤ l.length) (fun i => l.length - i) 0 (Nat.zero_le _) (by apply Weak.mk' <;> simp [vl, fillR, t9]) (fun _ _ => rfl) ?_
  intro i hi
  by_cases hlt : i < l.length
  · have hlt9 : i < l.length + 9 := by omega
    have hlt8 : (i : Int) < l.length + 9 := by omega
    have hset := fillR_set (f := handF (fun k : Int => [V.int .i64 k]) markInts l) (z := [.int .i64 0]) hlt9
    have hlen := fillR_len (f := handF (fun k : Int => [V.int .i64 k]) markInts l) (z := [.int .i64 0]) (n := l.length + 9) (i := i) (by omega)
    have hget := fillR_get (f := handF (fun k : Int => [V.int .i64 k]) markInts l) (z := [.int .i64 0]) hlt9
    rw [handF_in hlt] at hset
    obtain ⟨x, hx⟩ : ∃ x, l[i] = x := ⟨_, rfl⟩
    rw [hx] at hset
    generalize fillR (handF (fun k : Int => [V.int .i64 k]) markInts l) [.int .i64 0] (l.length + 9) i = row at *
    have hrl : i < row.length := by omega
    have hri : row[i] = [.int .i64 0] := by rw [List.getElem?_eq_getElem hrl] at hget; exact Option.some.inj hget
    repeat' (first
 |refine aK fun K hK=>?_|refine Step.by1 ?_|refine sE (by decide) ?_|refine cz rfl ?_|refine Fork.by2 (fun h=>?_) fun h=>?_
 |(refine aR ?_;simp [vl, hlt, hlt9, hlt8, t9, hrl, hri, hx, hlen, ceqs, wI];try (simp (disch:=omega) only [wI];try simp [vl, hlt, hlt9, hlt8, t9, hrl, hri, hx, hlen, ceqs, wI]))
 |(refine Split.by2 (fun h=>?_) (fun h=>?_)<;>(simp [h, vl, hlt, hlt9, hlt8, t9, hrl, hri, hx, hlen, ceqs, wI];try (simp (disch:=omega) only [wI];try simp [vl, hlt, hlt9, hlt8, t9, hrl, hri, hx, hlen, ceqs, wI])))
 |(apply hK;clear hK K)|refine AWh ‹_› ?_)
    refine ⟨i + 1, by omega, by omega, ?_⟩
    apply Weak.mk' <;> simp [vl]
    simpa [ceqs] using hset
  · have hie : i = l.length := by omega
    subst hie
    repeat' (first
 |refine aK fun K hK=>?_|refine Step.by1 ?_|refine sE (by decide) ?_|refine cz rfl ?_|refine Fork.by2 (fun h=>?_) fun h=>?_
 |(refine aR ?_;simp [vl, hlt])
 |(refine Split.by2 (fun h=>?_) (fun h=>?_)<;>(simp [h, vl, hlt]))
 |(apply hK;clear hK K)|refine AWh ‹_› ?_)
    refine aL [0, 3] (fun j : Nat => [(5, .int .i64 (l.length + j : Nat))]) (fun j => [.row 3 0 0 true (fillR (handF (fun k : Int => [V.int .i64 k]) markInts l) [.int .i64 0] (l.length + 9) (l.length + j))]) (fun j => j ≤ 9) (fun j => 9 - j) 0 (Nat.zero_le _) (by apply Weak.mk' <;> simp [vl]) (fun _ _ => rfl) ?_
    intro j hj
    by_cases hjt : j < 9
    · have hlt9 : l.length + j < l.length + 9 := by omega
      have hset := fillR_set (f := handF (fun k : Int => [V.int .i64 k]) markInts l) (z := [.int .i64 0]) hlt9
      have hlen := fillR_len (f := handF (fun k : Int => [V.int .i64 k]) markInts l) (z := [.int .i64 0]) (n := l.length + 9) (i := l.length + j) (by omega)
      have hget := fillR_get (f := handF (fun k : Int => [V.int .i64 k]) markInts l) (z := [.int .i64 0]) hlt9
      rw [handF_out] at hset
      rw [show l.length + j + 1 = l.length + (j + 1) by omega] at hset
      generalize fillR (handF (fun k : Int => [V.int .i64 k]) markInts l) [.int .i64 0] (l.length + 9) (l.length + j) = row at *
      have hrl : l.length + j < row.length := by omega
      have hri : row[l.length + j] = [.int .i64 0] := by rw [List.getElem?_eq_getElem hrl] at hget; exact Option.some.inj hget
      have hle : (l.length : Int) + j ≤ 1099511627785 := by omega
      have w1 : IntKind.i64.wrap (-700 - ((l.length : Int) + j)) = -700 - ((l.length : Int) + j) := wI (by omega) (by omega)
      have w2 : IntKind.i64.wrap (-700 - ((l.length : Int) + j) + l.length) = -700 - (j : Int) := by rw [wI (by omega) (by omega)]; omega
      have w3 : IntKind.i64.wrap ((l.length : Int) + j + 1) = (l.length : Int) + j + 1 := wI (by omega) (by omega)
      have hjn : ((l.length : Int) + j).toNat = l.length + j := by omega
      have hj0 : (0 : Int) ≤ (l.length : Int) + j := by omega
      have hj1 : (l.length : Int) + j < (l.length : Int) + 9 := by omega
      have hjt' : (j : Int) < 9 := by omega
      repeat' (first
 |refine aK fun K hK=>?_|refine Step.by1 ?_|refine sE (by decide) ?_|refine cz rfl ?_|refine Fork.by2 (fun h=>?_) fun h=>?_
 |(refine aR ?_;simp [vl, hlt9, hrl, hri, hlen, w1, w2, w3, hjn, hj0, hj1, hjt', hjt, t9])
 |(refine Split.by2 (fun h=>?_) (fun h=>?_)<;>(simp [h, vl, hlt9, hrl, hri, hlen, w1, w2, w3, hjn, hj0, hj1, hjt', hjt, t9]))
 |(apply hK;clear hK K)|refine AWh ‹_› ?_)
      refine ⟨j + 1, by omega, by omega, ?_⟩
      apply Weak.mk' <;> simp [vl]
      · omega
      · simpa [markInts] using hset
    · have hje : j = 9 := by omega
      subst hje
      have hfin : fillR (handF (fun k : Int => [V.int .i64 k]) markInts l) [.int .i64 0] (l.length + 9) (l.length + 9) = l.map (fun k : Int => [V.int .i64 k]) ++ (List.range 9).map markInts := by unfold fillR; rw [range_hand]; simp
      rw [hfin]
      repeat' (first
 |refine aK fun K hK=>?_|refine Step.by1 ?_|refine sE (by decide) ?_|refine cz rfl ?_|refine Fork.by2 (fun h=>?_) fun h=>?_
 |(refine aR ?_;simp [vl, t9])
 |(refine Split.by2 (fun h=>?_) (fun h=>?_)<;>(simp [h, vl, t9]))
 |(apply hK;clear hK K)|refine AWh ‹_› ?_)
      exact r1q (.inl ⟨1, by simp [handV], rfl⟩)
theorem trims_IntsD (x : Int) : V.trims ((fun k : Int => [V.int .i64 k]) x) = (fun k : Int => [V.int .i64 k]) x := trims_map _ (by simp [ceqs, V.trim])
theorem trim_handInts (l : List Int) : (handV (fun k : Int => [V.int .i64 k]) markInts l).trim = vl (fun k : Int => [V.int .i64 k]) l := trim_pad _ fun x _ => trims_IntsD x
theorem trim_vlInts (l : List Int) : (vl (fun k : Int => [V.int .i64 k]) l).trim = vl (fun k : Int => [V.int .i64 k]) l := trim_vl fun x _ => trims_IntsD x
set_option maxHeartbeats 2000000 in
theorem c_KeptInts (l : List Int) (hl : l.length ≤ 1099511627776) : PC 184 [handV (fun k : Int => [V.int .i64 k]) markInts l, vl (fun k : Int => [V.int .i64 k]) l] (.bool true) := by
  have hs := (c_SameIntsB l l hl).trim (args := [handV (fun k : Int => [V.int .i64 k]) markInts l, vl (fun k : Int => [V.int .i64 k]) l]) (by simp only [V.trims, trim_handInts, trim_vlInts])
  have w9 : IntKind.i64.wrap ((l.length : Int) + 9) = (l.length : Int) + 9 := wI (by omega) (by omega)
  have t9 : ((l.length : Int) + 9).toNat = l.length + 9 := by omega
  have hz : (0 : Int) ≤ (l.length : Int) + 9 := by omega
  obtain ⟨row, hrow⟩ : ∃ row, l.map (fun k : Int => [V.int .i64 k]) ++ (List.range 9).map markInts = row := ⟨_, rfl⟩
  have hlen : row.length = l.length + 9 := by rw [← hrow]; simp
  have hall : ∀ x ∈ row, x.length = 1 := fun x hx => by
    rw [← hrow] at hx
    rcases List.mem_append.1 hx with h | h
    · obtain ⟨y, _, rfl⟩ := List.mem_map.1 h; rfl
    · obtain ⟨y, _, rfl⟩ := List.mem_map.1 h; rfl
  have hget : ∀ j, j < 9 → row[l.length + j]? = some (markInts j) := fun j hj => by
    rw [← hrow, List.getElem?_append_right (by simp), List.length_map, Nat.add_sub_cancel_left, List.getElem?_map, List.getElem?_range hj]; rfl
  simp only [handV, hrow, vl, decide_true] at hs
  unfold handV
  rw [hrow]
  refine pB Tryz.func184 rfl (by decide) Tryz.ntmps184 (by simp) Tryz.results184 ?_
  repeat' (first
 |refine aK fun K hK=>?_|refine Step.by1 ?_|refine sE (by decide) ?_|refine cz rfl ?_|refine Fork.by2 (fun h=>?_) fun h=>?_
 |((first|refine aR ?_|refine aC (f:=26) rfl rfl (hs) rfl rfl rfl ?_);simp [vl, w9, t9, hz, hlen])
 |(refine Split.by2 (fun h=>?_) (fun h=>?_)<;>(simp [h, vl, w9, t9, hz, hlen]))
 |refine And.intro hall ?_
 |(apply hK;clear hK K)|refine AWh ‹_› ?_)
  refine aL [1, 5] (fun j : Nat => [(6, .int .i64 (l.length + j : Nat))]) (fun _ => []) (fun j => j ≤ 9) (fun j => 9 - j) 0 (Nat.zero_le _) (by apply Weak.mk' <;> simp [vl]) (fun _ _ => rfl) ?_
  intro j hj
  by_cases hjt : j < 9
  · have hm := hget j hjt
    have hrl : l.length + j < row.length := by omega
    have hri : row[l.length + j] = markInts j := by rw [List.getElem?_eq_getElem hrl] at hm; exact Option.some.inj hm
    have w1 : IntKind.i64.wrap (-700 - ((l.length : Int) + j)) = -700 - ((l.length : Int) + j) := wI (by omega) (by omega)
    have w2 : IntKind.i64.wrap (-700 - ((l.length : Int) + j) + l.length) = -700 - (j : Int) := by rw [wI (by omega) (by omega)]; omega
    have w3 : IntKind.i64.wrap ((l.length : Int) + j + 1) = (l.length : Int) + j + 1 := wI (by omega) (by omega)
    have hjn : ((l.length : Int) + j).toNat = l.length + j := by omega
    have hj0 : (0 : Int) ≤ (l.length : Int) + j := by omega
    have hj1 : (l.length : Int) + j < (l.length : Int) + 9 := by omega
    have hjt' : (j : Int) < 9 := by omega
    repeat' (first
 |refine aK fun K hK=>?_|refine Step.by1 ?_|refine sE (by decide) ?_|refine cz rfl ?_|refine Fork.by2 (fun h=>?_) fun h=>?_
 |(refine aR ?_;simp [vl, hrl, hri, hlen, w1, w2, w3, hjn, hj0, hj1, hjt', hjt, t9, markInts])
 |(refine Split.by2 (fun h=>?_) (fun h=>?_)<;>(simp [h, vl, hrl, hri, hlen, w1, w2, w3, hjn, hj0, hj1, hjt', hjt, t9, markInts]))
 |(apply hK;clear hK K)|refine AWh ‹_› ?_)
    refine ⟨j + 1, by omega, by omega, ?_⟩
    apply Weak.mk' <;> simp [vl]
    omega
  · have hje : j = 9 := by omega
    subst hje
    repeat' (first
 |refine aK fun K hK=>?_|refine Step.by1 ?_|refine sE (by decide) ?_|refine cz rfl ?_|refine Fork.by2 (fun h=>?_) fun h=>?_
 |(refine aR ?_;simp [vl, t9])
 |(refine Split.by2 (fun h=>?_) (fun h=>?_)<;>(simp [h, vl, t9]))
 |(apply hK;clear hK K)|refine AWh ‹_› ?_)
    exact r1q (cE rfl rfl)
def markGuards (j : Nat) : List V := [.int .i64 0, .int .i64 0, .int .u8 0, .int .i64 (-700 - (j : Int))]
theorem trims_GuardD (x : GuardD) : V.trims (GuardD.cells x) = GuardD.cells x := trims_map _ (by simp [GuardD.cells, V.trim])
theorem trim_vlGuards (l : List GuardD) : (vl GuardD.cells l).trim = vl GuardD.cells l := trim_vl fun x _ => trims_GuardD x
def markNodes (j : Nat) : List V := [.int .u8 0, .int .i64 (-700 - (j : Int))]
theorem trims_NodeD (x : NodeD) : V.trims (NodeD.cells x) = NodeD.cells x := trims_map _ (by simp [NodeD.cells, V.trim])
theorem trim_vlNodes (l : List NodeD) : (vl NodeD.cells l).trim = vl NodeD.cells l := trim_vl fun x _ => trims_NodeD x
def markAts (j : Nat) : List V := [.int .i64 (-700 - (j : Int)), .int .i64 0]
def textB : Nat → ByteArray
  | 0 => ⟨#[109, 97, 114, 107, 32, 121, 97, 98]⟩
  | 1 => ⟨#[109, 97, 114, 107, 32, 122, 97, 98]⟩
  | 2 => ⟨#[109, 97, 114, 107, 32, 97, 98, 98]⟩
  | 3 => ⟨#[109, 97, 114, 107, 32, 98, 98, 98]⟩
  | 4 => ⟨#[109, 97, 114, 107, 32, 99, 98, 98]⟩
  | 5 => ⟨#[109, 97, 114, 107, 32, 100, 98, 98]⟩
  | 6 => ⟨#[109, 97, 114, 107, 32, 101, 98, 98]⟩
  | 7 => ⟨#[109, 97, 114, 107, 32, 102, 98, 98]⟩
  | 8 => ⟨#[109, 97, 114, 107, 32, 103, 98, 98]⟩
  | _ => ⟨#[]⟩
def markTexts (j : Nat) : List V := [.str (textB j)]
theorem trims_Texts (x : ByteArray) : V.trims ((fun s : ByteArray => [V.str s]) x) = (fun s : ByteArray => [V.str s]) x := trims_map _ (by simp [ceqs, V.trim])
theorem trim_vlTexts (l : List ByteArray) : (vl (fun s : ByteArray => [V.str s]) l).trim = vl (fun s : ByteArray => [V.str s]) l := trim_vl fun x _ => trims_Texts x

def LocD.hcells (x : LocD) : List V := [.str x.name, .int .u8 x.kind, handV GuardD.cells markGuards x.inv]
def SetD.hcells (x : SetD) : List V := [.int .i64 x.clock, .int .i64 x.n, .int .i64 x.var, handV NodeD.cells markNodes x.expr]
def EdgeD.hcells (x : EdgeD) : List V := [.int .i64 x.frm, .int .i64 x.to, handV GuardD.cells markGuards x.guards, handV NodeD.cells markNodes x.test, .int .i64 x.chan, .bool x.send, vl SetD.hcells x.sets]
def AutoD.hcells (x : AutoD) : List V := [.str x.name, vl LocD.hcells x.locs, vl EdgeD.hcells x.edges]
def NetD.hcells (x : NetD) : List V := [handV (fun s => [V.str s]) markTexts x.clocks, vl VarD.cells x.vars, handV (fun s => [V.str s]) markTexts x.chans, vl AutoD.hcells x.autos]
theorem trim_vl' {α : Type} {c c' : α → List V} {l : List α} (h : ∀ x ∈ l, V.trims (c x) = c' x) : (vl c l).trim = vl c' l := by
  have := trim_pad (c := c) (c' := c') (l := l) [] h
  rw [List.append_nil] at this; exact this
theorem trims_Loc (x : LocD) : V.trims x.cells = x.cells := by simp [LocD.cells, V.trims, V.trim, trim_vlGuards]
theorem trims_Set (x : SetD) : V.trims x.cells = x.cells := by simp [SetD.cells, V.trims, V.trim, trim_vlNodes]
theorem trims_Edge (x : EdgeD) : V.trims x.cells = x.cells := by
  simp [EdgeD.cells, V.trims, V.trim, trim_vlGuards, trim_vlNodes, trim_vl' (c := SetD.cells) (c' := SetD.cells) fun y _ => trims_Set y]
theorem trims_Auto (x : AutoD) : V.trims x.cells = x.cells := by
  simp [AutoD.cells, V.trims, V.trim, trim_vl' (c := LocD.cells) (c' := LocD.cells) fun y _ => trims_Loc y, trim_vl' (c := EdgeD.cells) (c' := EdgeD.cells) fun y _ => trims_Edge y]
theorem trims_Var (x : VarD) : V.trims x.cells = x.cells := by simp [VarD.cells, V.trims, V.trim]
theorem trims_Net (x : NetD) : V.trims x.cells = x.cells := by
  simp [NetD.cells, V.trims, V.trim, trim_vlTexts, trim_vl' (c := VarD.cells) (c' := VarD.cells) fun y _ => trims_Var y, trim_vl' (c := AutoD.cells) (c' := AutoD.cells) fun y _ => trims_Auto y]
def hI (r : List Int) : V := handV (fun k : Int => [V.int .i64 k]) markInts r
def hRows (Q : List (List Int)) : List (List V) := Q.map fun r => [hI r]
def hQ (Q : List (List Int)) : V := .vec (hRows Q) Q.length
def hHalf (P : List (List (List Int))) : List (List V) := P.map fun Q => [hQ Q]
def hP (P : List (List (List Int))) : V := .vec (hHalf P) P.length
def PlanD.hcells (p : PlanD) : List V := [hP p.lo, hP p.up]
theorem hRows_len {Q : List (List Int)} : (hRows Q).length = Q.length := by simp [hRows]
theorem hHalf_len {P : List (List (List Int))} : (hHalf P).length = P.length := by simp [hHalf]
theorem hRows_get {Q : List (List Int)} {i : Nat} {r : List Int} (h : Q[i]? = some r) : (hRows Q)[i]? = some [hI r] := by simp [hRows, h]
theorem hHalf_get {P : List (List (List Int))} {i : Nat} {Q : List (List Int)} (h : P[i]? = some Q) : (hHalf P)[i]? = some [hQ Q] := by simp [hHalf, h]
theorem hRows_take {Q : List (List Int)} {i : Nat} {r : List Int} (h : Q[i]? = some r) : hRows (Q.take (i + 1)) = hRows (Q.take i) ++ [[hI r]] := by
  unfold hRows; rw [List.take_add_one, h, List.map_append]; rfl
theorem hHalf_take {P : List (List (List Int))} {i : Nat} {Q : List (List Int)} (h : P[i]? = some Q) : hHalf (P.take (i + 1)) = hHalf (P.take i) ++ [[hQ Q]] := by
  unfold hHalf; rw [List.take_add_one, h, List.map_append]; rfl
/-- What is seen of them. -/
theorem trim_hI (r : List Int) : (hI r).trim = .vec (ivs r) r.length := trim_handInts r
theorem trim_hQ (Q : List (List Int)) : (hQ Q).trim = .vec (rows2V Q) Q.length := by
  have e : hQ Q = vl (fun r => [hI r]) Q := rfl
  rw [e]
  exact trim_vl' fun r _ => by simp [V.trims, trim_hI]
theorem trim_hP (P : List (List (List Int))) : (hP P).trim = halfV P := by
  have e : hP P = vl (fun Q => [hQ Q]) P := rfl
  rw [e]
  exact trim_vl' fun Q _ => by simp [V.trims, trim_hQ]
theorem trims_PlanH (p : PlanD) : V.trims p.hcells = p.cells := by simp [PlanD.hcells, PlanD.cells, V.trims, trim_hP]
set_option maxHeartbeats 8000000 in
theorem c_HandIntLists (Q : List (List Int)) (hQl : Q.length ≤ 1048576) (hr : ∀ r ∈ Q, r.length ≤ 1048576) : PC 115 [.vec (rows2V Q) Q.length] (hQ Q) := by
  have ra : (rows2V Q).length = Q.length := rows2V_len
  unfold hQ
  refine pB Tryz.func115 rfl (by decide) Tryz.ntmps115 (by simp) Tryz.results115 ?_
  repeat' (first
 |refine aK fun K hK=>?_|refine Step.by1 ?_|refine sE (by decide) ?_|refine cz rfl ?_|refine Fork.by2 (fun h=>?_) fun h=>?_
 |(refine aR ?_;simp [ra])
 |(refine Split.by2 (fun h=>?_) (fun h=>?_)<;>(simp [h, ra]))
 |(apply hK;clear hK K)|refine AWh ‹_› ?_)
  refine AW_nilrow 3 47 rfl (by simp) ?_
  refine aL [0] (fun i : Nat => [(3, .ref 0 i 0 i), (4, .int .i64 i)]) (fun i => [.row 47 i 0 true (hRows (Q.take i))]) (fun i => i ≤ Q.length) (fun i => Q.length - i) 0 (Nat.zero_le _) (by apply Weak.mk' <;> simp [hRows]) (fun _ _ => rfl) ?_
  intro i hi
  by_cases hlt : i < Q.length
  · obtain ⟨r, hrr⟩ : ∃ r, Q[i] = r := ⟨_, rfl⟩
    have hr? : Q[i]? = some r := by rw [List.getElem?_eq_getElem hlt, hrr]
    have hlt' : (i : Int) < Q.length := by omega
    have w1 : IntKind.i64.wrap ((i : Int) + 1) = i + 1 := wI (by omega) (by omega)
    have hby : (i + 1) * 24 ≤ 140737488355328 := by omega
    have hc : PC 171 [.vec (ivs r) r.length] (hI r) := c_HandInts r (by have := hr r (List.mem_of_getElem? hr?); omega)
    have a2 := rows2V_get hr?
    have a3 : (rows2V Q)[i]'(by rw [rows2V_len]; exact hlt) = [V.vec (ivs r) r.length] := by have hz := a2; rw [List.getElem?_eq_getElem (by rw [rows2V_len]; exact hlt)] at hz; exact Option.some.inj hz
    have hs := hRows_take hr?
    have hl1 : (hRows (Q.take i)).length = i := by simp [hRows]; omega
    have hlt0 : ∀ n, V.lts n [hI r] = true := fun n => rfl
    generalize hRows (Q.take i) = R at *
    unfold hI at hc hs hlt0
    unfold handV at hc hs hlt0
    generalize (List.map (fun k : Int => [V.int .i64 k]) r ++ (List.range 9).map markInts) = X at *
    repeat' (first
 |refine aK fun K hK=>?_|refine Step.by1 ?_|refine sE (by decide) ?_|refine cz rfl ?_|refine Fork.by2 (fun h=>?_) fun h=>?_
 |((first|refine aR ?_|refine aC (f:=171) rfl rfl (hc) rfl rfl rfl ?_);simp [hlt, hlt', a2, a3, ra, w1, hl1, hby])
 |(refine Split.by2 (fun h=>?_) (fun h=>?_)<;>(simp [h, hlt, hlt', a2, a3, ra, w1, hl1, hby]))
 |(apply hK;clear hK K)|refine AWh ‹_› ?_)
    refine ⟨i + 1, by omega, by omega, ?_⟩
    rw [hs]
    apply Weak.mk' <;> simp
  · obtain rfl : i = Q.length := by omega
    rw [List.take_length]
    have hl1 := hRows_len (Q := Q)
    generalize hRows Q = R at *
    repeat' (first
 |refine AW_view 3 rfl rfl (by simp [hl1]) ?_
 |refine aK fun K hK=>?_|refine Step.by1 ?_|refine sE (by decide) ?_|refine cz rfl ?_|refine Fork.by2 (fun h=>?_) fun h=>?_
 |(refine aR ?_;simp [hl1])
 |(refine Split.by2 (fun h=>?_) (fun h=>?_)<;>(simp [h, hl1]))
 |(apply hK;clear hK K)|refine AWh ‹_› ?_)
    exact r1q (cE (by simp) (by simp))
set_option maxHeartbeats 8000000 in
theorem c_KeptIntLists (Q : List (List Int)) (hQl : Q.length ≤ 1048576) (hr : ∀ r ∈ Q, r.length ≤ 1048576) : PC 124 [hQ Q, .vec (rows2V Q) Q.length] (.bool true) := by
  have ra : (rows2V Q).length = Q.length := rows2V_len
  have rh := hRows_len (Q := Q)
  unfold hQ
  refine pB Tryz.func124 rfl (by decide) Tryz.ntmps124 (by simp) Tryz.results124 ?_
  repeat' (first
 |refine aK fun K hK=>?_|refine Step.by1 ?_|refine sE (by decide) ?_|refine cz rfl ?_|refine Fork.by2 (fun h=>?_) fun h=>?_
 |(refine aR ?_;simp [ra, rh])
 |(refine Split.by2 (fun h=>?_) (fun h=>?_)<;>(simp [h, ra, rh]))
 |(apply hK;clear hK K)|refine AWh ‹_› ?_)
  refine aL [0, 1] (fun i : Nat => [(5, .int .i64 i)]) (fun _ => []) (fun i => i ≤ Q.length) (fun i => Q.length - i) 0 (Nat.zero_le _) (by apply Weak.mk' <;> simp) (fun _ _ => rfl) ?_
  intro i hi
  by_cases hlt : i < Q.length
  · obtain ⟨r, hrr⟩ : ∃ r, Q[i] = r := ⟨_, rfl⟩
    have hr? : Q[i]? = some r := by rw [List.getElem?_eq_getElem hlt, hrr]
    have hlt' : (i : Int) < Q.length := by omega
    have w1 : IntKind.i64.wrap ((i : Int) + 1) = i + 1 := wI (by omega) (by omega)
    have hc : PC 184 [hI r, .vec (ivs r) r.length] (.bool true) := c_KeptInts r (by have := hr r (List.mem_of_getElem? hr?); omega)
    have a2 := rows2V_get hr?
    have a3 : (rows2V Q)[i]'(by rw [rows2V_len]; exact hlt) = [V.vec (ivs r) r.length] := by have hz := a2; rw [List.getElem?_eq_getElem (by rw [rows2V_len]; exact hlt)] at hz; exact Option.some.inj hz
    have b2 := hRows_get hr?
    have b3 : (hRows Q)[i]'(by rw [hRows_len]; exact hlt) = [hI r] := by have hz := b2; rw [List.getElem?_eq_getElem (by rw [hRows_len]; exact hlt)] at hz; exact Option.some.inj hz
    unfold hI handV at hc b2 b3
    generalize (List.map (fun k : Int => [V.int .i64 k]) r ++ (List.range 9).map markInts) = X at *
    repeat' (first
 |refine aK fun K hK=>?_|refine Step.by1 ?_|refine sE (by decide) ?_|refine cz rfl ?_|refine Fork.by2 (fun h=>?_) fun h=>?_
 |((first|refine aR ?_|refine aX (id:=6) 9 mixed (by decide) ?_|refine aP1 (f:=184) rfl rfl (hc) rfl rfl rfl ?_);simp [hlt, hlt', a2, a3, b2, b3, ra, rh, w1])
 |(refine Split.by2 (fun h=>?_) (fun h=>?_)<;>(simp [h, hlt, hlt', a2, a3, b2, b3, ra, rh, w1]))
 |(apply hK;clear hK K)|refine AWh ‹_› ?_)
    refine ⟨i + 1, by omega, by omega, ?_⟩
    apply Weak.mk' <;> simp
  · obtain rfl : i = Q.length := by omega
    repeat' (first
 |refine aK fun K hK=>?_|refine Step.by1 ?_|refine sE (by decide) ?_|refine cz rfl ?_|refine Fork.by2 (fun h=>?_) fun h=>?_
 |(refine aR ?_;simp)
 |(refine Split.by2 (fun h=>?_) (fun h=>?_)<;>(simp [h]))
 |(apply hK;clear hK K)|refine AWh ‹_› ?_)
    exact r1q (cE rfl rfl)
set_option maxHeartbeats 8000000 in
theorem c_KeptPlan (p : PlanD) (hp : p.ok) : PC 52 [.agg p.hcells, .agg p.cells] (.bool true) := by
  have l1 := hp.1.1
  have l2 := hp.2.1
  have ra := rows3V_len (P := p.lo)
  have rb := rows3V_len (P := p.up)
  have rc := hHalf_len (P := p.lo)
  have rd := hHalf_len (P := p.up)
  simp only [PlanD.hcells, PlanD.cells, hP, halfV]
  refine pB Tryz.func52 rfl (by decide) Tryz.ntmps52 (by simp) Tryz.results52 ?_
  repeat' (first
 |refine aK fun K hK=>?_|refine Step.by1 ?_|refine sE (by decide) ?_|refine cz rfl ?_|refine Fork.by2 (fun h=>?_) fun h=>?_
 |(refine aR ?_;simp [ra, rb, rc, rd])
 |(refine Split.by2 (fun h=>?_) (fun h=>?_)<;>(simp [h, ra, rb, rc, rd]))
 |(apply hK;clear hK K)|refine AWh ‹_› ?_)
  refine aL [2, 3] (fun i : Nat => [(5, .int .i64 i)]) (fun _ => [.var [.vec (hHalf p.lo) p.lo.length, .vec (hHalf p.up) p.up.length], .var [.vec (rows3V p.lo) p.lo.length, .vec (rows3V p.up) p.up.length]]) (fun i => i ≤ p.lo.length) (fun i => p.lo.length - i) 0 (Nat.zero_le _) (by apply Weak.mk' <;> simp) (fun _ _ => rfl) ?_
  intro i hi
  by_cases hlt : i < p.lo.length
  · obtain ⟨Q, hQQ⟩ : ∃ Q, p.lo[i] = Q := ⟨_, rfl⟩
    have hQ? : p.lo[i]? = some Q := by rw [List.getElem?_eq_getElem hlt, hQQ]
    have hlt' : (i : Int) < p.lo.length := by omega
    have w1 : IntKind.i64.wrap ((i : Int) + 1) = i + 1 := wI (by omega) (by omega)
    obtain ⟨k1, k2⟩ := hp.1.2 Q (List.mem_of_getElem? hQ?)
    have hc := c_KeptIntLists Q k1 k2
    have a2 := rows3V_get hQ?
    have a3 : (rows3V p.lo)[i]'(by rw [rows3V_len]; exact hlt) = [V.vec (rows2V Q) Q.length] := by have hz := a2; rw [List.getElem?_eq_getElem (by rw [rows3V_len]; exact hlt)] at hz; exact Option.some.inj hz
    have b2 := hHalf_get hQ?
    have b3 : (hHalf p.lo)[i]'(by rw [hHalf_len]; exact hlt) = [hQ Q] := by have hz := b2; rw [List.getElem?_eq_getElem (by rw [hHalf_len]; exact hlt)] at hz; exact Option.some.inj hz
    unfold hQ at hc b2 b3
    repeat' (first
 |refine aK fun K hK=>?_|refine Step.by1 ?_|refine sE (by decide) ?_|refine cz rfl ?_|refine Fork.by2 (fun h=>?_) fun h=>?_
 |((first|refine aR ?_|refine aX (id:=6) 11 mixed (by decide) ?_|refine aP1 (f:=124) rfl rfl (hc) rfl rfl rfl ?_);simp [hlt, hlt', a2, a3, b2, b3, ra, rb, rc, rd, w1])
 |(refine Split.by2 (fun h=>?_) (fun h=>?_)<;>(simp [h, hlt, hlt', a2, a3, b2, b3, ra, rb, rc, rd, w1]))
 |(apply hK;clear hK K)|refine AWh ‹_› ?_)
    refine ⟨i + 1, by omega, by omega, ?_⟩
    apply Weak.mk' <;> simp
  · obtain rfl : i = p.lo.length := by omega
    repeat' (first
 |refine aK fun K hK=>?_|refine Step.by1 ?_|refine sE (by decide) ?_|refine cz rfl ?_|refine Fork.by2 (fun h=>?_) fun h=>?_
 |(refine aR ?_;simp)
 |(refine Split.by2 (fun h=>?_) (fun h=>?_)<;>(simp [h]))
 |(apply hK;clear hK K)|refine AWh ‹_› ?_)
    refine aL [2, 3] (fun i : Nat => [(6, .int .i64 i)]) (fun _ => [.var [.vec (hHalf p.lo) p.lo.length, .vec (hHalf p.up) p.up.length], .var [.vec (rows3V p.lo) p.lo.length, .vec (rows3V p.up) p.up.length]]) (fun i => i ≤ p.up.length) (fun i => p.up.length - i) 0 (Nat.zero_le _) (by apply Weak.mk' <;> simp) (fun _ _ => rfl) ?_
    intro i hi
    by_cases hlt : i < p.up.length
    · obtain ⟨Q, hQQ⟩ : ∃ Q, p.up[i] = Q := ⟨_, rfl⟩
      have hQ? : p.up[i]? = some Q := by rw [List.getElem?_eq_getElem hlt, hQQ]
      have hlt' : (i : Int) < p.up.length := by omega
      have w1 : IntKind.i64.wrap ((i : Int) + 1) = i + 1 := wI (by omega) (by omega)
      obtain ⟨k1, k2⟩ := hp.2.2 Q (List.mem_of_getElem? hQ?)
      have hc := c_KeptIntLists Q k1 k2
      have a2 := rows3V_get hQ?
      have a3 : (rows3V p.up)[i]'(by rw [rows3V_len]; exact hlt) = [V.vec (rows2V Q) Q.length] := by have hz := a2; rw [List.getElem?_eq_getElem (by rw [rows3V_len]; exact hlt)] at hz; exact Option.some.inj hz
      have b2 := hHalf_get hQ?
      have b3 : (hHalf p.up)[i]'(by rw [hHalf_len]; exact hlt) = [hQ Q] := by have hz := b2; rw [List.getElem?_eq_getElem (by rw [hHalf_len]; exact hlt)] at hz; exact Option.some.inj hz
      unfold hQ at hc b2 b3
      repeat' (first
 |refine aK fun K hK=>?_|refine Step.by1 ?_|refine sE (by decide) ?_|refine cz rfl ?_|refine Fork.by2 (fun h=>?_) fun h=>?_
 |((first|refine aR ?_|refine aX (id:=11) 11 mixed (by decide) ?_|refine aP1 (f:=124) rfl rfl (hc) rfl rfl rfl ?_);simp [hlt, hlt', a2, a3, b2, b3, ra, rb, rc, rd, w1])
 |(refine Split.by2 (fun h=>?_) (fun h=>?_)<;>(simp [h, hlt, hlt', a2, a3, b2, b3, ra, rb, rc, rd, w1]))
 |(apply hK;clear hK K)|refine AWh ‹_› ?_)
      refine ⟨i + 1, by omega, by omega, ?_⟩
      apply Weak.mk' <;> simp
    · obtain rfl : i = p.up.length := by omega
      repeat' (first
 |refine aK fun K hK=>?_|refine Step.by1 ?_|refine sE (by decide) ?_|refine cz rfl ?_|refine Fork.by2 (fun h=>?_) fun h=>?_
 |(refine aR ?_;simp)
 |(refine Split.by2 (fun h=>?_) (fun h=>?_)<;>(simp [h]))
 |(apply hK;clear hK K)|refine AWh ‹_› ?_)
      exact r1q (cE rfl rfl)
end Go.Proofs.YtgmlimipejcpgaaGreatDoor
end
section
set_option linter.unusedVariables false
set_option linter.unusedSimpArgs false
namespace Go.AM
section
variable {P : Program} {ge : GEnv} {st : St} {Q : Exit → St → Prop} {G : Gh} {w : World}
theorem RH.swap {h : List B} (rh : RH P ge G h w) {b : Nat} {x y : B} (hx : h[b]? = some x) (hy : RB P G w b y) (ha : G.at b y = G.at b x) : RH P ge G (h.set b y) w ∧ Ext G h w G (h.set b y) w := by
  have hb : b < h.length := (List.getElem?_eq_some_iff.1 hx).1
  have part : ∀ {b' z}, (h.set b y)[b']? = some z → (b' = b ∧ z = y) ∨ (b' ≠ b ∧ h[b']? = some z) := fun {b' z} hz => by
    rw [List.getElem?_set] at hz
    split at hz
    · rename_i e
      first | (subst e; rw [if_pos hb] at hz; cases hz; exact .inl ⟨rfl, rfl⟩) | (subst e; cases hz; exact .inl ⟨rfl, rfl⟩)
    · rename_i e; exact .inr ⟨fun e' => e e'.symm, hz⟩
  have old : ∀ {b' z}, (h.set b y)[b']? = some z → ∃ z', h[b']? = some z' ∧ G.at b' z' = G.at b' z := fun {b' z} hz => by
    rcases part hz with ⟨rfl, rfl⟩ | ⟨_, hz⟩
    · exact ⟨x, hx, ha.symm⟩
    · exact ⟨z, hz, rfl⟩
  refine ⟨⟨by rw [List.length_set]; exact rh.n, fun b' z hz => ?_, fun b1 b2 z1 z2 k h1 h2 e1 e2 => ?_, rh.fzlt, rh.ge⟩, ⟨.refl _ _, Nat.le_refl _, fun _ _ _ => ⟨rfl, rfl⟩, fun b' z k hz hk => ?_, rfl, ⟨rfl, rfl⟩⟩⟩
  · rcases part hz with ⟨rfl, rfl⟩ | ⟨_, hz⟩
    · exact hy
    · exact rh.bl b' z hz
  · obtain ⟨y1, o1, a1⟩ := old h1
    obtain ⟨y2, o2, a2⟩ := old h2
    exact rh.inj b1 b2 y1 y2 k o1 o2 (a1.trans e1) (a2.trans e2)
  · obtain ⟨y1, o1, a1⟩ := old hz
    exact .inr ⟨b', y1, o1, a1.trans hk⟩
theorem AW_flat {c : Code} (b0 : Nat) {T : TypeId} {g f : Nat} {rows : List (List V)} (h0 : st.h[b0]? = some (.row T g f false rows)) (hF : ∀ x ∈ rows, ∀ v ∈ x, V.isF v = true)
    (h : AW P ge c Q { st with h := st.h.set b0 (.row T g f true rows) }) : AW P ge c Q st := by
  intro G a w hr
  obtain ⟨q1, q2, q3, hrow⟩ := hr.rh.bl b0 _ h0
  obtain ⟨rh2, x2⟩ := hr.rh.swap (y := .row T g f true rows) h0 ⟨q1, q2, q3, by
    rcases hrow with hn | ⟨k, arr, hm, hh, r1, r2, r3, r4, r5, hcells⟩
    · exact .inl hn
    · exact .inr ⟨k, arr, hm, hh, r1, r2, r3, r4, r5, fun i x j v hx hv => ⟨(hcells i x j v hx hv).1, (hcells i x j v hx hv).2.frozen (hF x (List.mem_of_getElem? hx) v (List.mem_of_getElem? hv))⟩⟩⟩ rfl
  exact wp_mono (h G a w ⟨rh2, hr.tm, hr.n, hr.d⟩) fun _ _ _ hp => hp.mono x2 fun _ _ h => h
end
end Go.AM
namespace Go.AM
section
variable {P : Program} {ge : GEnv} {st : St} {Q : Exit → St → Prop}
/-- An empty row may be told as one that is not flat. -/
theorem AW_unflat {c : Code} (b0 : Nat) {T : TypeId} {g f : Nat} (h0 : st.h[b0]? = some (.row T g f true [])) (h : AW P ge c Q { st with h := st.h.set b0 (.row T g f false []) }) : AW P ge c Q st := by
  intro G a w hr
  obtain ⟨q1, q2, q3, hrow⟩ := hr.rh.bl b0 _ h0
  obtain ⟨rh2, x2⟩ := hr.rh.swap (y := .row T g f false []) h0 ⟨q1, q2, q3, by
    rcases hrow with hn | ⟨k, arr, hm, hh, r1, r2, r3, r4, r5, hcells⟩
    · exact .inl hn
    · exact .inr ⟨k, arr, hm, hh, r1, r2, r3, r4, r5, fun i x j v hx hv => by simp at hx⟩⟩ rfl
  exact wp_mono (h G a w ⟨rh2, hr.tm, hr.n, hr.d⟩) fun _ _ _ hp => hp.mono x2 fun _ _ h => h
end
end Go.AM
end
