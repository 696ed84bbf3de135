/-
  YtgmlimipejcpgaaGreatDoorCo32: steps of the proof of a law of the program: what these texts prove holds under the hypotheses that their theorems name, and no others.
-/
import Derived.Test.YtgmlimipejcpgaaGreatDoorCo31
section
set_option linter.unusedSimpArgs false
set_option linter.unusedVariables false
namespace Go.Proofs.YtgmlimipejcpgaaGreatDoor
open Go Go.AM Fx
def smallA : AutoD := smallN.autos.getD 0 default
theorem look_small : lookE smallN [] = 0 := by simp [lookE, net_small, lookF]
theorem act_small0 : actB smallA [] 1 0 = true := by
  simp only [actB, decide_eq_true_eq]
  exact .use (by decide) (by kernel_rfl)
theorem act_small1 : actB smallA [] 1 1 = false := by
  simp only [actB, decide_eq_false_iff_not]
  intro h
  generalize hi : 1 = i at h
  cases h with
  | use hi2 h => subst hi; revert h; decide
  | @edge e he _ _ =>
    simp [smallA, smallN] at he
    subst he
    simp at hi
theorem clks_small0 : clksL smallN 0 0 [] = [1] ∧ clksE smallN 0 0 [] = 0 := by
  have h : ¬ badLoc smallN 0 0 := by unfold badLoc; decide
  have ha := act_small0
  refine ⟨?_, by simp [clksE, look_small, h]⟩
  simp only [clksL, look_small, h, if_false, ne_eq, not_true_eq_false]
  show actL smallA [] 0 (0 + 1) = [1]
  rw [actL_succ, if_pos (by simpa using ha)]; rfl
theorem clks_small1 : clksL smallN 0 1 [] = [] ∧ clksE smallN 0 1 [] = 0 := by
  have h : ¬ badLoc smallN 0 1 := by unfold badLoc; decide
  have ha := act_small1
  refine ⟨?_, by simp [clksE, look_small, h]⟩
  simp only [clksL, look_small, h, if_false, ne_eq, not_true_eq_false]
  show actL smallA [] 1 (0 + 1) = []
  rw [actL_succ, if_neg (by simpa using ha)]; rfl
theorem GuardD_eq (x y : GuardD) : x = y ↔ (x.clock = y.clock ∧ x.other = y.other ∧ x.cmp = y.cmp ∧ x.n = y.n) := by cases x; cases y; simp
set_option maxHeartbeats 2000000 in
theorem c_SameGuards (a b : List GuardD) (ha : a.length ≤ 1099511627776) : PC 143 [vl GuardD.cells a, vl GuardD.cells b] (.bool (decide (a = b))) := by
  refine pB Tryz.func143 rfl (by decide) Tryz.ntmps143 (by simp) Tryz.results143 ?_
  by_cases hab : a.length = b.length
  · have hab' : (a.length : Int) = b.length := by omega
    repeat' (first
 |refine aK fun K hK=>?_|refine Step.by1 ?_|refine sE (by decide) ?_|refine cz rfl ?_|refine Fork.by2 (fun h=>?_) fun h=>?_
 |(refine aR ?_;simp [vl, hab'])
 |(refine Split.by2 (fun h=>?_) (fun h=>?_)<;>(simp [h, vl, hab']))
 |(apply hK;clear hK K)|refine AWh ‹_› ?_)
    refine aL [0, 1] (fun i : Nat => [(5, .int .i64 i)]) (fun _ => []) (fun i => i ≤ a.length ∧ a.take i = b.take i) (fun i => a.length - i) 0 ⟨Nat.zero_le _, rfl⟩ (by apply Weak.mk' <;> simp) (fun _ _ => rfl) ?_
    intro i hi
    by_cases hlt : i < a.length
    · have hlb : i < b.length := by omega
      have hne : a[i] ≠ b[i] → a ≠ b := fun h e => h (by subst e; rfl)
      have hsucc := fun h => take_same hi.2 hlt hlb h
      obtain ⟨x, hx⟩ : ∃ x, a[i] = x := ⟨_, rfl⟩
      obtain ⟨y, hy⟩ : ∃ y, b[i] = y := ⟨_, rfl⟩
      rw [hx, hy] at hne hsucc
      rw [ne_eq, GuardD_eq] at hne
      rw [GuardD_eq] at hsucc
      repeat' (first
 |refine aK fun K hK=>?_|refine Step.by1 ?_|refine sE (by decide) ?_|refine cz rfl ?_|refine Fork.by2 (fun h=>?_) fun h=>?_
 |((first|refine aR ?_|refine aX (id:=6) 9 mixed (by decide) ?_);simp [vl, hlt, hlb, hx, hy, GuardD.cells, wI];try (simp (disch:=omega) only [wI];try simp [vl, hlt, hlb, hx, hy, GuardD.cells, wI]))
 |(refine Split.by2 (fun h=>?_) (fun h=>?_)<;>(simp [h, vl, hlt, hlb, hx, hy, GuardD.cells, wI];try (simp (disch:=omega) only [wI];try simp [vl, hlt, hlb, hx, hy, GuardD.cells, wI])))
 |(apply hK;clear hK K)|refine AWh ‹_› ?_)
      all_goals first
        | exact r1q (cE (by simp; exact hne (by first | exact h | (simp at h; intro he; simp [he] at h))) rfl)
        | (refine ⟨i + 1, ⟨by omega, hsucc (by first | exact h | (simp at h; simp [h]))⟩, by omega, ?_⟩; apply Weak.mk' <;> simp [vl])
    · have hie : i = a.length := by omega
      subst hie
      have he : a = b := take_end hi.2 hab
      repeat' (first
 |refine aK fun K hK=>?_|refine Step.by1 ?_|refine sE (by decide) ?_|refine cz rfl ?_|refine Fork.by2 (fun h=>?_) fun h=>?_
 |(refine aR ?_;simp [vl, hlt])
 |(refine Split.by2 (fun h=>?_) (fun h=>?_)<;>(simp [h, vl, hlt]))
 |(apply hK;clear hK K)|refine AWh ‹_› ?_)
      exact r1q (cE (by simp [he]) rfl)
  · have hab' : ¬ (a.length : Int) = b.length := by omega
    have he : ¬ a = b := fun h => hab (by rw [h])
    repeat' (first
 |refine aK fun K hK=>?_|refine Step.by1 ?_|refine sE (by decide) ?_|refine cz rfl ?_|refine Fork.by2 (fun h=>?_) fun h=>?_
 |(refine aR ?_;simp [vl, hab'])
 |(refine Split.by2 (fun h=>?_) (fun h=>?_)<;>(simp [h, vl, hab']))
 |(apply hK;clear hK K)|refine AWh ‹_› ?_)
    exact r1q (cE (by simp [he]) rfl)
def markGuards (j : Nat) : List V := [.int .i64 0, .int .i64 0, .int .u8 0, .int .i64 (-700 - (j : Int))]
set_option maxHeartbeats 2000000 in
theorem c_HandGuards (l : List GuardD) (hl : l.length ≤ 1099511627776) : PC 56 [vl GuardD.cells l] (handV GuardD.cells markGuards l) := by
  have w9 : IntKind.i64.wrap ((l.length : Int) + 9) = (l.length : Int) + 9 := wI (by omega) (by omega)
  have t9 : ((l.length : Int) + 9).toNat = l.length + 9 := by omega
  have n9 : ((l.length : Int) + 9) * 32 ≤ 281474976710656 := by omega
  have hz : (0 : Int) ≤ (l.length : Int) + 9 := by omega
  refine pB Tryz.func56 rfl (by decide) Tryz.ntmps56 (by simp) Tryz.results56 ?_
  repeat' (first
 |refine aK fun K hK=>?_|refine Step.by1 ?_|refine sE (by decide) ?_|refine cz rfl ?_|refine Fork.by2 (fun h=>?_) fun h=>?_
 |(refine aR ?_;simp [vl, w9, n9, hz, t9])
 |(refine Split.by2 (fun h=>?_) (fun h=>?_)<;>(simp [h, vl, w9, n9, hz, t9]))
 |(apply hK;clear hK K)|refine AWh ‹_› ?_)
  refine aL [0, 3] (fun i : Nat => [(4, .int .i64 i)]) (fun i => [.row 127 0 0 true (fillR (handF GuardD.cells markGuards l) [.int .i64 0, .int .i64 0, .int .u8 0, .int .i64 0] (l.length + 9) i)]) (fun i => i ≤ l.length) (fun i => l.length - i) 0 (Nat.zero_le _) (by apply Weak.mk' <;> simp [vl, fillR, t9]) (fun _ _ => rfl) ?_
  intro i hi
  by_cases hlt : i < l.length
  · have hlt9 : i < l.length + 9 := by omega
    have hlt8 : (i : Int) < l.length + 9 := by omega
    have hset := fillR_set (f := handF GuardD.cells markGuards l) (z := [.int .i64 0, .int .i64 0, .int .u8 0, .int .i64 0]) hlt9
    have hlen := fillR_len (f := handF GuardD.cells markGuards l) (z := [.int .i64 0, .int .i64 0, .int .u8 0, .int .i64 0]) (n := l.length + 9) (i := i) (by omega)
    have hget := fillR_get (f := handF GuardD.cells markGuards l) (z := [.int .i64 0, .int .i64 0, .int .u8 0, .int .i64 0]) hlt9
    rw [handF_in hlt] at hset
    obtain ⟨x, hx⟩ : ∃ x, l[i] = x := ⟨_, rfl⟩
    rw [hx] at hset
    generalize fillR (handF GuardD.cells markGuards l) [.int .i64 0, .int .i64 0, .int .u8 0, .int .i64 0] (l.length + 9) i = row at *
    have hrl : i < row.length := by omega
    have hri : row[i] = [.int .i64 0, .int .i64 0, .int .u8 0, .int .i64 0] := by rw [List.getElem?_eq_getElem hrl] at hget; exact Option.some.inj hget
    repeat' (first
 |refine aK fun K hK=>?_|refine Step.by1 ?_|refine sE (by decide) ?_|refine cz rfl ?_|refine Fork.by2 (fun h=>?_) fun h=>?_
 |(refine aR ?_;simp [vl, hlt, hlt9, hlt8, t9, hrl, hri, hx, hlen, GuardD.cells, wI];try (simp (disch:=omega) only [wI];try simp [vl, hlt, hlt9, hlt8, t9, hrl, hri, hx, hlen, GuardD.cells, wI]))
 |(refine Split.by2 (fun h=>?_) (fun h=>?_)<;>(simp [h, vl, hlt, hlt9, hlt8, t9, hrl, hri, hx, hlen, GuardD.cells, wI];try (simp (disch:=omega) only [wI];try simp [vl, hlt, hlt9, hlt8, t9, hrl, hri, hx, hlen, GuardD.cells, wI])))
 |(apply hK;clear hK K)|refine AWh ‹_› ?_)
    refine ⟨i + 1, by omega, by omega, ?_⟩
    apply Weak.mk' <;> simp [vl]
    simpa [GuardD.cells] using hset
  · have hie : i = l.length := by omega
    subst hie
    repeat' (first
 |refine aK fun K hK=>?_|refine Step.by1 ?_|refine sE (by decide) ?_|refine cz rfl ?_|refine Fork.by2 (fun h=>?_) fun h=>?_
 |(refine aR ?_;simp [vl, hlt])
 |(refine Split.by2 (fun h=>?_) (fun h=>?_)<;>(simp [h, vl, hlt]))
 |(apply hK;clear hK K)|refine AWh ‹_› ?_)
    refine aL [0, 3] (fun j : Nat => [(5, .int .i64 (l.length + j : Nat))]) (fun j => [.row 127 0 0 true (fillR (handF GuardD.cells markGuards l) [.int .i64 0, .int .i64 0, .int .u8 0, .int .i64 0] (l.length + 9) (l.length + j))]) (fun j => j ≤ 9) (fun j => 9 - j) 0 (Nat.zero_le _) (by apply Weak.mk' <;> simp [vl]) (fun _ _ => rfl) ?_
    intro j hj
    by_cases hjt : j < 9
    · have hlt9 : l.length + j < l.length + 9 := by omega
      have hset := fillR_set (f := handF GuardD.cells markGuards l) (z := [.int .i64 0, .int .i64 0, .int .u8 0, .int .i64 0]) hlt9
      have hlen := fillR_len (f := handF GuardD.cells markGuards l) (z := [.int .i64 0, .int .i64 0, .int .u8 0, .int .i64 0]) (n := l.length + 9) (i := l.length + j) (by omega)
      have hget := fillR_get (f := handF GuardD.cells markGuards l) (z := [.int .i64 0, .int .i64 0, .int .u8 0, .int .i64 0]) hlt9
      rw [handF_out] at hset
      rw [show l.length + j + 1 = l.length + (j + 1) by omega] at hset
      generalize fillR (handF GuardD.cells markGuards l) [.int .i64 0, .int .i64 0, .int .u8 0, .int .i64 0] (l.length + 9) (l.length + j) = row at *
      have hrl : l.length + j < row.length := by omega
      have hri : row[l.length + j] = [.int .i64 0, .int .i64 0, .int .u8 0, .int .i64 0] := by rw [List.getElem?_eq_getElem hrl] at hget; exact Option.some.inj hget
      have hle : (l.length : Int) + j ≤ 1099511627785 := by omega
      have w1 : IntKind.i64.wrap (-700 - ((l.length : Int) + j)) = -700 - ((l.length : Int) + j) := wI (by omega) (by omega)
      have w2 : IntKind.i64.wrap (-700 - ((l.length : Int) + j) + l.length) = -700 - (j : Int) := by rw [wI (by omega) (by omega)]; omega
      have w3 : IntKind.i64.wrap ((l.length : Int) + j + 1) = (l.length : Int) + j + 1 := wI (by omega) (by omega)
      have hjn : ((l.length : Int) + j).toNat = l.length + j := by omega
      have hj0 : (0 : Int) ≤ (l.length : Int) + j := by omega
      have hj1 : (l.length : Int) + j < (l.length : Int) + 9 := by omega
      have hjt' : (j : Int) < 9 := by omega
      repeat' (first
 |refine aK fun K hK=>?_|refine Step.by1 ?_|refine sE (by decide) ?_|refine cz rfl ?_|refine Fork.by2 (fun h=>?_) fun h=>?_
 |(refine aR ?_;simp [vl, hlt9, hrl, hri, hlen, w1, w2, w3, hjn, hj0, hj1, hjt', hjt, t9])
 |(refine Split.by2 (fun h=>?_) (fun h=>?_)<;>(simp [h, vl, hlt9, hrl, hri, hlen, w1, w2, w3, hjn, hj0, hj1, hjt', hjt, t9]))
 |(apply hK;clear hK K)|refine AWh ‹_› ?_)
      refine ⟨j + 1, by omega, by omega, ?_⟩
      apply Weak.mk' <;> simp [vl]
      · omega
      · simpa [markGuards] using hset
    · have hje : j = 9 := by omega
      subst hje
      have hfin : fillR (handF GuardD.cells markGuards l) [.int .i64 0, .int .i64 0, .int .u8 0, .int .i64 0] (l.length + 9) (l.length + 9) = l.map GuardD.cells ++ (List.range 9).map markGuards := by unfold fillR; rw [range_hand]; simp
      rw [hfin]
      repeat' (first
 |refine aK fun K hK=>?_|refine Step.by1 ?_|refine sE (by decide) ?_|refine cz rfl ?_|refine Fork.by2 (fun h=>?_) fun h=>?_
 |(refine aR ?_;simp [vl, t9])
 |(refine Split.by2 (fun h=>?_) (fun h=>?_)<;>(simp [h, vl, t9]))
 |(apply hK;clear hK K)|refine AWh ‹_› ?_)
      exact r1q (.inl ⟨1, by simp [handV], rfl⟩)
theorem trims_GuardD (x : GuardD) : V.trims (GuardD.cells x) = GuardD.cells x := trims_map _ (by simp [GuardD.cells, V.trim])
theorem trim_handGuards (l : List GuardD) : (handV GuardD.cells markGuards l).trim = vl GuardD.cells l := trim_pad _ fun x _ => trims_GuardD x
theorem trim_vlGuards (l : List GuardD) : (vl GuardD.cells l).trim = vl GuardD.cells l := trim_vl fun x _ => trims_GuardD x
set_option maxHeartbeats 2000000 in
theorem c_KeptGuards (l : List GuardD) (hl : l.length ≤ 1099511627776) : PC 72 [handV GuardD.cells markGuards l, vl GuardD.cells l] (.bool true) := by
  have hs := (c_SameGuards l l hl).trim (args := [handV GuardD.cells markGuards l, vl GuardD.cells l]) (by simp only [V.trims, trim_handGuards, trim_vlGuards])
  have w9 : IntKind.i64.wrap ((l.length : Int) + 9) = (l.length : Int) + 9 := wI (by omega) (by omega)
  have t9 : ((l.length : Int) + 9).toNat = l.length + 9 := by omega
  have hz : (0 : Int) ≤ (l.length : Int) + 9 := by omega
  obtain ⟨row, hrow⟩ : ∃ row, l.map GuardD.cells ++ (List.range 9).map markGuards = row := ⟨_, rfl⟩
  have hlen : row.length = l.length + 9 := by rw [← hrow]; simp
  have hall : ∀ x ∈ row, x.length = 4 := fun x hx => by
    rw [← hrow] at hx
    rcases List.mem_append.1 hx with h | h
    · obtain ⟨y, _, rfl⟩ := List.mem_map.1 h; rfl
    · obtain ⟨y, _, rfl⟩ := List.mem_map.1 h; rfl
  have hget : ∀ j, j < 9 → row[l.length + j]? = some (markGuards j) := fun j hj => by
    rw [← hrow, List.getElem?_append_right (by simp), List.length_map, Nat.add_sub_cancel_left, List.getElem?_map, List.getElem?_range hj]; rfl
  simp only [handV, hrow, vl, decide_true] at hs
  unfold handV
  rw [hrow]
  refine pB Tryz.func72 rfl (by decide) Tryz.ntmps72 (by simp) Tryz.results72 ?_
  repeat' (first
 |refine aK fun K hK=>?_|refine Step.by1 ?_|refine sE (by decide) ?_|refine cz rfl ?_|refine Fork.by2 (fun h=>?_) fun h=>?_
 |((first|refine aR ?_|refine aC (f:=143) rfl rfl (hs) rfl rfl rfl ?_);simp [vl, w9, t9, hz, hlen])
 |(refine Split.by2 (fun h=>?_) (fun h=>?_)<;>(simp [h, vl, w9, t9, hz, hlen]))
 |refine And.intro hall ?_
 |(apply hK;clear hK K)|refine AWh ‹_› ?_)
  refine aL [1, 5] (fun j : Nat => [(6, .int .i64 (l.length + j : Nat))]) (fun _ => []) (fun j => j ≤ 9) (fun j => 9 - j) 0 (Nat.zero_le _) (by apply Weak.mk' <;> simp [vl]) (fun _ _ => rfl) ?_
  intro j hj
  by_cases hjt : j < 9
  · have hm := hget j hjt
    have hrl : l.length + j < row.length := by omega
    have hri : row[l.length + j] = markGuards j := by rw [List.getElem?_eq_getElem hrl] at hm; exact Option.some.inj hm
    have w1 : IntKind.i64.wrap (-700 - ((l.length : Int) + j)) = -700 - ((l.length : Int) + j) := wI (by omega) (by omega)
    have w2 : IntKind.i64.wrap (-700 - ((l.length : Int) + j) + l.length) = -700 - (j : Int) := by rw [wI (by omega) (by omega)]; omega
    have w3 : IntKind.i64.wrap ((l.length : Int) + j + 1) = (l.length : Int) + j + 1 := wI (by omega) (by omega)
    have hjn : ((l.length : Int) + j).toNat = l.length + j := by omega
    have hj0 : (0 : Int) ≤ (l.length : Int) + j := by omega
    have hj1 : (l.length : Int) + j < (l.length : Int) + 9 := by omega
    have hjt' : (j : Int) < 9 := by omega
    repeat' (first
 |refine aK fun K hK=>?_|refine Step.by1 ?_|refine sE (by decide) ?_|refine cz rfl ?_|refine Fork.by2 (fun h=>?_) fun h=>?_
 |(refine aR ?_;simp [vl, hrl, hri, hlen, w1, w2, w3, hjn, hj0, hj1, hjt', hjt, t9, markGuards])
 |(refine Split.by2 (fun h=>?_) (fun h=>?_)<;>(simp [h, vl, hrl, hri, hlen, w1, w2, w3, hjn, hj0, hj1, hjt', hjt, t9, markGuards]))
 |(apply hK;clear hK K)|refine AWh ‹_› ?_)
    refine ⟨j + 1, by omega, by omega, ?_⟩
    apply Weak.mk' <;> simp [vl]
    omega
  · have hje : j = 9 := by omega
    subst hje
    repeat' (first
 |refine aK fun K hK=>?_|refine Step.by1 ?_|refine sE (by decide) ?_|refine cz rfl ?_|refine Fork.by2 (fun h=>?_) fun h=>?_
 |(refine aR ?_;simp [vl, t9])
 |(refine Split.by2 (fun h=>?_) (fun h=>?_)<;>(simp [h, vl, t9]))
 |(apply hK;clear hK K)|refine AWh ‹_› ?_)
    exact r1q (cE rfl rfl)
theorem NodeD_eq (x y : NodeD) : x = y ↔ (x.op = y.op ∧ x.n = y.n) := by cases x; cases y; simp
set_option maxHeartbeats 2000000 in
theorem c_SameNodes (a b : List NodeD) (ha : a.length ≤ 1099511627776) : PC 144 [vl NodeD.cells a, vl NodeD.cells b] (.bool (decide (a = b))) := by
  refine pB Tryz.func144 rfl (by decide) Tryz.ntmps144 (by simp) Tryz.results144 ?_
  by_cases hab : a.length = b.length
  · have hab' : (a.length : Int) = b.length := by omega
    repeat' (first
 |refine aK fun K hK=>?_|refine Step.by1 ?_|refine sE (by decide) ?_|refine cz rfl ?_|refine Fork.by2 (fun h=>?_) fun h=>?_
 |(refine aR ?_;simp [vl, hab'])
 |(refine Split.by2 (fun h=>?_) (fun h=>?_)<;>(simp [h, vl, hab']))
 |(apply hK;clear hK K)|refine AWh ‹_› ?_)
    refine aL [0, 1] (fun i : Nat => [(5, .int .i64 i)]) (fun _ => []) (fun i => i ≤ a.length ∧ a.take i = b.take i) (fun i => a.length - i) 0 ⟨Nat.zero_le _, rfl⟩ (by apply Weak.mk' <;> simp) (fun _ _ => rfl) ?_
    intro i hi
    by_cases hlt : i < a.length
    · have hlb : i < b.length := by omega
      have hne : a[i] ≠ b[i] → a ≠ b := fun h e => h (by subst e; rfl)
      have hsucc := fun h => take_same hi.2 hlt hlb h
      obtain ⟨x, hx⟩ : ∃ x, a[i] = x := ⟨_, rfl⟩
      obtain ⟨y, hy⟩ : ∃ y, b[i] = y := ⟨_, rfl⟩
      rw [hx, hy] at hne hsucc
      rw [ne_eq, NodeD_eq] at hne
      rw [NodeD_eq] at hsucc
      repeat' (first
 |refine aK fun K hK=>?_|refine Step.by1 ?_|refine sE (by decide) ?_|refine cz rfl ?_|refine Fork.by2 (fun h=>?_) fun h=>?_
 |((first|refine aR ?_|refine aX (id:=6) 9 mixed (by decide) ?_);simp [vl, hlt, hlb, hx, hy, NodeD.cells, wI];try (simp (disch:=omega) only [wI];try simp [vl, hlt, hlb, hx, hy, NodeD.cells, wI]))
 |(refine Split.by2 (fun h=>?_) (fun h=>?_)<;>(simp [h, vl, hlt, hlb, hx, hy, NodeD.cells, wI];try (simp (disch:=omega) only [wI];try simp [vl, hlt, hlb, hx, hy, NodeD.cells, wI])))
 |(apply hK;clear hK K)|refine AWh ‹_› ?_)
      all_goals first
        | exact r1q (cE (by simp; exact hne (by first | exact h | (simp at h; intro he; simp [he] at h))) rfl)
        | (refine ⟨i + 1, ⟨by omega, hsucc (by first | exact h | (simp at h; simp [h]))⟩, by omega, ?_⟩; apply Weak.mk' <;> simp [vl])
    · have hie : i = a.length := by omega
      subst hie
      have he : a = b := take_end hi.2 hab
      repeat' (first
 |refine aK fun K hK=>?_|refine Step.by1 ?_|refine sE (by decide) ?_|refine cz rfl ?_|refine Fork.by2 (fun h=>?_) fun h=>?_
 |(refine aR ?_;simp [vl, hlt])
 |(refine Split.by2 (fun h=>?_) (fun h=>?_)<;>(simp [h, vl, hlt]))
 |(apply hK;clear hK K)|refine AWh ‹_› ?_)
      exact r1q (cE (by simp [he]) rfl)
  · have hab' : ¬ (a.length : Int) = b.length := by omega
    have he : ¬ a = b := fun h => hab (by rw [h])
    repeat' (first
 |refine aK fun K hK=>?_|refine Step.by1 ?_|refine sE (by decide) ?_|refine cz rfl ?_|refine Fork.by2 (fun h=>?_) fun h=>?_
 |(refine aR ?_;simp [vl, hab'])
 |(refine Split.by2 (fun h=>?_) (fun h=>?_)<;>(simp [h, vl, hab']))
 |(apply hK;clear hK K)|refine AWh ‹_› ?_)
    exact r1q (cE (by simp [he]) rfl)
def markNodes (j : Nat) : List V := [.int .u8 0, .int .i64 (-700 - (j : Int))]
set_option maxHeartbeats 2000000 in
theorem c_HandNodes (l : List NodeD) (hl : l.length ≤ 1099511627776) : PC 57 [vl NodeD.cells l] (handV NodeD.cells markNodes l) := by
  have w9 : IntKind.i64.wrap ((l.length : Int) + 9) = (l.length : Int) + 9 := wI (by omega) (by omega)
  have t9 : ((l.length : Int) + 9).toNat = l.length + 9 := by omega
  have n9 : ((l.length : Int) + 9) * 16 ≤ 281474976710656 := by omega
  have hz : (0 : Int) ≤ (l.length : Int) + 9 := by omega
  refine pB Tryz.func57 rfl (by decide) Tryz.ntmps57 (by simp) Tryz.results57 ?_
  repeat' (first
 |refine aK fun K hK=>?_|refine Step.by1 ?_|refine sE (by decide) ?_|refine cz rfl ?_|refine Fork.by2 (fun h=>?_) fun h=>?_
 |(refine aR ?_;simp [vl, w9, n9, hz, t9])
 |(refine Split.by2 (fun h=>?_) (fun h=>?_)<;>(simp [h, vl, w9, n9, hz, t9]))
 |(apply hK;clear hK K)|refine AWh ‹_› ?_)
  refine aL [0, 3] (fun i : Nat => [(4, .int .i64 i)]) (fun i => [.row 164 0 0 true (fillR (handF NodeD.cells markNodes l) [.int .u8 0, .int .i64 0] (l.length + 9) i)]) (fun i => i ≤ l.length) (fun i => l.length - i) 0 (Nat.zero_le _) (by apply Weak.mk' <;> simp [vl, fillR, t9]) (fun _ _ => rfl) ?_
  intro i hi
  by_cases hlt : i < l.length
  · have hlt9 : i < l.length + 9 := by omega
    have hlt8 : (i : Int) < l.length + 9 := by omega
    have hset := fillR_set (f := handF NodeD.cells markNodes l) (z := [.int .u8 0, .int .i64 0]) hlt9
    have hlen := fillR_len (f := handF NodeD.cells markNodes l) (z := [.int .u8 0, .int .i64 0]) (n := l.length + 9) (i := i) (by omega)
    have hget := fillR_get (f := handF NodeD.cells markNodes l) (z := [.int .u8 0, .int .i64 0]) hlt9
    rw [handF_in hlt] at hset
    obtain ⟨x, hx⟩ : ∃ x, l[i] = x := ⟨_, rfl⟩
    rw [hx] at hset
    generalize fillR (handF NodeD.cells markNodes l) [.int .u8 0, .int .i64 0] (l.length + 9) i = row at *
    have hrl : i < row.length := by omega
    have hri : row[i] = [.int .u8 0, .int .i64 0] := by rw [List.getElem?_eq_getElem hrl] at hget; exact Option.some.inj hget
    repeat' (first
 |refine aK fun K hK=>?_|refine Step.by1 ?_|refine sE (by decide) ?_|refine cz rfl ?_|refine Fork.by2 (fun h=>?_) fun h=>?_
 |(refine aR ?_;simp [vl, hlt, hlt9, hlt8, t9, hrl, hri, hx, hlen, NodeD.cells, wI];try (simp (disch:=omega) only [wI];try simp [vl, hlt, hlt9, hlt8, t9, hrl, hri, hx, hlen, NodeD.cells, wI]))
 |(refine Split.by2 (fun h=>?_) (fun h=>?_)<;>(simp [h, vl, hlt, hlt9, hlt8, t9, hrl, hri, hx, hlen, NodeD.cells, wI];try (simp (disch:=omega) only [wI];try simp [vl, hlt, hlt9, hlt8, t9, hrl, hri, hx, hlen, NodeD.cells, wI])))
 |(apply hK;clear hK K)|refine AWh ‹_› ?_)
    refine ⟨i + 1, by omega, by omega, ?_⟩
    apply Weak.mk' <;> simp [vl]
    simpa [NodeD.cells] using hset
  · have hie : i = l.length := by omega
    subst hie
    repeat' (first
 |refine aK fun K hK=>?_|refine Step.by1 ?_|refine sE (by decide) ?_|refine cz rfl ?_|refine Fork.by2 (fun h=>?_) fun h=>?_
 |(refine aR ?_;simp [vl, hlt])
 |(refine Split.by2 (fun h=>?_) (fun h=>?_)<;>(simp [h, vl, hlt]))
 |(apply hK;clear hK K)|refine AWh ‹_› ?_)
    refine aL [0, 3] (fun j : Nat => [(5, .int .i64 (l.length + j : Nat))]) (fun j => [.row 164 0 0 true (fillR (handF NodeD.cells markNodes l) [.int .u8 0, .int .i64 0] (l.length + 9) (l.length + j))]) (fun j => j ≤ 9) (fun j => 9 - j) 0 (Nat.zero_le _) (by apply Weak.mk' <;> simp [vl]) (fun _ _ => rfl) ?_
    intro j hj
    by_cases hjt : j < 9
    · have hlt9 : l.length + j < l.length + 9 := by omega
      have hset := fillR_set (f := handF NodeD.cells markNodes l) (z := [.int .u8 0, .int .i64 0]) hlt9
      have hlen := fillR_len (f := handF NodeD.cells markNodes l) (z := [.int .u8 0, .int .i64 0]) (n := l.length + 9) (i := l.length + j) (by omega)
      have hget := fillR_get (f := handF NodeD.cells markNodes l) (z := [.int .u8 0, .int .i64 0]) hlt9
      rw [handF_out] at hset
      rw [show l.length + j + 1 = l.length + (j + 1) by omega] at hset
      generalize fillR (handF NodeD.cells markNodes l) [.int .u8 0, .int .i64 0] (l.length + 9) (l.length + j) = row at *
      have hrl : l.length + j < row.length := by omega
      have hri : row[l.length + j] = [.int .u8 0, .int .i64 0] := by rw [List.getElem?_eq_getElem hrl] at hget; exact Option.some.inj hget
      have hle : (l.length : Int) + j ≤ 1099511627785 := by omega
      have w1 : IntKind.i64.wrap (-700 - ((l.length : Int) + j)) = -700 - ((l.length : Int) + j) := wI (by omega) (by omega)
      have w2 : IntKind.i64.wrap (-700 - ((l.length : Int) + j) + l.length) = -700 - (j : Int) := by rw [wI (by omega) (by omega)]; omega
      have w3 : IntKind.i64.wrap ((l.length : Int) + j + 1) = (l.length : Int) + j + 1 := wI (by omega) (by omega)
      have hjn : ((l.length : Int) + j).toNat = l.length + j := by omega
      have hj0 : (0 : Int) ≤ (l.length : Int) + j := by omega
      have hj1 : (l.length : Int) + j < (l.length : Int) + 9 := by omega
      have hjt' : (j : Int) < 9 := by omega
      repeat' (first
 |refine aK fun K hK=>?_|refine Step.by1 ?_|refine sE (by decide) ?_|refine cz rfl ?_|refine Fork.by2 (fun h=>?_) fun h=>?_
 |(refine aR ?_;simp [vl, hlt9, hrl, hri, hlen, w1, w2, w3, hjn, hj0, hj1, hjt', hjt, t9])
 |(refine Split.by2 (fun h=>?_) (fun h=>?_)<;>(simp [h, vl, hlt9, hrl, hri, hlen, w1, w2, w3, hjn, hj0, hj1, hjt', hjt, t9]))
 |(apply hK;clear hK K)|refine AWh ‹_› ?_)
      refine ⟨j + 1, by omega, by omega, ?_⟩
      apply Weak.mk' <;> simp [vl]
      · omega
      · simpa [markNodes] using hset
    · have hje : j = 9 := by omega
      subst hje
      have hfin : fillR (handF NodeD.cells markNodes l) [.int .u8 0, .int .i64 0] (l.length + 9) (l.length + 9) = l.map NodeD.cells ++ (List.range 9).map markNodes := by unfold fillR; rw [range_hand]; simp
      rw [hfin]
      repeat' (first
 |refine aK fun K hK=>?_|refine Step.by1 ?_|refine sE (by decide) ?_|refine cz rfl ?_|refine Fork.by2 (fun h=>?_) fun h=>?_
 |(refine aR ?_;simp [vl, t9])
 |(refine Split.by2 (fun h=>?_) (fun h=>?_)<;>(simp [h, vl, t9]))
 |(apply hK;clear hK K)|refine AWh ‹_› ?_)
      exact r1q (.inl ⟨1, by simp [handV], rfl⟩)
theorem trims_NodeD (x : NodeD) : V.trims (NodeD.cells x) = NodeD.cells x := trims_map _ (by simp [NodeD.cells, V.trim])
theorem trim_handNodes (l : List NodeD) : (handV NodeD.cells markNodes l).trim = vl NodeD.cells l := trim_pad _ fun x _ => trims_NodeD x
theorem trim_vlNodes (l : List NodeD) : (vl NodeD.cells l).trim = vl NodeD.cells l := trim_vl fun x _ => trims_NodeD x
set_option maxHeartbeats 2000000 in
theorem c_KeptNodes (l : List NodeD) (hl : l.length ≤ 1099511627776) : PC 73 [handV NodeD.cells markNodes l, vl NodeD.cells l] (.bool true) := by
  have hs := (c_SameNodes l l hl).trim (args := [handV NodeD.cells markNodes l, vl NodeD.cells l]) (by simp only [V.trims, trim_handNodes, trim_vlNodes])
  have w9 : IntKind.i64.wrap ((l.length : Int) + 9) = (l.length : Int) + 9 := wI (by omega) (by omega)
  have t9 : ((l.length : Int) + 9).toNat = l.length + 9 := by omega
  have hz : (0 : Int) ≤ (l.length : Int) + 9 := by omega
  obtain ⟨row, hrow⟩ : ∃ row, l.map NodeD.cells ++ (List.range 9).map markNodes = row := ⟨_, rfl⟩
  have hlen : row.length = l.length + 9 := by rw [← hrow]; simp
  have hall : ∀ x ∈ row, x.length = 2 := fun x hx => by
    rw [← hrow] at hx
    rcases List.mem_append.1 hx with h | h
    · obtain ⟨y, _, rfl⟩ := List.mem_map.1 h; rfl
    · obtain ⟨y, _, rfl⟩ := List.mem_map.1 h; rfl
  have hget : ∀ j, j < 9 → row[l.length + j]? = some (markNodes j) := fun j hj => by
    rw [← hrow, List.getElem?_append_right (by simp), List.length_map, Nat.add_sub_cancel_left, List.getElem?_map, List.getElem?_range hj]; rfl
  simp only [handV, hrow, vl, decide_true] at hs
  unfold handV
  rw [hrow]
  refine pB Tryz.func73 rfl (by decide) Tryz.ntmps73 (by simp) Tryz.results73 ?_
  repeat' (first
 |refine aK fun K hK=>?_|refine Step.by1 ?_|refine sE (by decide) ?_|refine cz rfl ?_|refine Fork.by2 (fun h=>?_) fun h=>?_
 |((first|refine aR ?_|refine aC (f:=144) rfl rfl (hs) rfl rfl rfl ?_);simp [vl, w9, t9, hz, hlen])
 |(refine Split.by2 (fun h=>?_) (fun h=>?_)<;>(simp [h, vl, w9, t9, hz, hlen]))
 |refine And.intro hall ?_
 |(apply hK;clear hK K)|refine AWh ‹_› ?_)
  refine aL [1, 5] (fun j : Nat => [(6, .int .i64 (l.length + j : Nat))]) (fun _ => []) (fun j => j ≤ 9) (fun j => 9 - j) 0 (Nat.zero_le _) (by apply Weak.mk' <;> simp [vl]) (fun _ _ => rfl) ?_
  intro j hj
  by_cases hjt : j < 9
  · have hm := hget j hjt
    have hrl : l.length + j < row.length := by omega
    have hri : row[l.length + j] = markNodes j := by rw [List.getElem?_eq_getElem hrl] at hm; exact Option.some.inj hm
    have w1 : IntKind.i64.wrap (-700 - ((l.length : Int) + j)) = -700 - ((l.length : Int) + j) := wI (by omega) (by omega)
    have w2 : IntKind.i64.wrap (-700 - ((l.length : Int) + j) + l.length) = -700 - (j : Int) := by rw [wI (by omega) (by omega)]; omega
    have w3 : IntKind.i64.wrap ((l.length : Int) + j + 1) = (l.length : Int) + j + 1 := wI (by omega) (by omega)
    have hjn : ((l.length : Int) + j).toNat = l.length + j := by omega
    have hj0 : (0 : Int) ≤ (l.length : Int) + j := by omega
    have hj1 : (l.length : Int) + j < (l.length : Int) + 9 := by omega
    have hjt' : (j : Int) < 9 := by omega
    repeat' (first
 |refine aK fun K hK=>?_|refine Step.by1 ?_|refine sE (by decide) ?_|refine cz rfl ?_|refine Fork.by2 (fun h=>?_) fun h=>?_
 |(refine aR ?_;simp [vl, hrl, hri, hlen, w1, w2, w3, hjn, hj0, hj1, hjt', hjt, t9, markNodes])
 |(refine Split.by2 (fun h=>?_) (fun h=>?_)<;>(simp [h, vl, hrl, hri, hlen, w1, w2, w3, hjn, hj0, hj1, hjt', hjt, t9, markNodes]))
 |(apply hK;clear hK K)|refine AWh ‹_› ?_)
    refine ⟨j + 1, by omega, by omega, ?_⟩
    apply Weak.mk' <;> simp [vl]
    omega
  · have hje : j = 9 := by omega
    subst hje
    repeat' (first
 |refine aK fun K hK=>?_|refine Step.by1 ?_|refine sE (by decide) ?_|refine cz rfl ?_|refine Fork.by2 (fun h=>?_) fun h=>?_
 |(refine aR ?_;simp [vl, t9])
 |(refine Split.by2 (fun h=>?_) (fun h=>?_)<;>(simp [h, vl, t9]))
 |(apply hK;clear hK K)|refine AWh ‹_› ?_)
    exact r1q (cE rfl rfl)
def markAts (j : Nat) : List V := [.int .i64 (-700 - (j : Int)), .int .i64 0]
theorem trims_AtD (x : AtD) : V.trims (AtD.cells x) = AtD.cells x := trims_map _ (by simp [AtD.cells, V.trim])
theorem trim_vlAts (l : List AtD) : (vl AtD.cells l).trim = vl AtD.cells l := trim_vl fun x _ => trims_AtD x
def textB : Nat → ByteArray
  | 0 => ⟨#[109, 97, 114, 107, 32, 121, 97, 98]⟩
  | 1 => ⟨#[109, 97, 114, 107, 32, 122, 97, 98]⟩
  | 2 => ⟨#[109, 97, 114, 107, 32, 97, 98, 98]⟩
  | 3 => ⟨#[109, 97, 114, 107, 32, 98, 98, 98]⟩
  | 4 => ⟨#[109, 97, 114, 107, 32, 99, 98, 98]⟩
  | 5 => ⟨#[109, 97, 114, 107, 32, 100, 98, 98]⟩
  | 6 => ⟨#[109, 97, 114, 107, 32, 101, 98, 98]⟩
  | 7 => ⟨#[109, 97, 114, 107, 32, 102, 98, 98]⟩
  | 8 => ⟨#[109, 97, 114, 107, 32, 103, 98, 98]⟩
  | _ => ⟨#[]⟩
set_option maxHeartbeats 2000000 in
theorem c_text : ∀ j : Nat, j < 9 → PC 127 [.int .i64 (700 + (j : Int))] (.str (textB j))
  | 0, _ => by
    refine pB Tryz.func127 rfl (by decide) Tryz.ntmps127 (by simp) Tryz.results127 ?_
    repeat' (first
 |refine aK fun K hK=>?_|refine Step.by1 ?_|refine sE (by decide) ?_|refine cz rfl ?_|refine Fork.by2 (fun h=>?_) fun h=>?_
 |(refine aR ?_;simp [wI, wrap_u8, textB];try (simp (disch:=omega) only [wI, wrap_u8];try simp [wI, wrap_u8, textB]))
 |(refine Split.by2 (fun h=>?_) (fun h=>?_)<;>(simp [h, wI, wrap_u8, textB];try (simp (disch:=omega) only [wI, wrap_u8];try simp [wI, wrap_u8, textB])))
 |refine And.intro (by decide) ?_
 |(apply hK;clear hK K)|refine AWh ‹_› ?_)
    exact r1q (cE (by first | rfl | decide) rfl)
  | 1, _ => by
    refine pB Tryz.func127 rfl (by decide) Tryz.ntmps127 (by simp) Tryz.results127 ?_
    repeat' (first
 |refine aK fun K hK=>?_|refine Step.by1 ?_|refine sE (by decide) ?_|refine cz rfl ?_|refine Fork.by2 (fun h=>?_) fun h=>?_
 |(refine aR ?_;simp [wI, wrap_u8, textB];try (simp (disch:=omega) only [wI, wrap_u8];try simp [wI, wrap_u8, textB]))
 |(refine Split.by2 (fun h=>?_) (fun h=>?_)<;>(simp [h, wI, wrap_u8, textB];try (simp (disch:=omega) only [wI, wrap_u8];try simp [wI, wrap_u8, textB])))
 |refine And.intro (by decide) ?_
 |(apply hK;clear hK K)|refine AWh ‹_› ?_)
    exact r1q (cE (by first | rfl | decide) rfl)
  | 2, _ => by
    refine pB Tryz.func127 rfl (by decide) Tryz.ntmps127 (by simp) Tryz.results127 ?_
    repeat' (first
 |refine aK fun K hK=>?_|refine Step.by1 ?_|refine sE (by decide) ?_|refine cz rfl ?_|refine Fork.by2 (fun h=>?_) fun h=>?_
 |(refine aR ?_;simp [wI, wrap_u8, textB];try (simp (disch:=omega) only [wI, wrap_u8];try simp [wI, wrap_u8, textB]))
 |(refine Split.by2 (fun h=>?_) (fun h=>?_)<;>(simp [h, wI, wrap_u8, textB];try (simp (disch:=omega) only [wI, wrap_u8];try simp [wI, wrap_u8, textB])))
 |refine And.intro (by decide) ?_
 |(apply hK;clear hK K)|refine AWh ‹_› ?_)
    exact r1q (cE (by first | rfl | decide) rfl)
  | 3, _ => by
    refine pB Tryz.func127 rfl (by decide) Tryz.ntmps127 (by simp) Tryz.results127 ?_
    repeat' (first
 |refine aK fun K hK=>?_|refine Step.by1 ?_|refine sE (by decide) ?_|refine cz rfl ?_|refine Fork.by2 (fun h=>?_) fun h=>?_
 |(refine aR ?_;simp [wI, wrap_u8, textB];try (simp (disch:=omega) only [wI, wrap_u8];try simp [wI, wrap_u8, textB]))
 |(refine Split.by2 (fun h=>?_) (fun h=>?_)<;>(simp [h, wI, wrap_u8, textB];try (simp (disch:=omega) only [wI, wrap_u8];try simp [wI, wrap_u8, textB])))
 |refine And.intro (by decide) ?_
 |(apply hK;clear hK K)|refine AWh ‹_› ?_)
    exact r1q (cE (by first | rfl | decide) rfl)
  | 4, _ => by
    refine pB Tryz.func127 rfl (by decide) Tryz.ntmps127 (by simp) Tryz.results127 ?_
    repeat' (first
 |refine aK fun K hK=>?_|refine Step.by1 ?_|refine sE (by decide) ?_|refine cz rfl ?_|refine Fork.by2 (fun h=>?_) fun h=>?_
 |(refine aR ?_;simp [wI, wrap_u8, textB];try (simp (disch:=omega) only [wI, wrap_u8];try simp [wI, wrap_u8, textB]))
 |(refine Split.by2 (fun h=>?_) (fun h=>?_)<;>(simp [h, wI, wrap_u8, textB];try (simp (disch:=omega) only [wI, wrap_u8];try simp [wI, wrap_u8, textB])))
 |refine And.intro (by decide) ?_
 |(apply hK;clear hK K)|refine AWh ‹_› ?_)
    exact r1q (cE (by first | rfl | decide) rfl)
  | 5, _ => by
    refine pB Tryz.func127 rfl (by decide) Tryz.ntmps127 (by simp) Tryz.results127 ?_
    repeat' (first
 |refine aK fun K hK=>?_|refine Step.by1 ?_|refine sE (by decide) ?_|refine cz rfl ?_|refine Fork.by2 (fun h=>?_) fun h=>?_
 |(refine aR ?_;simp [wI, wrap_u8, textB];try (simp (disch:=omega) only [wI, wrap_u8];try simp [wI, wrap_u8, textB]))
 |(refine Split.by2 (fun h=>?_) (fun h=>?_)<;>(simp [h, wI, wrap_u8, textB];try (simp (disch:=omega) only [wI, wrap_u8];try simp [wI, wrap_u8, textB])))
 |refine And.intro (by decide) ?_
 |(apply hK;clear hK K)|refine AWh ‹_› ?_)
    exact r1q (cE (by first | rfl | decide) rfl)
  | 6, _ => by
    refine pB Tryz.func127 rfl (by decide) Tryz.ntmps127 (by simp) Tryz.results127 ?_
    repeat' (first
 |refine aK fun K hK=>?_|refine Step.by1 ?_|refine sE (by decide) ?_|refine cz rfl ?_|refine Fork.by2 (fun h=>?_) fun h=>?_
 |(refine aR ?_;simp [wI, wrap_u8, textB];try (simp (disch:=omega) only [wI, wrap_u8];try simp [wI, wrap_u8, textB]))
 |(refine Split.by2 (fun h=>?_) (fun h=>?_)<;>(simp [h, wI, wrap_u8, textB];try (simp (disch:=omega) only [wI, wrap_u8];try simp [wI, wrap_u8, textB])))
 |refine And.intro (by decide) ?_
 |(apply hK;clear hK K)|refine AWh ‹_› ?_)
    exact r1q (cE (by first | rfl | decide) rfl)
  | 7, _ => by
    refine pB Tryz.func127 rfl (by decide) Tryz.ntmps127 (by simp) Tryz.results127 ?_
    repeat' (first
 |refine aK fun K hK=>?_|refine Step.by1 ?_|refine sE (by decide) ?_|refine cz rfl ?_|refine Fork.by2 (fun h=>?_) fun h=>?_
 |(refine aR ?_;simp [wI, wrap_u8, textB];try (simp (disch:=omega) only [wI, wrap_u8];try simp [wI, wrap_u8, textB]))
 |(refine Split.by2 (fun h=>?_) (fun h=>?_)<;>(simp [h, wI, wrap_u8, textB];try (simp (disch:=omega) only [wI, wrap_u8];try simp [wI, wrap_u8, textB])))
 |refine And.intro (by decide) ?_
 |(apply hK;clear hK K)|refine AWh ‹_› ?_)
    exact r1q (cE (by first | rfl | decide) rfl)
  | 8, _ => by
    refine pB Tryz.func127 rfl (by decide) Tryz.ntmps127 (by simp) Tryz.results127 ?_
    repeat' (first
 |refine aK fun K hK=>?_|refine Step.by1 ?_|refine sE (by decide) ?_|refine cz rfl ?_|refine Fork.by2 (fun h=>?_) fun h=>?_
 |(refine aR ?_;simp [wI, wrap_u8, textB];try (simp (disch:=omega) only [wI, wrap_u8];try simp [wI, wrap_u8, textB]))
 |(refine Split.by2 (fun h=>?_) (fun h=>?_)<;>(simp [h, wI, wrap_u8, textB];try (simp (disch:=omega) only [wI, wrap_u8];try simp [wI, wrap_u8, textB])))
 |refine And.intro (by decide) ?_
 |(apply hK;clear hK K)|refine AWh ‹_› ?_)
    exact r1q (cE (by first | rfl | decide) rfl)
  | j + 9, h => absurd h (by omega)
end Go.Proofs.YtgmlimipejcpgaaGreatDoor
end
