/-
  YtgmlimipejcpgaaGreatDoorPart13: steps of the proof of a law of the program: what these texts prove holds under the hypotheses that their theorems name, and no others.
-/
import Derived.Test.YtgmlimipejcpgaaGreatDoorPart07
import Derived.Test.YtgmlimipejcpgaaGreatDoorPart06
import Derived.Test.YtgmlimipejcpgaaGreatDoorPart12
section
set_option linter.unusedVariables false
set_option linter.unusedSimpArgs false
namespace Go.Proofs.YtgmlimipejcpgaaGreatDoor
open Go Go.AM Fx

theorem AtD_eq (x y : AtD) : x = y ↔ (x.auto = y.auto ∧ x.loc = y.loc) := by cases x; cases y; simp
set_option maxHeartbeats 2000000 in
theorem c_SameAts (a b : List AtD) (ha : a.length ≤ 1099511627776) : PC 156 [vl AtD.cells a, vl AtD.cells b] (.bool (decide (a = b))) := by
  refine PCall_body Tryz.func156 rfl (by decide) Tryz.ntmps156 (by simp) Tryz.results156 ?_
  by_cases hab : a.length = b.length
  · have hab' : (a.length : Int) = b.length := by omega
    repeat' (first
    |refine AW_seq_k fun K hK=>?_|refine Step.by1 ?_|refine SBlock_exit_ne (by decide) ?_
    |((first|refine AW_region_AO ?_);simp [vl, hab'])
    |(refine Split.by2 (fun h=>?_) (fun h=>?_)<;>(simp [h, vl, hab']))
    |refine ct rfl ?_|refine cf rfl ?_|refine cnd rfl (fun h=>?_) (fun h=>?_)|refine cd rfl (fun h=>?_) (fun h=>?_)|refine cn rfl (fun h=>?_) (fun h=>?_)|refine cc rfl (fun h=>?_) (fun h=>?_)
    |(apply hK;clear hK K)|(refine AWh (by assumption) ?_))
    refine AW_loopL [0, 1] (fun i : Nat => [(5, .int .i64 i)]) (fun _ => []) (fun i => i ≤ a.length ∧ a.take i = b.take i) (fun i => a.length - i) 0 ⟨Nat.zero_le _, rfl⟩ (by apply Weak.mk' <;> simp) (fun _ _ => rfl) ?_
    intro i hi
    by_cases hlt : i < a.length
    · have hlb : i < b.length := by omega
      have hne : a[i] ≠ b[i] → a ≠ b := fun h e => h (by subst e; rfl)
      have hsucc := fun h => take_same hi.2 hlt hlb h
      obtain ⟨x, hx⟩ : ∃ x, a[i] = x := ⟨_, rfl⟩
      obtain ⟨y, hy⟩ : ∃ y, b[i] = y := ⟨_, rfl⟩
      rw [hx, hy] at hne hsucc
      rw [ne_eq, AtD_eq] at hne
      rw [AtD_eq] at hsucc
      repeat' (first
    |refine AW_seq_k fun K hK=>?_|refine Step.by1 ?_|refine SBlock_exit_ne (by decide) ?_
    |((first|refine AW_region_AO ?_|refine AW_region_APx (id:=6) 9 mixed (by decide) ?_);simp [vl, hlt, hlb, hx, hy, AtD.cells, wrap_i64];try (simp (disch:=omega) only [wrap_i64];try simp [vl, hlt, hlb, hx, hy, AtD.cells, wrap_i64]))
    |(refine Split.by2 (fun h=>?_) (fun h=>?_)<;>(simp [h, vl, hlt, hlb, hx, hy, AtD.cells, wrap_i64];try (simp (disch:=omega) only [wrap_i64];try simp [vl, hlt, hlb, hx, hy, AtD.cells, wrap_i64])))
    |refine ct rfl ?_|refine cf rfl ?_|refine cnd rfl (fun h=>?_) (fun h=>?_)|refine cd rfl (fun h=>?_) (fun h=>?_)|refine cn rfl (fun h=>?_) (fun h=>?_)|refine cc rfl (fun h=>?_) (fun h=>?_)
    |(apply hK;clear hK K)|(refine AWh (by assumption) ?_))
      all_goals first
        | exact retq1 (conv_eq (by simp; exact hne (by first | exact h | (simp at h; intro he; simp [he] at h))) rfl)
        | (refine ⟨i + 1, ⟨by omega, hsucc (by first | exact h | (simp at h; simp [h]))⟩, by omega, ?_⟩; apply Weak.mk' <;> simp [vl])
    · have hie : i = a.length := by omega
      subst hie
      have he : a = b := take_end hi.2 hab
      repeat' (first
    |refine AW_seq_k fun K hK=>?_|refine Step.by1 ?_|refine SBlock_exit_ne (by decide) ?_
    |((first|refine AW_region_AO ?_);simp [vl, hlt])
    |(refine Split.by2 (fun h=>?_) (fun h=>?_)<;>(simp [h, vl, hlt]))
    |refine ct rfl ?_|refine cf rfl ?_|refine cnd rfl (fun h=>?_) (fun h=>?_)|refine cd rfl (fun h=>?_) (fun h=>?_)|refine cn rfl (fun h=>?_) (fun h=>?_)|refine cc rfl (fun h=>?_) (fun h=>?_)
    |(apply hK;clear hK K)|(refine AWh (by assumption) ?_))
      exact retq1 (conv_eq (by simp [he]) rfl)
  · have hab' : ¬ (a.length : Int) = b.length := by omega
    have he : ¬ a = b := fun h => hab (by rw [h])
    repeat' (first
    |refine AW_seq_k fun K hK=>?_|refine Step.by1 ?_|refine SBlock_exit_ne (by decide) ?_
    |((first|refine AW_region_AO ?_);simp [vl, hab'])
    |(refine Split.by2 (fun h=>?_) (fun h=>?_)<;>(simp [h, vl, hab']))
    |refine ct rfl ?_|refine cf rfl ?_|refine cnd rfl (fun h=>?_) (fun h=>?_)|refine cd rfl (fun h=>?_) (fun h=>?_)|refine cn rfl (fun h=>?_) (fun h=>?_)|refine cc rfl (fun h=>?_) (fun h=>?_)
    |(apply hK;clear hK K)|(refine AWh (by assumption) ?_))
    exact retq1 (conv_eq (by simp [he]) rfl)

def markAts (j : Nat) : List V := [.int .i64 (-700 - (j : Int)), .int .i64 0]
set_option maxHeartbeats 2000000 in
theorem c_HandAts (l : List AtD) (hl : l.length ≤ 1099511627776) : PC 74 [vl AtD.cells l] (handV AtD.cells markAts l) := by
  have w9 : IntKind.i64.wrap ((l.length : Int) + 9) = (l.length : Int) + 9 := wrap_i64 (by omega) (by omega)
  have t9 : ((l.length : Int) + 9).toNat = l.length + 9 := by omega
  have n9 : ((l.length : Int) + 9) * 16 ≤ 281474976710656 := by omega
  have hz : (0 : Int) ≤ (l.length : Int) + 9 := by omega
  refine PCall_body Tryz.func74 rfl (by decide) Tryz.ntmps74 (by simp) Tryz.results74 ?_
  repeat' (first
    |refine AW_seq_k fun K hK=>?_|refine Step.by1 ?_|refine SBlock_exit_ne (by decide) ?_
    |((first|refine AW_region_AO ?_);simp [vl, w9, n9, hz, t9])
    |(refine Split.by2 (fun h=>?_) (fun h=>?_)<;>(simp [h, vl, w9, n9, hz, t9]))
    |refine ct rfl ?_|refine cf rfl ?_|refine cnd rfl (fun h=>?_) (fun h=>?_)|refine cd rfl (fun h=>?_) (fun h=>?_)|refine cn rfl (fun h=>?_) (fun h=>?_)|refine cc rfl (fun h=>?_) (fun h=>?_)
    |(apply hK;clear hK K)|(refine AWh (by assumption) ?_))
  refine AW_loopL [0, 3] (fun i : Nat => [(4, .int .i64 i)]) (fun i => [.row 171 0 0 true (fillR (handF AtD.cells markAts l) [.int .i64 0, .int .i64 0] (l.length + 9) i)]) (fun i => i ≤ l.length) (fun i => l.length - i) 0 (Nat.zero_le _) (by apply Weak.mk' <;> simp [vl, fillR, t9]) (fun _ _ => rfl) ?_
  intro i hi
  by_cases hlt : i < l.length
  · have hlt9 : i < l.length + 9 := by omega
    have hlt8 : (i : Int) < l.length + 9 := by omega
    have hset := fillR_set (f := handF AtD.cells markAts l) (z := [.int .i64 0, .int .i64 0]) hlt9
    have hlen := fillR_len (f := handF AtD.cells markAts l) (z := [.int .i64 0, .int .i64 0]) (n := l.length + 9) (i := i) (by omega)
    have hget := fillR_get (f := handF AtD.cells markAts l) (z := [.int .i64 0, .int .i64 0]) hlt9
    rw [handF_in hlt] at hset
    obtain ⟨x, hx⟩ : ∃ x, l[i] = x := ⟨_, rfl⟩
    rw [hx] at hset
    generalize fillR (handF AtD.cells markAts l) [.int .i64 0, .int .i64 0] (l.length + 9) i = row at *
    have hrl : i < row.length := by omega
    have hri : row[i] = [.int .i64 0, .int .i64 0] := by rw [List.getElem?_eq_getElem hrl] at hget; exact Option.some.inj hget
    repeat' (first
    |refine AW_seq_k fun K hK=>?_|refine Step.by1 ?_|refine SBlock_exit_ne (by decide) ?_
    |((first|refine AW_region_AO ?_);simp [vl, hlt, hlt9, hlt8, t9, hrl, hri, hx, hlen, AtD.cells, wrap_i64];try (simp (disch:=omega) only [wrap_i64];try simp [vl, hlt, hlt9, hlt8, t9, hrl, hri, hx, hlen, AtD.cells, wrap_i64]))
    |(refine Split.by2 (fun h=>?_) (fun h=>?_)<;>(simp [h, vl, hlt, hlt9, hlt8, t9, hrl, hri, hx, hlen, AtD.cells, wrap_i64];try (simp (disch:=omega) only [wrap_i64];try simp [vl, hlt, hlt9, hlt8, t9, hrl, hri, hx, hlen, AtD.cells, wrap_i64])))
    |refine ct rfl ?_|refine cf rfl ?_|refine cnd rfl (fun h=>?_) (fun h=>?_)|refine cd rfl (fun h=>?_) (fun h=>?_)|refine cn rfl (fun h=>?_) (fun h=>?_)|refine cc rfl (fun h=>?_) (fun h=>?_)
    |(apply hK;clear hK K)|(refine AWh (by assumption) ?_))
    refine ⟨i + 1, by omega, by omega, ?_⟩
    apply Weak.mk' <;> simp [vl]
    simpa [AtD.cells] using hset
  · have hie : i = l.length := by omega
    subst hie
    repeat' (first
    |refine AW_seq_k fun K hK=>?_|refine Step.by1 ?_|refine SBlock_exit_ne (by decide) ?_
    |((first|refine AW_region_AO ?_);simp [vl, hlt])
    |(refine Split.by2 (fun h=>?_) (fun h=>?_)<;>(simp [h, vl, hlt]))
    |refine ct rfl ?_|refine cf rfl ?_|refine cnd rfl (fun h=>?_) (fun h=>?_)|refine cd rfl (fun h=>?_) (fun h=>?_)|refine cn rfl (fun h=>?_) (fun h=>?_)|refine cc rfl (fun h=>?_) (fun h=>?_)
    |(apply hK;clear hK K)|(refine AWh (by assumption) ?_))
    refine AW_loopL [0, 3] (fun j : Nat => [(5, .int .i64 (l.length + j : Nat))]) (fun j => [.row 171 0 0 true (fillR (handF AtD.cells markAts l) [.int .i64 0, .int .i64 0] (l.length + 9) (l.length + j))]) (fun j => j ≤ 9) (fun j => 9 - j) 0 (Nat.zero_le _) (by apply Weak.mk' <;> simp [vl]) (fun _ _ => rfl) ?_
    intro j hj
    by_cases hjt : j < 9
    · have hlt9 : l.length + j < l.length + 9 := by omega
      have hset := fillR_set (f := handF AtD.cells markAts l) (z := [.int .i64 0, .int .i64 0]) hlt9
      have hlen := fillR_len (f := handF AtD.cells markAts l) (z := [.int .i64 0, .int .i64 0]) (n := l.length + 9) (i := l.length + j) (by omega)
      have hget := fillR_get (f := handF AtD.cells markAts l) (z := [.int .i64 0, .int .i64 0]) hlt9
      rw [handF_out] at hset
      rw [show l.length + j + 1 = l.length + (j + 1) by omega] at hset
      generalize fillR (handF AtD.cells markAts l) [.int .i64 0, .int .i64 0] (l.length + 9) (l.length + j) = row at *
      have hrl : l.length + j < row.length := by omega
      have hri : row[l.length + j] = [.int .i64 0, .int .i64 0] := by rw [List.getElem?_eq_getElem hrl] at hget; exact Option.some.inj hget
      have hle : (l.length : Int) + j ≤ 1099511627785 := by omega
      have w1 : IntKind.i64.wrap (-700 - ((l.length : Int) + j)) = -700 - ((l.length : Int) + j) := wrap_i64 (by omega) (by omega)
      have w2 : IntKind.i64.wrap (-700 - ((l.length : Int) + j) + l.length) = -700 - (j : Int) := by rw [wrap_i64 (by omega) (by omega)]; omega
      have w3 : IntKind.i64.wrap ((l.length : Int) + j + 1) = (l.length : Int) + j + 1 := wrap_i64 (by omega) (by omega)
      have hjn : ((l.length : Int) + j).toNat = l.length + j := by omega
      have hj0 : (0 : Int) ≤ (l.length : Int) + j := by omega
      have hj1 : (l.length : Int) + j < (l.length : Int) + 9 := by omega
      have hjt' : (j : Int) < 9 := by omega
      repeat' (first
    |refine AW_seq_k fun K hK=>?_|refine Step.by1 ?_|refine SBlock_exit_ne (by decide) ?_
    |((first|refine AW_region_AO ?_);simp [vl, hlt9, hrl, hri, hlen, w1, w2, w3, hjn, hj0, hj1, hjt', hjt, t9])
    |(refine Split.by2 (fun h=>?_) (fun h=>?_)<;>(simp [h, vl, hlt9, hrl, hri, hlen, w1, w2, w3, hjn, hj0, hj1, hjt', hjt, t9]))
    |refine ct rfl ?_|refine cf rfl ?_|refine cnd rfl (fun h=>?_) (fun h=>?_)|refine cd rfl (fun h=>?_) (fun h=>?_)|refine cn rfl (fun h=>?_) (fun h=>?_)|refine cc rfl (fun h=>?_) (fun h=>?_)
    |(apply hK;clear hK K)|(refine AWh (by assumption) ?_))
      refine ⟨j + 1, by omega, by omega, ?_⟩
      apply Weak.mk' <;> simp [vl]
      · omega
      · simpa [markAts] using hset
    · have hje : j = 9 := by omega
      subst hje
      have hfin : fillR (handF AtD.cells markAts l) [.int .i64 0, .int .i64 0] (l.length + 9) (l.length + 9) = l.map AtD.cells ++ (List.range 9).map markAts := by unfold fillR; rw [range_hand]; simp
      rw [hfin]
      repeat' (first
    |refine AW_seq_k fun K hK=>?_|refine Step.by1 ?_|refine SBlock_exit_ne (by decide) ?_
    |((first|refine AW_region_AO ?_);simp [vl, t9])
    |(refine Split.by2 (fun h=>?_) (fun h=>?_)<;>(simp [h, vl, t9]))
    |refine ct rfl ?_|refine cf rfl ?_|refine cnd rfl (fun h=>?_) (fun h=>?_)|refine cd rfl (fun h=>?_) (fun h=>?_)|refine cn rfl (fun h=>?_) (fun h=>?_)|refine cc rfl (fun h=>?_) (fun h=>?_)
    |(apply hK;clear hK K)|(refine AWh (by assumption) ?_))
      exact retq1 (.inl ⟨1, by simp [handV], rfl⟩)

theorem trims_AtD (x : AtD) : V.trims (AtD.cells x) = AtD.cells x := trims_map _ (by simp [AtD.cells, V.trim])
theorem trim_handAts (l : List AtD) : (handV AtD.cells markAts l).trim = vl AtD.cells l := trim_pad _ fun x _ => trims_AtD x
theorem trim_vlAts (l : List AtD) : (vl AtD.cells l).trim = vl AtD.cells l := trim_vl fun x _ => trims_AtD x
set_option maxHeartbeats 2000000 in
theorem c_KeptAts (l : List AtD) (hl : l.length ≤ 1099511627776) : PC 78 [handV AtD.cells markAts l, vl AtD.cells l] (.bool true) := by
  have hs := (c_SameAts l l hl).trim (args := [handV AtD.cells markAts l, vl AtD.cells l]) (by simp only [V.trims, trim_handAts, trim_vlAts])
  have w9 : IntKind.i64.wrap ((l.length : Int) + 9) = (l.length : Int) + 9 := wrap_i64 (by omega) (by omega)
  have t9 : ((l.length : Int) + 9).toNat = l.length + 9 := by omega
  have hz : (0 : Int) ≤ (l.length : Int) + 9 := by omega
  obtain ⟨row, hrow⟩ : ∃ row, l.map AtD.cells ++ (List.range 9).map markAts = row := ⟨_, rfl⟩
  have hlen : row.length = l.length + 9 := by rw [← hrow]; simp
  have hall : ∀ x ∈ row, x.length = 2 := fun x hx => by
    rw [← hrow] at hx
    rcases List.mem_append.1 hx with h | h
    · obtain ⟨y, _, rfl⟩ := List.mem_map.1 h; rfl
    · obtain ⟨y, _, rfl⟩ := List.mem_map.1 h; rfl
  have hget : ∀ j, j < 9 → row[l.length + j]? = some (markAts j) := fun j hj => by
    rw [← hrow, List.getElem?_append_right (by simp), List.length_map, Nat.add_sub_cancel_left, List.getElem?_map, List.getElem?_range hj]; rfl
  simp only [handV, hrow, vl, decide_true] at hs
  unfold handV
  rw [hrow]
  refine PCall_body Tryz.func78 rfl (by decide) Tryz.ntmps78 (by simp) Tryz.results78 ?_
  repeat' (first
    |refine AW_seq_k fun K hK=>?_|refine Step.by1 ?_|refine SBlock_exit_ne (by decide) ?_
    |((first|refine AW_region_AO ?_|refine AS_call1 (f:=156) rfl rfl (hs) rfl rfl rfl ?_);simp [vl, w9, t9, hz, hlen])
    |(refine Split.by2 (fun h=>?_) (fun h=>?_)<;>(simp [h, vl, w9, t9, hz, hlen]))
    |refine ct rfl ?_|refine cf rfl ?_|refine cnd rfl (fun h=>?_) (fun h=>?_)|refine cd rfl (fun h=>?_) (fun h=>?_)|refine cn rfl (fun h=>?_) (fun h=>?_)|refine cc rfl (fun h=>?_) (fun h=>?_)
    |refine And.intro hall ?_
    |(apply hK;clear hK K)|(refine AWh (by assumption) ?_))
  refine AW_loopL [1, 5] (fun j : Nat => [(6, .int .i64 (l.length + j : Nat))]) (fun _ => []) (fun j => j ≤ 9) (fun j => 9 - j) 0 (Nat.zero_le _) (by apply Weak.mk' <;> simp [vl]) (fun _ _ => rfl) ?_
  intro j hj
  by_cases hjt : j < 9
  · have hm := hget j hjt
    have hrl : l.length + j < row.length := by omega
    have hri : row[l.length + j] = markAts j := by rw [List.getElem?_eq_getElem hrl] at hm; exact Option.some.inj hm
    have w1 : IntKind.i64.wrap (-700 - ((l.length : Int) + j)) = -700 - ((l.length : Int) + j) := wrap_i64 (by omega) (by omega)
    have w2 : IntKind.i64.wrap (-700 - ((l.length : Int) + j) + l.length) = -700 - (j : Int) := by rw [wrap_i64 (by omega) (by omega)]; omega
    have w3 : IntKind.i64.wrap ((l.length : Int) + j + 1) = (l.length : Int) + j + 1 := wrap_i64 (by omega) (by omega)
    have hjn : ((l.length : Int) + j).toNat = l.length + j := by omega
    have hj0 : (0 : Int) ≤ (l.length : Int) + j := by omega
    have hj1 : (l.length : Int) + j < (l.length : Int) + 9 := by omega
    have hjt' : (j : Int) < 9 := by omega
    repeat' (first
    |refine AW_seq_k fun K hK=>?_|refine Step.by1 ?_|refine SBlock_exit_ne (by decide) ?_
    |((first|refine AW_region_AO ?_);simp [vl, hrl, hri, hlen, w1, w2, w3, hjn, hj0, hj1, hjt', hjt, t9, markAts])
    |(refine Split.by2 (fun h=>?_) (fun h=>?_)<;>(simp [h, vl, hrl, hri, hlen, w1, w2, w3, hjn, hj0, hj1, hjt', hjt, t9, markAts]))
    |refine ct rfl ?_|refine cf rfl ?_|refine cnd rfl (fun h=>?_) (fun h=>?_)|refine cd rfl (fun h=>?_) (fun h=>?_)|refine cn rfl (fun h=>?_) (fun h=>?_)|refine cc rfl (fun h=>?_) (fun h=>?_)
    |(apply hK;clear hK K)|(refine AWh (by assumption) ?_))
    refine ⟨j + 1, by omega, by omega, ?_⟩
    apply Weak.mk' <;> simp [vl]
    omega
  · have hje : j = 9 := by omega
    subst hje
    repeat' (first
    |refine AW_seq_k fun K hK=>?_|refine Step.by1 ?_|refine SBlock_exit_ne (by decide) ?_
    |((first|refine AW_region_AO ?_);simp [vl, t9])
    |(refine Split.by2 (fun h=>?_) (fun h=>?_)<;>(simp [h, vl, t9]))
    |refine ct rfl ?_|refine cf rfl ?_|refine cnd rfl (fun h=>?_) (fun h=>?_)|refine cd rfl (fun h=>?_) (fun h=>?_)|refine cn rfl (fun h=>?_) (fun h=>?_)|refine cc rfl (fun h=>?_) (fun h=>?_)
    |(apply hK;clear hK K)|(refine AWh (by assumption) ?_))
    exact retq1 (conv_eq rfl rfl)

end Go.Proofs.YtgmlimipejcpgaaGreatDoor
end

section
set_option linter.unusedVariables false
set_option linter.unusedSimpArgs false
namespace Go.Proofs.YtgmlimipejcpgaaGreatDoor
open Go Go.AM Fx

def textB : Nat → ByteArray
  | 0 => ⟨#[109, 97, 114, 107, 32, 121, 97, 98]⟩
  | 1 => ⟨#[109, 97, 114, 107, 32, 122, 97, 98]⟩
  | 2 => ⟨#[109, 97, 114, 107, 32, 97, 98, 98]⟩
  | 3 => ⟨#[109, 97, 114, 107, 32, 98, 98, 98]⟩
  | 4 => ⟨#[109, 97, 114, 107, 32, 99, 98, 98]⟩
  | 5 => ⟨#[109, 97, 114, 107, 32, 100, 98, 98]⟩
  | 6 => ⟨#[109, 97, 114, 107, 32, 101, 98, 98]⟩
  | 7 => ⟨#[109, 97, 114, 107, 32, 102, 98, 98]⟩
  | 8 => ⟨#[109, 97, 114, 107, 32, 103, 98, 98]⟩
  | _ => ⟨#[]⟩
set_option maxHeartbeats 2000000 in
theorem c_text : ∀ j : Nat, j < 9 → PC 127 [.int .i64 (700 + (j : Int))] (.str (textB j))
  | 0, _ => by
    refine PCall_body Tryz.func127 rfl (by decide) Tryz.ntmps127 (by simp) Tryz.results127 ?_
    repeat' (first
    |refine AW_seq_k fun K hK=>?_|refine Step.by1 ?_|refine SBlock_exit_ne (by decide) ?_
    |((first|refine AW_region_AO ?_);simp [wrap_i64, wrap_u8, textB];try (simp (disch:=omega) only [wrap_i64, wrap_u8];try simp [wrap_i64, wrap_u8, textB]))
    |(refine Split.by2 (fun h=>?_) (fun h=>?_)<;>(simp [h, wrap_i64, wrap_u8, textB];try (simp (disch:=omega) only [wrap_i64, wrap_u8];try simp [wrap_i64, wrap_u8, textB])))
    |refine ct rfl ?_|refine cf rfl ?_|refine cnd rfl (fun h=>?_) (fun h=>?_)|refine cd rfl (fun h=>?_) (fun h=>?_)|refine cn rfl (fun h=>?_) (fun h=>?_)|refine cc rfl (fun h=>?_) (fun h=>?_)
    |refine And.intro (by decide) ?_
    |(apply hK;clear hK K)|(refine AWh (by assumption) ?_))
    exact retq1 (conv_eq (by first | rfl | decide) rfl)
  | 1, _ => by
    refine PCall_body Tryz.func127 rfl (by decide) Tryz.ntmps127 (by simp) Tryz.results127 ?_
    repeat' (first
    |refine AW_seq_k fun K hK=>?_|refine Step.by1 ?_|refine SBlock_exit_ne (by decide) ?_
    |((first|refine AW_region_AO ?_);simp [wrap_i64, wrap_u8, textB];try (simp (disch:=omega) only [wrap_i64, wrap_u8];try simp [wrap_i64, wrap_u8, textB]))
    |(refine Split.by2 (fun h=>?_) (fun h=>?_)<;>(simp [h, wrap_i64, wrap_u8, textB];try (simp (disch:=omega) only [wrap_i64, wrap_u8];try simp [wrap_i64, wrap_u8, textB])))
    |refine ct rfl ?_|refine cf rfl ?_|refine cnd rfl (fun h=>?_) (fun h=>?_)|refine cd rfl (fun h=>?_) (fun h=>?_)|refine cn rfl (fun h=>?_) (fun h=>?_)|refine cc rfl (fun h=>?_) (fun h=>?_)
    |refine And.intro (by decide) ?_
    |(apply hK;clear hK K)|(refine AWh (by assumption) ?_))
    exact retq1 (conv_eq (by first | rfl | decide) rfl)
  | 2, _ => by
    refine PCall_body Tryz.func127 rfl (by decide) Tryz.ntmps127 (by simp) Tryz.results127 ?_
    repeat' (first
    |refine AW_seq_k fun K hK=>?_|refine Step.by1 ?_|refine SBlock_exit_ne (by decide) ?_
    |((first|refine AW_region_AO ?_);simp [wrap_i64, wrap_u8, textB];try (simp (disch:=omega) only [wrap_i64, wrap_u8];try simp [wrap_i64, wrap_u8, textB]))
    |(refine Split.by2 (fun h=>?_) (fun h=>?_)<;>(simp [h, wrap_i64, wrap_u8, textB];try (simp (disch:=omega) only [wrap_i64, wrap_u8];try simp [wrap_i64, wrap_u8, textB])))
    |refine ct rfl ?_|refine cf rfl ?_|refine cnd rfl (fun h=>?_) (fun h=>?_)|refine cd rfl (fun h=>?_) (fun h=>?_)|refine cn rfl (fun h=>?_) (fun h=>?_)|refine cc rfl (fun h=>?_) (fun h=>?_)
    |refine And.intro (by decide) ?_
    |(apply hK;clear hK K)|(refine AWh (by assumption) ?_))
    exact retq1 (conv_eq (by first | rfl | decide) rfl)
  | 3, _ => by
    refine PCall_body Tryz.func127 rfl (by decide) Tryz.ntmps127 (by simp) Tryz.results127 ?_
    repeat' (first
    |refine AW_seq_k fun K hK=>?_|refine Step.by1 ?_|refine SBlock_exit_ne (by decide) ?_
    |((first|refine AW_region_AO ?_);simp [wrap_i64, wrap_u8, textB];try (simp (disch:=omega) only [wrap_i64, wrap_u8];try simp [wrap_i64, wrap_u8, textB]))
    |(refine Split.by2 (fun h=>?_) (fun h=>?_)<;>(simp [h, wrap_i64, wrap_u8, textB];try (simp (disch:=omega) only [wrap_i64, wrap_u8];try simp [wrap_i64, wrap_u8, textB])))
    |refine ct rfl ?_|refine cf rfl ?_|refine cnd rfl (fun h=>?_) (fun h=>?_)|refine cd rfl (fun h=>?_) (fun h=>?_)|refine cn rfl (fun h=>?_) (fun h=>?_)|refine cc rfl (fun h=>?_) (fun h=>?_)
    |refine And.intro (by decide) ?_
    |(apply hK;clear hK K)|(refine AWh (by assumption) ?_))
    exact retq1 (conv_eq (by first | rfl | decide) rfl)
  | 4, _ => by
    refine PCall_body Tryz.func127 rfl (by decide) Tryz.ntmps127 (by simp) Tryz.results127 ?_
    repeat' (first
    |refine AW_seq_k fun K hK=>?_|refine Step.by1 ?_|refine SBlock_exit_ne (by decide) ?_
    |((first|refine AW_region_AO ?_);simp [wrap_i64, wrap_u8, textB];try (simp (disch:=omega) only [wrap_i64, wrap_u8];try simp [wrap_i64, wrap_u8, textB]))
    |(refine Split.by2 (fun h=>?_) (fun h=>?_)<;>(simp [h, wrap_i64, wrap_u8, textB];try (simp (disch:=omega) only [wrap_i64, wrap_u8];try simp [wrap_i64, wrap_u8, textB])))
    |refine ct rfl ?_|refine cf rfl ?_|refine cnd rfl (fun h=>?_) (fun h=>?_)|refine cd rfl (fun h=>?_) (fun h=>?_)|refine cn rfl (fun h=>?_) (fun h=>?_)|refine cc rfl (fun h=>?_) (fun h=>?_)
    |refine And.intro (by decide) ?_
    |(apply hK;clear hK K)|(refine AWh (by assumption) ?_))
    exact retq1 (conv_eq (by first | rfl | decide) rfl)
  | 5, _ => by
    refine PCall_body Tryz.func127 rfl (by decide) Tryz.ntmps127 (by simp) Tryz.results127 ?_
    repeat' (first
    |refine AW_seq_k fun K hK=>?_|refine Step.by1 ?_|refine SBlock_exit_ne (by decide) ?_
    |((first|refine AW_region_AO ?_);simp [wrap_i64, wrap_u8, textB];try (simp (disch:=omega) only [wrap_i64, wrap_u8];try simp [wrap_i64, wrap_u8, textB]))
    |(refine Split.by2 (fun h=>?_) (fun h=>?_)<;>(simp [h, wrap_i64, wrap_u8, textB];try (simp (disch:=omega) only [wrap_i64, wrap_u8];try simp [wrap_i64, wrap_u8, textB])))
    |refine ct rfl ?_|refine cf rfl ?_|refine cnd rfl (fun h=>?_) (fun h=>?_)|refine cd rfl (fun h=>?_) (fun h=>?_)|refine cn rfl (fun h=>?_) (fun h=>?_)|refine cc rfl (fun h=>?_) (fun h=>?_)
    |refine And.intro (by decide) ?_
    |(apply hK;clear hK K)|(refine AWh (by assumption) ?_))
    exact retq1 (conv_eq (by first | rfl | decide) rfl)
  | 6, _ => by
    refine PCall_body Tryz.func127 rfl (by decide) Tryz.ntmps127 (by simp) Tryz.results127 ?_
    repeat' (first
    |refine AW_seq_k fun K hK=>?_|refine Step.by1 ?_|refine SBlock_exit_ne (by decide) ?_
    |((first|refine AW_region_AO ?_);simp [wrap_i64, wrap_u8, textB];try (simp (disch:=omega) only [wrap_i64, wrap_u8];try simp [wrap_i64, wrap_u8, textB]))
    |(refine Split.by2 (fun h=>?_) (fun h=>?_)<;>(simp [h, wrap_i64, wrap_u8, textB];try (simp (disch:=omega) only [wrap_i64, wrap_u8];try simp [wrap_i64, wrap_u8, textB])))
    |refine ct rfl ?_|refine cf rfl ?_|refine cnd rfl (fun h=>?_) (fun h=>?_)|refine cd rfl (fun h=>?_) (fun h=>?_)|refine cn rfl (fun h=>?_) (fun h=>?_)|refine cc rfl (fun h=>?_) (fun h=>?_)
    |refine And.intro (by decide) ?_
    |(apply hK;clear hK K)|(refine AWh (by assumption) ?_))
    exact retq1 (conv_eq (by first | rfl | decide) rfl)
  | 7, _ => by
    refine PCall_body Tryz.func127 rfl (by decide) Tryz.ntmps127 (by simp) Tryz.results127 ?_
    repeat' (first
    |refine AW_seq_k fun K hK=>?_|refine Step.by1 ?_|refine SBlock_exit_ne (by decide) ?_
    |((first|refine AW_region_AO ?_);simp [wrap_i64, wrap_u8, textB];try (simp (disch:=omega) only [wrap_i64, wrap_u8];try simp [wrap_i64, wrap_u8, textB]))
    |(refine Split.by2 (fun h=>?_) (fun h=>?_)<;>(simp [h, wrap_i64, wrap_u8, textB];try (simp (disch:=omega) only [wrap_i64, wrap_u8];try simp [wrap_i64, wrap_u8, textB])))
    |refine ct rfl ?_|refine cf rfl ?_|refine cnd rfl (fun h=>?_) (fun h=>?_)|refine cd rfl (fun h=>?_) (fun h=>?_)|refine cn rfl (fun h=>?_) (fun h=>?_)|refine cc rfl (fun h=>?_) (fun h=>?_)
    |refine And.intro (by decide) ?_
    |(apply hK;clear hK K)|(refine AWh (by assumption) ?_))
    exact retq1 (conv_eq (by first | rfl | decide) rfl)
  | 8, _ => by
    refine PCall_body Tryz.func127 rfl (by decide) Tryz.ntmps127 (by simp) Tryz.results127 ?_
    repeat' (first
    |refine AW_seq_k fun K hK=>?_|refine Step.by1 ?_|refine SBlock_exit_ne (by decide) ?_
    |((first|refine AW_region_AO ?_);simp [wrap_i64, wrap_u8, textB];try (simp (disch:=omega) only [wrap_i64, wrap_u8];try simp [wrap_i64, wrap_u8, textB]))
    |(refine Split.by2 (fun h=>?_) (fun h=>?_)<;>(simp [h, wrap_i64, wrap_u8, textB];try (simp (disch:=omega) only [wrap_i64, wrap_u8];try simp [wrap_i64, wrap_u8, textB])))
    |refine ct rfl ?_|refine cf rfl ?_|refine cnd rfl (fun h=>?_) (fun h=>?_)|refine cd rfl (fun h=>?_) (fun h=>?_)|refine cn rfl (fun h=>?_) (fun h=>?_)|refine cc rfl (fun h=>?_) (fun h=>?_)
    |refine And.intro (by decide) ?_
    |(apply hK;clear hK K)|(refine AWh (by assumption) ?_))
    exact retq1 (conv_eq (by first | rfl | decide) rfl)
  | j + 9, h => absurd h (by omega)

end Go.Proofs.YtgmlimipejcpgaaGreatDoor
end

section
set_option linter.unusedVariables false
set_option linter.unusedSimpArgs false
namespace Go.Proofs.YtgmlimipejcpgaaGreatDoor
open Go Go.AM Fx

theorem Texts_eq (x y : ByteArray) : x = y ↔ x = y := Iff.rfl
set_option maxHeartbeats 2000000 in
theorem c_SameTexts (a b : List ByteArray) (ha : a.length ≤ 1099511627776) : PC 141 [vl (fun s : ByteArray => [V.str s]) a, vl (fun s : ByteArray => [V.str s]) b] (.bool (decide (a = b))) := by
  refine PCall_body Tryz.func141 rfl (by decide) Tryz.ntmps141 (by simp) Tryz.results141 ?_
  by_cases hab : a.length = b.length
  · have hab' : (a.length : Int) = b.length := by omega
    repeat' (first
    |refine AW_seq_k fun K hK=>?_|refine Step.by1 ?_|refine SBlock_exit_ne (by decide) ?_
    |((first|refine AW_region_AO ?_);simp [vl, hab'])
    |(refine Split.by2 (fun h=>?_) (fun h=>?_)<;>(simp [h, vl, hab']))
    |refine ct rfl ?_|refine cf rfl ?_|refine cnd rfl (fun h=>?_) (fun h=>?_)|refine cd rfl (fun h=>?_) (fun h=>?_)|refine cn rfl (fun h=>?_) (fun h=>?_)|refine cc rfl (fun h=>?_) (fun h=>?_)
    |(apply hK;clear hK K)|(refine AWh (by assumption) ?_))
    refine AW_loopL [0, 1] (fun i : Nat => [(5, .int .i64 i)]) (fun _ => []) (fun i => i ≤ a.length ∧ a.take i = b.take i) (fun i => a.length - i) 0 ⟨Nat.zero_le _, rfl⟩ (by apply Weak.mk' <;> simp) (fun _ _ => rfl) ?_
    intro i hi
    by_cases hlt : i < a.length
    · have hlb : i < b.length := by omega
      have hne : a[i] ≠ b[i] → a ≠ b := fun h e => h (by subst e; rfl)
      have hsucc := fun h => take_same hi.2 hlt hlb h
      obtain ⟨x, hx⟩ : ∃ x, a[i] = x := ⟨_, rfl⟩
      obtain ⟨y, hy⟩ : ∃ y, b[i] = y := ⟨_, rfl⟩
      rw [hx, hy] at hne hsucc
      rw [ne_eq, Texts_eq] at hne
      rw [Texts_eq] at hsucc
      repeat' (first
    |refine AW_seq_k fun K hK=>?_|refine Step.by1 ?_|refine SBlock_exit_ne (by decide) ?_
    |((first|refine AW_region_AO ?_|refine AW_region_APx (id:=6) 9 mixed (by decide) ?_);simp [vl, hlt, hlb, hx, hy, ceqs, wrap_i64];try (simp (disch:=omega) only [wrap_i64];try simp [vl, hlt, hlb, hx, hy, ceqs, wrap_i64]))
    |(refine Split.by2 (fun h=>?_) (fun h=>?_)<;>(simp [h, vl, hlt, hlb, hx, hy, ceqs, wrap_i64];try (simp (disch:=omega) only [wrap_i64];try simp [vl, hlt, hlb, hx, hy, ceqs, wrap_i64])))
    |refine ct rfl ?_|refine cf rfl ?_|refine cnd rfl (fun h=>?_) (fun h=>?_)|refine cd rfl (fun h=>?_) (fun h=>?_)|refine cn rfl (fun h=>?_) (fun h=>?_)|refine cc rfl (fun h=>?_) (fun h=>?_)
    |(apply hK;clear hK K)|(refine AWh (by assumption) ?_))
      all_goals first
        | exact retq1 (conv_eq (by simp; exact hne (by first | exact h | (simp at h; intro he; simp [he] at h))) rfl)
        | (refine ⟨i + 1, ⟨by omega, hsucc (by first | exact h | (simp at h; simp [h]))⟩, by omega, ?_⟩; apply Weak.mk' <;> simp [vl])
    · have hie : i = a.length := by omega
      subst hie
      have he : a = b := take_end hi.2 hab
      repeat' (first
    |refine AW_seq_k fun K hK=>?_|refine Step.by1 ?_|refine SBlock_exit_ne (by decide) ?_
    |((first|refine AW_region_AO ?_);simp [vl, hlt])
    |(refine Split.by2 (fun h=>?_) (fun h=>?_)<;>(simp [h, vl, hlt]))
    |refine ct rfl ?_|refine cf rfl ?_|refine cnd rfl (fun h=>?_) (fun h=>?_)|refine cd rfl (fun h=>?_) (fun h=>?_)|refine cn rfl (fun h=>?_) (fun h=>?_)|refine cc rfl (fun h=>?_) (fun h=>?_)
    |(apply hK;clear hK K)|(refine AWh (by assumption) ?_))
      exact retq1 (conv_eq (by simp [he]) rfl)
  · have hab' : ¬ (a.length : Int) = b.length := by omega
    have he : ¬ a = b := fun h => hab (by rw [h])
    repeat' (first
    |refine AW_seq_k fun K hK=>?_|refine Step.by1 ?_|refine SBlock_exit_ne (by decide) ?_
    |((first|refine AW_region_AO ?_);simp [vl, hab'])
    |(refine Split.by2 (fun h=>?_) (fun h=>?_)<;>(simp [h, vl, hab']))
    |refine ct rfl ?_|refine cf rfl ?_|refine cnd rfl (fun h=>?_) (fun h=>?_)|refine cd rfl (fun h=>?_) (fun h=>?_)|refine cn rfl (fun h=>?_) (fun h=>?_)|refine cc rfl (fun h=>?_) (fun h=>?_)
    |(apply hK;clear hK K)|(refine AWh (by assumption) ?_))
    exact retq1 (conv_eq (by simp [he]) rfl)

def markTexts (j : Nat) : List V := [.str (textB j)]
set_option maxHeartbeats 2000000 in
theorem c_HandTexts (l : List ByteArray) (hl : l.length ≤ 1099511627776) : PC 55 [vl (fun s : ByteArray => [V.str s]) l] (handV (fun s : ByteArray => [V.str s]) markTexts l) := by
  have w9 : IntKind.i64.wrap ((l.length : Int) + 9) = (l.length : Int) + 9 := wrap_i64 (by omega) (by omega)
  have t9 : ((l.length : Int) + 9).toNat = l.length + 9 := by omega
  have n9 : ((l.length : Int) + 9) * 16 ≤ 281474976710656 := by omega
  have hz : (0 : Int) ≤ (l.length : Int) + 9 := by omega
  refine PCall_body Tryz.func55 rfl (by decide) Tryz.ntmps55 (by simp) Tryz.results55 ?_
  repeat' (first
    |refine AW_seq_k fun K hK=>?_|refine Step.by1 ?_|refine SBlock_exit_ne (by decide) ?_
    |((first|refine AW_region_AO ?_);simp [vl, w9, n9, hz, t9])
    |(refine Split.by2 (fun h=>?_) (fun h=>?_)<;>(simp [h, vl, w9, n9, hz, t9]))
    |refine ct rfl ?_|refine cf rfl ?_|refine cnd rfl (fun h=>?_) (fun h=>?_)|refine cd rfl (fun h=>?_) (fun h=>?_)|refine cn rfl (fun h=>?_) (fun h=>?_)|refine cc rfl (fun h=>?_) (fun h=>?_)
    |(apply hK;clear hK K)|(refine AWh (by assumption) ?_))
  refine AW_loopL [0, 3] (fun i : Nat => [(4, .int .i64 i)]) (fun i => [.row 9 0 0 true (fillR (handF (fun s : ByteArray => [V.str s]) markTexts l) [.str ⟨#[]⟩] (l.length + 9) i)]) (fun i => i ≤ l.length) (fun i => l.length - i) 0 (Nat.zero_le _) (by apply Weak.mk' <;> simp [vl, fillR, t9]) (fun _ _ => rfl) ?_
  intro i hi
  by_cases hlt : i < l.length
  · have hlt9 : i < l.length + 9 := by omega
    have hlt8 : (i : Int) < l.length + 9 := by omega
    have hset := fillR_set (f := handF (fun s : ByteArray => [V.str s]) markTexts l) (z := [.str ⟨#[]⟩]) hlt9
    have hlen := fillR_len (f := handF (fun s : ByteArray => [V.str s]) markTexts l) (z := [.str ⟨#[]⟩]) (n := l.length + 9) (i := i) (by omega)
    have hget := fillR_get (f := handF (fun s : ByteArray => [V.str s]) markTexts l) (z := [.str ⟨#[]⟩]) hlt9
    rw [handF_in hlt] at hset
    obtain ⟨x, hx⟩ : ∃ x, l[i] = x := ⟨_, rfl⟩
    rw [hx] at hset
    generalize fillR (handF (fun s : ByteArray => [V.str s]) markTexts l) [.str ⟨#[]⟩] (l.length + 9) i = row at *
    have hrl : i < row.length := by omega
    have hri : row[i] = [.str ⟨#[]⟩] := by rw [List.getElem?_eq_getElem hrl] at hget; exact Option.some.inj hget
    repeat' (first
    |refine AW_seq_k fun K hK=>?_|refine Step.by1 ?_|refine SBlock_exit_ne (by decide) ?_
    |((first|refine AW_region_AO ?_);simp [vl, hlt, hlt9, hlt8, t9, hrl, hri, hx, hlen, ceqs, wrap_i64];try (simp (disch:=omega) only [wrap_i64];try simp [vl, hlt, hlt9, hlt8, t9, hrl, hri, hx, hlen, ceqs, wrap_i64]))
    |(refine Split.by2 (fun h=>?_) (fun h=>?_)<;>(simp [h, vl, hlt, hlt9, hlt8, t9, hrl, hri, hx, hlen, ceqs, wrap_i64];try (simp (disch:=omega) only [wrap_i64];try simp [vl, hlt, hlt9, hlt8, t9, hrl, hri, hx, hlen, ceqs, wrap_i64])))
    |refine ct rfl ?_|refine cf rfl ?_|refine cnd rfl (fun h=>?_) (fun h=>?_)|refine cd rfl (fun h=>?_) (fun h=>?_)|refine cn rfl (fun h=>?_) (fun h=>?_)|refine cc rfl (fun h=>?_) (fun h=>?_)
    |(apply hK;clear hK K)|(refine AWh (by assumption) ?_))
    refine ⟨i + 1, by omega, by omega, ?_⟩
    apply Weak.mk' <;> simp [vl]
    simpa [ceqs] using hset
  · have hie : i = l.length := by omega
    subst hie
    repeat' (first
    |refine AW_seq_k fun K hK=>?_|refine Step.by1 ?_|refine SBlock_exit_ne (by decide) ?_
    |((first|refine AW_region_AO ?_);simp [vl, hlt])
    |(refine Split.by2 (fun h=>?_) (fun h=>?_)<;>(simp [h, vl, hlt]))
    |refine ct rfl ?_|refine cf rfl ?_|refine cnd rfl (fun h=>?_) (fun h=>?_)|refine cd rfl (fun h=>?_) (fun h=>?_)|refine cn rfl (fun h=>?_) (fun h=>?_)|refine cc rfl (fun h=>?_) (fun h=>?_)
    |(apply hK;clear hK K)|(refine AWh (by assumption) ?_))
    refine AW_loopL [0, 3] (fun j : Nat => [(5, .int .i64 (l.length + j : Nat))]) (fun j => [.row 9 0 0 true (fillR (handF (fun s : ByteArray => [V.str s]) markTexts l) [.str ⟨#[]⟩] (l.length + 9) (l.length + j))]) (fun j => j ≤ 9) (fun j => 9 - j) 0 (Nat.zero_le _) (by apply Weak.mk' <;> simp [vl]) (fun _ _ => rfl) ?_
    intro j hj
    by_cases hjt : j < 9
    · have hlt9 : l.length + j < l.length + 9 := by omega
      have hset := fillR_set (f := handF (fun s : ByteArray => [V.str s]) markTexts l) (z := [.str ⟨#[]⟩]) hlt9
      have hlen := fillR_len (f := handF (fun s : ByteArray => [V.str s]) markTexts l) (z := [.str ⟨#[]⟩]) (n := l.length + 9) (i := l.length + j) (by omega)
      have hget := fillR_get (f := handF (fun s : ByteArray => [V.str s]) markTexts l) (z := [.str ⟨#[]⟩]) hlt9
      rw [handF_out] at hset
      rw [show l.length + j + 1 = l.length + (j + 1) by omega] at hset
      generalize fillR (handF (fun s : ByteArray => [V.str s]) markTexts l) [.str ⟨#[]⟩] (l.length + 9) (l.length + j) = row at *
      have hrl : l.length + j < row.length := by omega
      have hri : row[l.length + j] = [.str ⟨#[]⟩] := by rw [List.getElem?_eq_getElem hrl] at hget; exact Option.some.inj hget
      have hle : (l.length : Int) + j ≤ 1099511627785 := by omega
      have w1 : IntKind.i64.wrap (700 + ((l.length : Int) + j)) = 700 + ((l.length : Int) + j) := wrap_i64 (by omega) (by omega)
      have w2 : IntKind.i64.wrap (700 + ((l.length : Int) + j) - l.length) = 700 + (j : Int) := by rw [wrap_i64 (by omega) (by omega)]; omega
      have hct := c_text j hjt
      have w3 : IntKind.i64.wrap ((l.length : Int) + j + 1) = (l.length : Int) + j + 1 := wrap_i64 (by omega) (by omega)
      have hjn : ((l.length : Int) + j).toNat = l.length + j := by omega
      have hj0 : (0 : Int) ≤ (l.length : Int) + j := by omega
      have hj1 : (l.length : Int) + j < (l.length : Int) + 9 := by omega
      have hjt' : (j : Int) < 9 := by omega
      repeat' (first
    |refine AW_seq_k fun K hK=>?_|refine Step.by1 ?_|refine SBlock_exit_ne (by decide) ?_
    |((first|refine AW_region_AO ?_|refine AW_region_APx (id:=7) 11 mixed (by decide) ?_|refine AS_call1 (f:=127) rfl rfl (hct) rfl rfl rfl ?_|refine AP_call1 (f:=127) rfl rfl (hct) rfl rfl rfl ?_);simp [vl, hlt9, hrl, hri, hlen, w1, w2, w3, hjn, hj0, hj1, hjt', hjt, t9])
    |(refine Split.by2 (fun h=>?_) (fun h=>?_)<;>(simp [h, vl, hlt9, hrl, hri, hlen, w1, w2, w3, hjn, hj0, hj1, hjt', hjt, t9]))
    |refine ct rfl ?_|refine cf rfl ?_|refine cnd rfl (fun h=>?_) (fun h=>?_)|refine cd rfl (fun h=>?_) (fun h=>?_)|refine cn rfl (fun h=>?_) (fun h=>?_)|refine cc rfl (fun h=>?_) (fun h=>?_)
    |(apply hK;clear hK K)|(refine AWh (by assumption) ?_))
      refine ⟨j + 1, by omega, by omega, ?_⟩
      apply Weak.mk' <;> simp [vl]
      · omega
      · simpa [markTexts] using hset
    · have hje : j = 9 := by omega
      subst hje
      have hfin : fillR (handF (fun s : ByteArray => [V.str s]) markTexts l) [.str ⟨#[]⟩] (l.length + 9) (l.length + 9) = l.map (fun s : ByteArray => [V.str s]) ++ (List.range 9).map markTexts := by unfold fillR; rw [range_hand]; simp
      rw [hfin]
      repeat' (first
    |refine AW_seq_k fun K hK=>?_|refine Step.by1 ?_|refine SBlock_exit_ne (by decide) ?_
    |((first|refine AW_region_AO ?_);simp [vl, t9])
    |(refine Split.by2 (fun h=>?_) (fun h=>?_)<;>(simp [h, vl, t9]))
    |refine ct rfl ?_|refine cf rfl ?_|refine cnd rfl (fun h=>?_) (fun h=>?_)|refine cd rfl (fun h=>?_) (fun h=>?_)|refine cn rfl (fun h=>?_) (fun h=>?_)|refine cc rfl (fun h=>?_) (fun h=>?_)
    |(apply hK;clear hK K)|(refine AWh (by assumption) ?_))
      exact retq1 (.inl ⟨1, by simp [handV], rfl⟩)

theorem trims_Texts (x : ByteArray) : V.trims ((fun s : ByteArray => [V.str s]) x) = (fun s : ByteArray => [V.str s]) x := trims_map _ (by simp [ceqs, V.trim])
theorem trim_handTexts (l : List ByteArray) : (handV (fun s : ByteArray => [V.str s]) markTexts l).trim = vl (fun s : ByteArray => [V.str s]) l := trim_pad _ fun x _ => trims_Texts x
theorem trim_vlTexts (l : List ByteArray) : (vl (fun s : ByteArray => [V.str s]) l).trim = vl (fun s : ByteArray => [V.str s]) l := trim_vl fun x _ => trims_Texts x
set_option maxHeartbeats 2000000 in
theorem c_KeptTexts (l : List ByteArray) (hl : l.length ≤ 1099511627776) : PC 71 [handV (fun s : ByteArray => [V.str s]) markTexts l, vl (fun s : ByteArray => [V.str s]) l] (.bool true) := by
  have hs := (c_SameTexts l l hl).trim (args := [handV (fun s : ByteArray => [V.str s]) markTexts l, vl (fun s : ByteArray => [V.str s]) l]) (by simp only [V.trims, trim_handTexts, trim_vlTexts])
  have w9 : IntKind.i64.wrap ((l.length : Int) + 9) = (l.length : Int) + 9 := wrap_i64 (by omega) (by omega)
  have t9 : ((l.length : Int) + 9).toNat = l.length + 9 := by omega
  have hz : (0 : Int) ≤ (l.length : Int) + 9 := by omega
  obtain ⟨row, hrow⟩ : ∃ row, l.map (fun s : ByteArray => [V.str s]) ++ (List.range 9).map markTexts = row := ⟨_, rfl⟩
  have hlen : row.length = l.length + 9 := by rw [← hrow]; simp
  have hall : ∀ x ∈ row, x.length = 1 := fun x hx => by
    rw [← hrow] at hx
    rcases List.mem_append.1 hx with h | h
    · obtain ⟨y, _, rfl⟩ := List.mem_map.1 h; rfl
    · obtain ⟨y, _, rfl⟩ := List.mem_map.1 h; rfl
  have hget : ∀ j, j < 9 → row[l.length + j]? = some (markTexts j) := fun j hj => by
    rw [← hrow, List.getElem?_append_right (by simp), List.length_map, Nat.add_sub_cancel_left, List.getElem?_map, List.getElem?_range hj]; rfl
  simp only [handV, hrow, vl, decide_true] at hs
  unfold handV
  rw [hrow]
  refine PCall_body Tryz.func71 rfl (by decide) Tryz.ntmps71 (by simp) Tryz.results71 ?_
  repeat' (first
    |refine AW_seq_k fun K hK=>?_|refine Step.by1 ?_|refine SBlock_exit_ne (by decide) ?_
    |((first|refine AW_region_AO ?_|refine AS_call1 (f:=141) rfl rfl (hs) rfl rfl rfl ?_);simp [vl, w9, t9, hz, hlen])
    |(refine Split.by2 (fun h=>?_) (fun h=>?_)<;>(simp [h, vl, w9, t9, hz, hlen]))
    |refine ct rfl ?_|refine cf rfl ?_|refine cnd rfl (fun h=>?_) (fun h=>?_)|refine cd rfl (fun h=>?_) (fun h=>?_)|refine cn rfl (fun h=>?_) (fun h=>?_)|refine cc rfl (fun h=>?_) (fun h=>?_)
    |refine And.intro hall ?_
    |(apply hK;clear hK K)|(refine AWh (by assumption) ?_))
  refine AW_loopL [1, 5] (fun j : Nat => [(6, .int .i64 (l.length + j : Nat))]) (fun _ => []) (fun j => j ≤ 9) (fun j => 9 - j) 0 (Nat.zero_le _) (by apply Weak.mk' <;> simp [vl]) (fun _ _ => rfl) ?_
  intro j hj
  by_cases hjt : j < 9
  · have hm := hget j hjt
    have hrl : l.length + j < row.length := by omega
    have hri : row[l.length + j] = markTexts j := by rw [List.getElem?_eq_getElem hrl] at hm; exact Option.some.inj hm
    have w1 : IntKind.i64.wrap (700 + ((l.length : Int) + j)) = 700 + ((l.length : Int) + j) := wrap_i64 (by omega) (by omega)
    have w2 : IntKind.i64.wrap (700 + ((l.length : Int) + j) - l.length) = 700 + (j : Int) := by rw [wrap_i64 (by omega) (by omega)]; omega
    have hct := c_text j hjt
    have w3 : IntKind.i64.wrap ((l.length : Int) + j + 1) = (l.length : Int) + j + 1 := wrap_i64 (by omega) (by omega)
    have hjn : ((l.length : Int) + j).toNat = l.length + j := by omega
    have hj0 : (0 : Int) ≤ (l.length : Int) + j := by omega
    have hj1 : (l.length : Int) + j < (l.length : Int) + 9 := by omega
    have hjt' : (j : Int) < 9 := by omega
    repeat' (first
    |refine AW_seq_k fun K hK=>?_|refine Step.by1 ?_|refine SBlock_exit_ne (by decide) ?_
    |((first|refine AW_region_AO ?_|refine AW_region_APx (id:=7) 11 mixed (by decide) ?_|refine AS_call1 (f:=127) rfl rfl (hct) rfl rfl rfl ?_|refine AP_call1 (f:=127) rfl rfl (hct) rfl rfl rfl ?_);simp [vl, hrl, hri, hlen, w1, w2, w3, hjn, hj0, hj1, hjt', hjt, t9, markTexts])
    |(refine Split.by2 (fun h=>?_) (fun h=>?_)<;>(simp [h, vl, hrl, hri, hlen, w1, w2, w3, hjn, hj0, hj1, hjt', hjt, t9, markTexts]))
    |refine ct rfl ?_|refine cf rfl ?_|refine cnd rfl (fun h=>?_) (fun h=>?_)|refine cd rfl (fun h=>?_) (fun h=>?_)|refine cn rfl (fun h=>?_) (fun h=>?_)|refine cc rfl (fun h=>?_) (fun h=>?_)
    |(apply hK;clear hK K)|(refine AWh (by assumption) ?_))
    refine ⟨j + 1, by omega, by omega, ?_⟩
    apply Weak.mk' <;> simp [vl]
    omega
  · have hje : j = 9 := by omega
    subst hje
    repeat' (first
    |refine AW_seq_k fun K hK=>?_|refine Step.by1 ?_|refine SBlock_exit_ne (by decide) ?_
    |((first|refine AW_region_AO ?_);simp [vl, t9])
    |(refine Split.by2 (fun h=>?_) (fun h=>?_)<;>(simp [h, vl, t9]))
    |refine ct rfl ?_|refine cf rfl ?_|refine cnd rfl (fun h=>?_) (fun h=>?_)|refine cd rfl (fun h=>?_) (fun h=>?_)|refine cn rfl (fun h=>?_) (fun h=>?_)|refine cc rfl (fun h=>?_) (fun h=>?_)
    |(apply hK;clear hK K)|(refine AWh (by assumption) ?_))
    exact retq1 (conv_eq rfl rfl)

end Go.Proofs.YtgmlimipejcpgaaGreatDoor
end

section
set_option linter.unusedVariables false
set_option linter.unusedSimpArgs false
namespace Go.Proofs.YtgmlimipejcpgaaGreatDoor
open Go Go.AM Fx
/-! Networks held against one another. -/
theorem SetD_eq (x y : SetD) : x = y ↔ (x.clock = y.clock ∧ x.n = y.n ∧ x.var = y.var ∧ x.expr = y.expr) := by cases x; cases y; simp
theorem LocD_eq (x y : LocD) : x = y ↔ (x.name = y.name ∧ x.kind = y.kind ∧ x.inv = y.inv) := by cases x; cases y; simp
theorem EdgeD_eq (x y : EdgeD) : x = y ↔ (x.frm = y.frm ∧ x.to = y.to ∧ x.chan = y.chan ∧ x.send = y.send ∧ x.guards = y.guards ∧ x.test = y.test ∧ x.sets = y.sets) := by
  cases x; cases y; simp only [EdgeD.mk.injEq]; constructor
  · rintro ⟨h1, h2, h3, h4, h5, h6, h7⟩; exact ⟨h1, h2, h5, h6, h3, h4, h7⟩
  · rintro ⟨h1, h2, h5, h6, h3, h4, h7⟩; exact ⟨h1, h2, h3, h4, h5, h6, h7⟩
theorem VarD_eq (x y : VarD) : x = y ↔ (x.name = y.name ∧ x.lo = y.lo ∧ x.hi = y.hi ∧ x.init = y.init) := by cases x; cases y; simp
theorem AutoD_eq (x y : AutoD) : x = y ↔ (x.name = y.name ∧ x.locs = y.locs ∧ x.edges = y.edges) := by cases x; cases y; simp
theorem NetD_eq (x y : NetD) : x = y ↔ (x.clocks = y.clocks ∧ x.chans = y.chans ∧ x.vars = y.vars ∧ x.autos = y.autos) := by
  cases x; cases y; simp only [NetD.mk.injEq]; constructor
  · rintro ⟨h1, h2, h3, h4⟩; exact ⟨h1, h3, h2, h4⟩
  · rintro ⟨h1, h3, h2, h4⟩; exact ⟨h1, h2, h3, h4⟩
theorem mem_at {α : Type} {l : List α} {i : Nat} {x : α} (h : i < l.length) (hx : l[i] = x) : x ∈ l := hx ▸ List.getElem_mem h

end Go.Proofs.YtgmlimipejcpgaaGreatDoor
end

section
set_option linter.unusedVariables false
set_option linter.unusedSimpArgs false
namespace Go.Proofs.YtgmlimipejcpgaaGreatDoor
open Go Go.AM Fx
set_option maxHeartbeats 4000000 in
theorem c_sameSets (a b : List SetD) (ha : a.length ≤ 1048576 ∧ ∀ x ∈ a, x.ok) : PC 199 [vl SetD.cells a, vl SetD.cells b] (.bool (decide (a = b))) := by
  have hal := ha.1
  refine PCall_body Tryz.func199 rfl (by decide) Tryz.ntmps199 (by simp) Tryz.results199 ?_
  by_cases hab : a.length = b.length
  · have hab' : (a.length : Int) = b.length := by omega
    repeat' (first
    |refine AW_seq_k fun K hK=>?_|refine Step.by1 ?_|refine SBlock_exit_ne (by decide) ?_
    |((first|refine AW_region_AO ?_);simp [vl, hab'])
    |(refine Split.by2 (fun h=>?_) (fun h=>?_)<;>(simp [h, vl, hab']))
    |refine ct rfl ?_|refine cf rfl ?_|refine cnd rfl (fun h=>?_) (fun h=>?_)|refine cd rfl (fun h=>?_) (fun h=>?_)|refine cn rfl (fun h=>?_) (fun h=>?_)|refine cc rfl (fun h=>?_) (fun h=>?_)
    |(apply hK;clear hK K)|(refine AWh (by assumption) ?_))
    refine AW_loopL [0, 1] (fun i : Nat => [(5, .int .i64 i)]) (fun _ => []) (fun i => i ≤ a.length ∧ a.take i = b.take i) (fun i => a.length - i) 0 ⟨Nat.zero_le _, rfl⟩ (by apply Weak.mk' <;> simp) (fun _ _ => rfl) ?_
    intro i hi
    by_cases hlt : i < a.length
    · have hlb : i < b.length := by omega
      have hne : a[i] ≠ b[i] → a ≠ b := fun h e => h (by subst e; rfl)
      have hsucc := fun h => take_same hi.2 hlt hlb h
      have hok := ha.2 a[i] (List.getElem_mem hlt)
      obtain ⟨x, hx⟩ : ∃ x, a[i] = x := ⟨_, rfl⟩
      obtain ⟨y, hy⟩ : ∃ y, b[i] = y := ⟨_, rfl⟩
      rw [hx] at hok
      rw [hx, hy] at hne hsucc
      rw [ne_eq, SetD_eq] at hne
      rw [SetD_eq] at hsucc
      have hcall := c_SameNodes x.expr y.expr (by have := hok.2.2.2.1; omega)
      repeat' (first
    |refine AW_seq_k fun K hK=>?_|refine Step.by1 ?_|refine SBlock_exit_ne (by decide) ?_
    |((first|refine AW_region_AO ?_|refine AW_region_APx (id:=6) 51 mixed (by decide) ?_|refine AP_call1 (f:=144) rfl rfl (hcall) rfl rfl rfl ?_);simp [vl, hlt, hlb, hx, hy, SetD.cells, wrap_i64];try (simp (disch:=omega) only [wrap_i64];try simp [vl, hlt, hlb, hx, hy, SetD.cells, wrap_i64]))
    |(refine Split.by2 (fun h=>?_) (fun h=>?_)<;>(simp [h, vl, hlt, hlb, hx, hy, SetD.cells, wrap_i64];try (simp (disch:=omega) only [wrap_i64];try simp [vl, hlt, hlb, hx, hy, SetD.cells, wrap_i64])))
    |refine ct rfl ?_|refine cf rfl ?_|refine cnd rfl (fun h=>?_) (fun h=>?_)|refine cd rfl (fun h=>?_) (fun h=>?_)|refine cn rfl (fun h=>?_) (fun h=>?_)|refine cc rfl (fun h=>?_) (fun h=>?_)
    |(apply hK;clear hK K)|(refine AWh (by assumption) ?_))
      all_goals first
        | exact retq1 (conv_eq (by simp; exact hne (by simp_all)) rfl)
        | (refine ⟨i + 1, ⟨by omega, hsucc (by simp_all)⟩, by omega, ?_⟩; apply Weak.mk' <;> simp [vl])
        | trace_state
    · have hie : i = a.length := by omega
      subst hie
      have he : a = b := take_end hi.2 hab
      repeat' (first
    |refine AW_seq_k fun K hK=>?_|refine Step.by1 ?_|refine SBlock_exit_ne (by decide) ?_
    |((first|refine AW_region_AO ?_);simp [vl, hlt])
    |(refine Split.by2 (fun h=>?_) (fun h=>?_)<;>(simp [h, vl, hlt]))
    |refine ct rfl ?_|refine cf rfl ?_|refine cnd rfl (fun h=>?_) (fun h=>?_)|refine cd rfl (fun h=>?_) (fun h=>?_)|refine cn rfl (fun h=>?_) (fun h=>?_)|refine cc rfl (fun h=>?_) (fun h=>?_)
    |(apply hK;clear hK K)|(refine AWh (by assumption) ?_))
      exact retq1 (conv_eq (by simp [he]) rfl)
  · have hab' : ¬ (a.length : Int) = b.length := by omega
    have he : ¬ a = b := fun h => hab (by rw [h])
    repeat' (first
    |refine AW_seq_k fun K hK=>?_|refine Step.by1 ?_|refine SBlock_exit_ne (by decide) ?_
    |((first|refine AW_region_AO ?_);simp [vl, hab'])
    |(refine Split.by2 (fun h=>?_) (fun h=>?_)<;>(simp [h, vl, hab']))
    |refine ct rfl ?_|refine cf rfl ?_|refine cnd rfl (fun h=>?_) (fun h=>?_)|refine cd rfl (fun h=>?_) (fun h=>?_)|refine cn rfl (fun h=>?_) (fun h=>?_)|refine cc rfl (fun h=>?_) (fun h=>?_)
    |(apply hK;clear hK K)|(refine AWh (by assumption) ?_))
    exact retq1 (conv_eq (by simp [he]) rfl)

end Go.Proofs.YtgmlimipejcpgaaGreatDoor
end

section
set_option linter.unusedVariables false
set_option linter.unusedSimpArgs false
namespace Go.Proofs.YtgmlimipejcpgaaGreatDoor
open Go Go.AM Fx
theorem beq_dec (a b : Bool) : (a == b) = decide (a = b) := by cases a <;> cases b <;> rfl
set_option maxRecDepth 40000 in
set_option maxHeartbeats 16000000 in
theorem c_sameAuto (a b : AutoD) (ha : a.ok) : PC 142 [.agg a.cells, .agg b.cells] (.bool (decide (a = b))) := by
  obtain ⟨ha1, ⟨ha2, ha3⟩, ha4, ha5⟩ := ha
  refine PCall_body Tryz.func142 rfl (by decide) Tryz.ntmps142 (by simp) Tryz.results142 ?_
  by_cases h0 : a.name = b.name ∧ a.locs.length = b.locs.length ∧ a.edges.length = b.edges.length
  · obtain ⟨e0, e1, e2⟩ := h0
    have e1' : (a.locs.length : Int) = b.locs.length := by omega
    have e2' : (a.edges.length : Int) = b.edges.length := by omega
    repeat' (first
    |refine AW_seq_k fun K hK=>?_|refine Step.by1 ?_|refine SBlock_exit_ne (by decide) ?_
    |((first|refine AW_region_AO ?_);simp [vl, AutoD.cells, e0, e1', e2'])
    |(refine Split.by2 (fun h=>?_) (fun h=>?_)<;>(simp [h, vl, AutoD.cells, e0, e1', e2']))
    |refine ct rfl ?_|refine cf rfl ?_|refine cnd rfl (fun h=>?_) (fun h=>?_)|refine cd rfl (fun h=>?_) (fun h=>?_)|refine cn rfl (fun h=>?_) (fun h=>?_)|refine cc rfl (fun h=>?_) (fun h=>?_)
    |(apply hK;clear hK K)|(refine AWh (by assumption) ?_))
    refine AW_loopL [2, 3] (fun i : Nat => [(5, .int .i64 i)]) (fun _ => [.var a.cells, .var b.cells]) (fun i => i ≤ a.locs.length ∧ a.locs.take i = b.locs.take i) (fun i => a.locs.length - i) 0 ⟨Nat.zero_le _, rfl⟩ (by apply Weak.mk' <;> simp [vl, AutoD.cells, e0]) (fun _ _ => rfl) ?_
    intro i hi
    by_cases hlt : i < a.locs.length
    · have hlb : i < b.locs.length := by omega
      have hne : a.locs[i] ≠ b.locs[i] → a ≠ b := fun h e => h (by subst e; rfl)
      have hsucc := fun h => take_same hi.2 hlt hlb h
      have hok := ha3 a.locs[i] (List.getElem_mem hlt)
      obtain ⟨x, hx⟩ : ∃ x, a.locs[i] = x := ⟨_, rfl⟩
      obtain ⟨y, hy⟩ : ∃ y, b.locs[i] = y := ⟨_, rfl⟩
      rw [hx] at hok
      rw [hx, hy] at hne hsucc
      rw [ne_eq, LocD_eq] at hne
      rw [LocD_eq] at hsucc
      have hcall := c_SameGuards x.inv y.inv (by have := hok.2.2.1; omega)
      repeat' (first
    |refine AW_seq_k fun K hK=>?_|refine Step.by1 ?_|refine SBlock_exit_ne (by decide) ?_
    |((first|refine AW_region_AO ?_|refine AW_region_APx (id:=6) 44 mixed (by decide) ?_|refine AP_call1 (f:=143) rfl rfl (hcall) rfl rfl rfl ?_);simp [vl, AutoD.cells, LocD.cells, hlt, hlb, hx, hy, wrap_i64];try (simp (disch:=omega) only [wrap_i64];try simp [vl, AutoD.cells, LocD.cells, hlt, hlb, hx, hy, wrap_i64]))
    |(refine Split.by2 (fun h=>?_) (fun h=>?_)<;>(simp [h, vl, AutoD.cells, LocD.cells, hlt, hlb, hx, hy, wrap_i64];try (simp (disch:=omega) only [wrap_i64];try simp [vl, AutoD.cells, LocD.cells, hlt, hlb, hx, hy, wrap_i64])))
    |refine ct rfl ?_|refine cf rfl ?_|refine cnd rfl (fun h=>?_) (fun h=>?_)|refine cd rfl (fun h=>?_) (fun h=>?_)|refine cn rfl (fun h=>?_) (fun h=>?_)|refine cc rfl (fun h=>?_) (fun h=>?_)
    |(apply hK;clear hK K)|(refine AWh (by assumption) ?_))
      all_goals first
        | exact retq1 (conv_eq (by simp; exact hne (fun hh => by first | exact h hh.1 | exact h hh.2.1 | exact h hh.2.2 | exact h hh.2.2.1 | exact h hh.2.2.2.1 | exact h hh.2.2.2.2.1 | exact h hh.2.2.2.2.2.1 | exact h hh.2.2.2.2.2.2 | simp_all)) rfl)
        | (refine ⟨i + 1, ⟨by omega, hsucc (by simp_all)⟩, by omega, ?_⟩; apply Weak.mk' <;> simp [vl, AutoD.cells])
        | trace_state
    · have hie : i = a.locs.length := by omega
      subst hie
      have hel : a.locs = b.locs := take_end hi.2 e1
      repeat' (first
    |refine AW_seq_k fun K hK=>?_|refine Step.by1 ?_|refine SBlock_exit_ne (by decide) ?_
    |((first|refine AW_region_AO ?_);simp [vl, AutoD.cells, hlt])
    |(refine Split.by2 (fun h=>?_) (fun h=>?_)<;>(simp [h, vl, AutoD.cells, hlt]))
    |refine ct rfl ?_|refine cf rfl ?_|refine cnd rfl (fun h=>?_) (fun h=>?_)|refine cd rfl (fun h=>?_) (fun h=>?_)|refine cn rfl (fun h=>?_) (fun h=>?_)|refine cc rfl (fun h=>?_) (fun h=>?_)
    |(apply hK;clear hK K)|(refine AWh (by assumption) ?_))
      refine AW_loopL [2, 3] (fun i : Nat => [(6, .int .i64 i)]) (fun _ => [.var a.cells, .var b.cells]) (fun i => i ≤ a.edges.length ∧ a.edges.take i = b.edges.take i) (fun i => a.edges.length - i) 0 ⟨Nat.zero_le _, rfl⟩ (by apply Weak.mk' <;> simp [vl, AutoD.cells, e0]) (fun _ _ => rfl) ?_
      intro i hi
      by_cases hlt : i < a.edges.length
      · have hlb : i < b.edges.length := by omega
        have hne : a.edges[i] ≠ b.edges[i] → a ≠ b := fun h e => h (by subst e; rfl)
        have hsucc := fun h => take_same hi.2 hlt hlb h
        have hok := ha5 a.edges[i] (List.getElem_mem hlt)
        obtain ⟨x, hx⟩ : ∃ x, a.edges[i] = x := ⟨_, rfl⟩
        obtain ⟨y, hy⟩ : ∃ y, b.edges[i] = y := ⟨_, rfl⟩
        rw [hx] at hok
        rw [hx, hy] at hne hsucc
        rw [ne_eq, EdgeD_eq] at hne
        rw [EdgeD_eq] at hsucc
        obtain ⟨_, _, ok3, ok4, _, _, ok7⟩ := hok
        have hc1 := c_SameGuards x.guards y.guards (by have := ok3.1; omega)
        have hc2 := c_SameNodes x.test y.test (by have := ok4.1; omega)
        have hc3 := c_sameSets x.sets y.sets ok7
        repeat' (first
    |refine AW_seq_k fun K hK=>?_|refine Step.by1 ?_|refine SBlock_exit_ne (by decide) ?_
    |((first|refine AW_region_AO ?_|refine AS_call1 (f:=143) rfl rfl (hc1) rfl rfl rfl ?_|refine AS_call1 (f:=144) rfl rfl (hc2) rfl rfl rfl ?_|refine AS_call1 (f:=199) rfl rfl (hc3) rfl rfl rfl ?_);simp [vl, AutoD.cells, EdgeD.cells, hlt, hlb, hx, hy, beq_dec, wrap_i64];try (simp (disch:=omega) only [wrap_i64];try simp [vl, AutoD.cells, EdgeD.cells, hlt, hlb, hx, hy, beq_dec, wrap_i64]))
    |(refine Split.by2 (fun h=>?_) (fun h=>?_)<;>(simp [h, vl, AutoD.cells, EdgeD.cells, hlt, hlb, hx, hy, beq_dec, wrap_i64];try (simp (disch:=omega) only [wrap_i64];try simp [vl, AutoD.cells, EdgeD.cells, hlt, hlb, hx, hy, beq_dec, wrap_i64])))
    |refine ct rfl ?_|refine cf rfl ?_|refine cnd rfl (fun h=>?_) (fun h=>?_)|refine cd rfl (fun h=>?_) (fun h=>?_)|refine cn rfl (fun h=>?_) (fun h=>?_)|refine cc rfl (fun h=>?_) (fun h=>?_)
    |(apply hK;clear hK K)|(refine AWh (by assumption) ?_))
        all_goals first
          | exact retq1 (conv_eq (by simp; exact hne (fun hh => by first | exact h hh.1 | exact h hh.2.1 | exact h hh.2.2 | exact h hh.2.2.1 | exact h hh.2.2.2.1 | exact h hh.2.2.2.2.1 | exact h hh.2.2.2.2.2.1 | exact h hh.2.2.2.2.2.2 | simp_all)) rfl)
          | (refine ⟨i + 1, ⟨by omega, hsucc (by simp_all)⟩, by omega, ?_⟩; apply Weak.mk' <;> simp [vl, AutoD.cells])
          | (exfalso; first | contradiction | (simp_all; done))
          | trace_state
      · have hie : i = a.edges.length := by omega
        subst hie
        have hee : a.edges = b.edges := take_end hi.2 e2
        have he : a = b := (AutoD_eq a b).2 ⟨e0, hel, hee⟩
        repeat' (first
    |refine AW_seq_k fun K hK=>?_|refine Step.by1 ?_|refine SBlock_exit_ne (by decide) ?_
    |((first|refine AW_region_AO ?_);simp [vl, AutoD.cells, hlt])
    |(refine Split.by2 (fun h=>?_) (fun h=>?_)<;>(simp [h, vl, AutoD.cells, hlt]))
    |refine ct rfl ?_|refine cf rfl ?_|refine cnd rfl (fun h=>?_) (fun h=>?_)|refine cd rfl (fun h=>?_) (fun h=>?_)|refine cn rfl (fun h=>?_) (fun h=>?_)|refine cc rfl (fun h=>?_) (fun h=>?_)
    |(apply hK;clear hK K)|(refine AWh (by assumption) ?_))
        exact retq1 (conv_eq (by simp [he]) rfl)
  · have he : ¬ a = b := fun h => h0 (by subst h; exact ⟨rfl, rfl, rfl⟩)
    repeat' (first
    |refine AW_seq_k fun K hK=>?_|refine Step.by1 ?_|refine SBlock_exit_ne (by decide) ?_
    |((first|refine AW_region_AO ?_);simp [vl, AutoD.cells])
    |(refine Split.by2 (fun h=>?_) (fun h=>?_)<;>(simp [h, vl, AutoD.cells]))
    |refine ct rfl ?_|refine cf rfl ?_|refine cnd rfl (fun h=>?_) (fun h=>?_)|refine cd rfl (fun h=>?_) (fun h=>?_)|refine cn rfl (fun h=>?_) (fun h=>?_)|refine cc rfl (fun h=>?_) (fun h=>?_)
    |(apply hK;clear hK K)|(refine AWh (by assumption) ?_))
    all_goals first
      | exact retq1 (conv_eq (by simp [he]) rfl)
      | (exfalso; exact h0 ⟨by assumption, by omega, by omega⟩)
      | trace_state
end Go.Proofs.YtgmlimipejcpgaaGreatDoor
end

section
set_option linter.unusedVariables false
set_option linter.unusedSimpArgs false
namespace Go.Proofs.YtgmlimipejcpgaaGreatDoor
open Go Go.AM Fx
/-! A copy of a network with marked room. -/
def strC (s : ByteArray) : List V := [.str s]
def LocD.hcells (x : LocD) : List V := [.str x.name, .int .u8 x.kind, handV GuardD.cells markGuards x.inv]
def SetD.hcells (x : SetD) : List V := [.int .i64 x.clock, .int .i64 x.n, .int .i64 x.var, handV NodeD.cells markNodes x.expr]
def EdgeD.hcells (x : EdgeD) : List V := [.int .i64 x.frm, .int .i64 x.to, handV GuardD.cells markGuards x.guards, handV NodeD.cells markNodes x.test, .int .i64 x.chan, .bool x.send, vl SetD.hcells x.sets]
def AutoD.hcells (x : AutoD) : List V := [.str x.name, vl LocD.hcells x.locs, vl EdgeD.hcells x.edges]
def NetD.hcells (x : NetD) : List V := [handV (fun s => [V.str s]) markTexts x.clocks, vl VarD.cells x.vars, handV (fun s => [V.str s]) markTexts x.chans, vl AutoD.hcells x.autos]
/-- The beginning of a list, told. -/
def pre {α : Type} (c : α → List V) (l : List α) (i : Nat) : List (List V) := (l.take i).map c
theorem pre_len {α : Type} {c : α → List V} {l : List α} {i : Nat} (h : i ≤ l.length) : (pre c l i).length = i := by simp [pre]; omega
theorem pre_zero {α : Type} {c : α → List V} {l : List α} : pre c l 0 = [] := rfl
theorem pre_succ {α : Type} {c : α → List V} {l : List α} {i : Nat} (h : i < l.length) : pre c l (i + 1) = pre c l i ++ [c l[i]] := by
  unfold pre; rw [List.take_add_one, List.getElem?_eq_getElem h, List.map_append]; rfl
theorem pre_end {α : Type} {c : α → List V} {l : List α} : pre c l l.length = l.map c := by simp [pre]
def hnBase (n : NetD) (i : Nat) : List B := [.var n.cells, .var [.nils, .nils, .nils, .nils], .var [handV (fun s => [V.str s]) markTexts n.clocks, .ref 4 0 0 n.vars.length, handV (fun s => [V.str s]) markTexts n.chans, .ref 3 i 0 i],
  .row 104 i 0 true (pre AutoD.hcells n.autos i), .row 167 0 0 true (n.vars.map VarD.cells)]
def hnAuto (a : AutoD) (k m : Nat) : List B := [.var [.str a.name, .ref 6 k 0 k, .ref 7 m 0 m], .row 108 k 0 true (pre LocD.hcells a.locs k), .row 113 m 0 true (pre EdgeD.hcells a.edges m)]
def hnEdge (y : EdgeD) (q : Nat) : List B := [.var [.int .i64 y.frm, .int .i64 y.to, handV GuardD.cells markGuards y.guards, handV NodeD.cells markNodes y.test, .int .i64 y.chan, .bool y.send, vl SetD.cells y.sets], .row 116 q 0 true (pre SetD.hcells y.sets q)]
theorem hand_len {α : Type} {c : α → List V} {mark : Nat → List V} {l : List α} : (V.cellsOf (handV c mark l)).length = 1 := rfl

set_option maxRecDepth 8000 in
set_option maxHeartbeats 8000000 in
theorem c_HandNet (n : NetD) (hn : n.ok) : PC 11 [.agg n.cells] (.agg n.hcells) := by
  obtain ⟨⟨h1, _⟩, ⟨h2, _⟩, ⟨h3, _⟩, h4, h5⟩ := hn
  have hc1 := c_HandTexts n.clocks (by omega)
  simp only [handV, vl] at hc1
  have hc2 := c_HandTexts n.chans (by omega)
  simp only [handV, vl] at hc2
  have htk : (n.vars.map VarD.cells).take n.vars.length = n.vars.map VarD.cells := List.take_of_length_le (by simp)
  have hb1 : n.vars.length * 40 ≤ 140737488355328 := by omega
  refine PCall_body Tryz.func11 rfl (by decide) Tryz.ntmps11 (by simp) Tryz.results11 ?_
  repeat' (first
    |refine AW_nilcell 2 3 104 rfl rfl (by simp) ?_
    |refine AW_seq_k fun K hK=>?_|refine Step.by1 ?_|refine SBlock_exit_ne (by decide) ?_
    |((first|refine AW_region_AO ?_);simp [NetD.cells, vl, handV, htk, hb1])
    |(refine Split.by2 (fun h=>?_) (fun h=>?_)<;>(simp [h, NetD.cells, vl, handV, htk, hb1]))
    |refine ct rfl ?_|refine cf rfl ?_|refine cnd rfl (fun h=>?_) (fun h=>?_)|refine cd rfl (fun h=>?_) (fun h=>?_)|refine cn rfl (fun h=>?_) (fun h=>?_)|refine cc rfl (fun h=>?_) (fun h=>?_)
    | (refine AW_region_APA (id := 1) 8 7 [.nils, .nils, .nils, .nils] mixed (by decide) (by decide) ?_; simp [NetD.cells, vl, handV, htk, hb1])
    | (refine APA_nil ?_; simp [NetD.cells, vl, handV, htk, hb1])
    | (refine APA_alloc (by rfl) rfl ?_; simp [NetD.cells, vl, handV, htk, hb1])
    | (refine APA_still (by decide) rfl rfl (by simp [NetD.cells, vl, handV, htk, hb1]) (by simp [Op.operands, Call.operands, NetD.cells, vl, handV, htk, hb1]) ?_; simp [NetD.cells, vl, handV, htk, hb1])
    | (refine APA_call (f := 55) (by decide) rfl rfl (hc1) rfl rfl rfl (by simp [Op.operands, Call.operands, NetD.cells, vl, handV, htk, hb1]) ?_; simp [NetD.cells, vl, handV, htk, hb1])
    | (refine APA_call (f := 55) (by decide) rfl rfl (hc2) rfl rfl rfl (by simp [Op.operands, Call.operands, NetD.cells, vl, handV, htk, hb1]) ?_; simp [NetD.cells, vl, handV, htk, hb1])
    |(apply hK;clear hK K)|(refine AWh (by assumption) ?_))
  refine AW_loopL [1, 2, 3] (fun i : Nat => [(4, .int .i64 i)]) (hnBase n) (fun i => i ≤ n.autos.length) (fun i => n.autos.length - i) 0 (Nat.zero_le _) (by apply Weak.mk' <;> simp [hnBase, NetD.cells, vl, handV, pre_zero]) (fun _ _ => rfl) ?_
  intro i hi
  by_cases hlt : i < n.autos.length
  · have hps := pre_succ (c := AutoD.hcells) hlt
    have hpl := pre_len (c := AutoD.hcells) hi
    have hok := h5 _ (List.getElem_mem hlt)
    obtain ⟨a, ha⟩ : ∃ a, n.autos[i] = a := ⟨_, rfl⟩
    rw [ha] at hps hok
    obtain ⟨_, ⟨hl1, hl2⟩, he1, he2⟩ := hok
    have hlt' : (i : Int) < n.autos.length := by omega
    repeat' (first
    |refine AW_nilcell 5 1 108 rfl rfl (by simp) ?_
    |refine AW_nilcell 5 2 113 rfl rfl (by simp) ?_
    |refine AW_seq_k fun K hK=>?_|refine Step.by1 ?_|refine SBlock_exit_ne (by decide) ?_
    |((first|refine AW_region_AO ?_);simp [hnBase, NetD.cells, AutoD.cells, vl, hlt, hlt', ha])
    |(refine Split.by2 (fun h=>?_) (fun h=>?_)<;>(simp [h, hnBase, NetD.cells, AutoD.cells, vl, hlt, hlt', ha]))
    |refine ct rfl ?_|refine cf rfl ?_|refine cnd rfl (fun h=>?_) (fun h=>?_)|refine cd rfl (fun h=>?_) (fun h=>?_)|refine cn rfl (fun h=>?_) (fun h=>?_)|refine cc rfl (fun h=>?_) (fun h=>?_)
    |(apply hK;clear hK K)|(refine AWh (by assumption) ?_))
    refine AW_loopL [1, 2, 3, 4, 5] (fun k : Nat => [(6, .int .i64 k)]) (fun k => hnBase n i ++ hnAuto a k 0) (fun k => k ≤ a.locs.length) (fun k => a.locs.length - k) 0 (Nat.zero_le _) (by apply Weak.mk' <;> simp [hnBase, hnAuto, NetD.cells, vl, handV, pre_zero]) (fun _ _ => rfl) ?_
    intro k hk
    by_cases hkt : k < a.locs.length
    · have hps1 := pre_succ (c := LocD.hcells) hkt
      have hpl1 := pre_len (c := LocD.hcells) hk
      have hok1 := hl2 _ (List.getElem_mem hkt)
      obtain ⟨x, hx⟩ : ∃ x, a.locs[k] = x := ⟨_, rfl⟩
      rw [hx] at hps1 hok1
      have hcx := c_HandGuards x.inv (by have := hok1.2.2.1; omega)
      simp only [handV, vl] at hcx
      have hkt' : (k : Int) < a.locs.length := by omega
      have hb2 : (k + 1) * 48 ≤ 140737488355328 := by omega
      repeat' (first
    |refine AW_seq_k fun K hK=>?_|refine Step.by1 ?_|refine SBlock_exit_ne (by decide) ?_
    |((first|refine AW_region_AO ?_|refine AS_call1 (f:=56) rfl rfl (hcx) rfl rfl rfl ?_);simp [hnBase, hnAuto, NetD.cells, AutoD.cells, LocD.cells, vl, hlt, hlt', ha, hkt, hkt', hx, hpl1, hb2, wrap_i64];try (simp (disch:=omega) only [wrap_i64];try simp [hnBase, hnAuto, NetD.cells, AutoD.cells, LocD.cells, vl, hlt, hlt', ha, hkt, hkt', hx, hpl1, hb2, wrap_i64]))
    |(refine Split.by2 (fun h=>?_) (fun h=>?_)<;>(simp [h, hnBase, hnAuto, NetD.cells, AutoD.cells, LocD.cells, vl, hlt, hlt', ha, hkt, hkt', hx, hpl1, hb2, wrap_i64];try (simp (disch:=omega) only [wrap_i64];try simp [hnBase, hnAuto, NetD.cells, AutoD.cells, LocD.cells, vl, hlt, hlt', ha, hkt, hkt', hx, hpl1, hb2, wrap_i64])))
    |refine ct rfl ?_|refine cf rfl ?_|refine cnd rfl (fun h=>?_) (fun h=>?_)|refine cd rfl (fun h=>?_) (fun h=>?_)|refine cn rfl (fun h=>?_) (fun h=>?_)|refine cc rfl (fun h=>?_) (fun h=>?_)
    |(apply hK;clear hK K)|(refine AWh (by assumption) ?_))
      refine ⟨k + 1, by omega, by omega, ?_⟩
      apply Weak.mk' <;> simp [hnBase, hnAuto, NetD.cells, vl, handV, hps1, LocD.hcells]
    · have hke : k = a.locs.length := by omega
      subst hke
      repeat' (first
    |refine AW_seq_k fun K hK=>?_|refine Step.by1 ?_|refine SBlock_exit_ne (by decide) ?_
    |((first|refine AW_region_AO ?_);simp [hnBase, hnAuto, NetD.cells, AutoD.cells, vl, hlt, hlt', ha, hkt])
    |(refine Split.by2 (fun h=>?_) (fun h=>?_)<;>(simp [h, hnBase, hnAuto, NetD.cells, AutoD.cells, vl, hlt, hlt', ha, hkt]))
    |refine ct rfl ?_|refine cf rfl ?_|refine cnd rfl (fun h=>?_) (fun h=>?_)|refine cd rfl (fun h=>?_) (fun h=>?_)|refine cn rfl (fun h=>?_) (fun h=>?_)|refine cc rfl (fun h=>?_) (fun h=>?_)
    |(apply hK;clear hK K)|(refine AWh (by assumption) ?_))
      refine AW_loopL [1, 2, 3, 4, 5] (fun m : Nat => [(8, .int .i64 m)]) (fun m => hnBase n i ++ hnAuto a a.locs.length m) (fun m => m ≤ a.edges.length) (fun m => a.edges.length - m) 0 (Nat.zero_le _) (by apply Weak.mk' <;> simp [hnBase, hnAuto, NetD.cells, vl, handV, pre_zero]) (fun _ _ => rfl) ?_
      intro m hm
      by_cases hmt : m < a.edges.length
      · have hps2 := pre_succ (c := EdgeD.hcells) hmt
        have hpl2 := pre_len (c := EdgeD.hcells) hm
        have hok2 := he2 _ (List.getElem_mem hmt)
        obtain ⟨y, hy⟩ : ∃ y, a.edges[m] = y := ⟨_, rfl⟩
        rw [hy] at hps2 hok2
        obtain ⟨_, _, ok3, ok4, _, _, ok7, ok8⟩ := hok2
        have hcg := c_HandGuards y.guards (by have := ok3.1; omega)
        simp only [handV, vl] at hcg
        have hcn := c_HandNodes y.test (by have := ok4.1; omega)
        simp only [handV, vl] at hcn
        have hmt' : (m : Int) < a.edges.length := by omega
        have hb3 : (m + 1) * 104 ≤ 140737488355328 := by omega
        repeat' (first
    |refine AW_nilrow 10 116 rfl (by simp) ?_
    |refine AW_seq_k fun K hK=>?_|refine Step.by1 ?_|refine SBlock_exit_ne (by decide) ?_
    |((first|refine AW_region_AO ?_|refine AS_call1 (f:=56) rfl rfl (hcg) rfl rfl rfl ?_|refine AS_call1 (f:=57) rfl rfl (hcn) rfl rfl rfl ?_);simp [hnBase, hnAuto, NetD.cells, AutoD.cells, EdgeD.cells, vl, hlt, hlt', ha, hmt, hmt', hy, hpl2, hb3, wrap_i64];try (simp (disch:=omega) only [wrap_i64];try simp [hnBase, hnAuto, NetD.cells, AutoD.cells, EdgeD.cells, vl, hlt, hlt', ha, hmt, hmt', hy, hpl2, hb3, wrap_i64]))
    |(refine Split.by2 (fun h=>?_) (fun h=>?_)<;>(simp [h, hnBase, hnAuto, NetD.cells, AutoD.cells, EdgeD.cells, vl, hlt, hlt', ha, hmt, hmt', hy, hpl2, hb3, wrap_i64];try (simp (disch:=omega) only [wrap_i64];try simp [hnBase, hnAuto, NetD.cells, AutoD.cells, EdgeD.cells, vl, hlt, hlt', ha, hmt, hmt', hy, hpl2, hb3, wrap_i64])))
    |refine ct rfl ?_|refine cf rfl ?_|refine cnd rfl (fun h=>?_) (fun h=>?_)|refine cd rfl (fun h=>?_) (fun h=>?_)|refine cn rfl (fun h=>?_) (fun h=>?_)|refine cc rfl (fun h=>?_) (fun h=>?_)
    |(apply hK;clear hK K)|(refine AWh (by assumption) ?_))
        refine AW_loopL [1, 2, 3, 4, 5, 8, 9] (fun q : Nat => [(11, .int .i64 q), (10, .ref 9 q 0 q)]) (fun q => hnBase n i ++ hnAuto a a.locs.length m ++ hnEdge y q) (fun q => q ≤ y.sets.length) (fun q => y.sets.length - q) 0 (Nat.zero_le _) (by apply Weak.mk' <;> simp [hnBase, hnAuto, hnEdge, NetD.cells, vl, handV, pre_zero]) (fun _ _ => rfl) ?_
        intro q hq
        by_cases hqt : q < y.sets.length
        · have hps3 := pre_succ (c := SetD.hcells) hqt
          have hpl3 := pre_len (c := SetD.hcells) hq
          have hok3 := ok8 _ (List.getElem_mem hqt)
          obtain ⟨z, hz⟩ : ∃ z, y.sets[q] = z := ⟨_, rfl⟩
          rw [hz] at hps3 hok3
          have hcz := c_HandNodes z.expr (by have := hok3.2.2.2.1; omega)
          simp only [handV, vl] at hcz
          have hqt' : (q : Int) < y.sets.length := by omega
          have hb4 : (q + 1) * 48 ≤ 140737488355328 := by omega
          repeat' (first
    |refine AW_seq_k fun K hK=>?_|refine Step.by1 ?_|refine SBlock_exit_ne (by decide) ?_
    |((first|refine AW_region_AO ?_|refine AS_call1 (f:=57) rfl rfl (hcz) rfl rfl rfl ?_);simp [hnBase, hnAuto, hnEdge, NetD.cells, SetD.cells, vl, handV, hqt, hqt', hz, hpl3, hb4, wrap_i64];try (simp (disch:=omega) only [wrap_i64];try simp [hnBase, hnAuto, hnEdge, NetD.cells, SetD.cells, vl, handV, hqt, hqt', hz, hpl3, hb4, wrap_i64]))
    |(refine Split.by2 (fun h=>?_) (fun h=>?_)<;>(simp [h, hnBase, hnAuto, hnEdge, NetD.cells, SetD.cells, vl, handV, hqt, hqt', hz, hpl3, hb4, wrap_i64];try (simp (disch:=omega) only [wrap_i64];try simp [hnBase, hnAuto, hnEdge, NetD.cells, SetD.cells, vl, handV, hqt, hqt', hz, hpl3, hb4, wrap_i64])))
    |refine ct rfl ?_|refine cf rfl ?_|refine cnd rfl (fun h=>?_) (fun h=>?_)|refine cd rfl (fun h=>?_) (fun h=>?_)|refine cn rfl (fun h=>?_) (fun h=>?_)|refine cc rfl (fun h=>?_) (fun h=>?_)
    |(apply hK;clear hK K)|(refine AWh (by assumption) ?_))
          refine ⟨q + 1, by omega, by omega, ?_⟩
          apply Weak.mk' <;> simp [hnBase, hnAuto, hnEdge, NetD.cells, vl, handV, hps3, SetD.hcells]
        · have hqe : q = y.sets.length := by omega
          subst hqe
          repeat' (first
    |refine AW_viewcell 8 6 rfl rfl rfl (by simp [pre_end]) ?_
    |refine AW_seq_k fun K hK=>?_|refine Step.by1 ?_|refine SBlock_exit_ne (by decide) ?_
    |((first|refine AW_region_AO ?_);simp [hnBase, hnAuto, hnEdge, NetD.cells, vl, handV, hqt, hpl2, hb3, pre_end, wrap_i64];try (simp (disch:=omega) only [wrap_i64];try simp [hnBase, hnAuto, hnEdge, NetD.cells, vl, handV, hqt, hpl2, hb3, pre_end, wrap_i64]))
    |(refine Split.by2 (fun h=>?_) (fun h=>?_)<;>(simp [h, hnBase, hnAuto, hnEdge, NetD.cells, vl, handV, hqt, hpl2, hb3, pre_end, wrap_i64];try (simp (disch:=omega) only [wrap_i64];try simp [hnBase, hnAuto, hnEdge, NetD.cells, vl, handV, hqt, hpl2, hb3, pre_end, wrap_i64])))
    |refine ct rfl ?_|refine cf rfl ?_|refine cnd rfl (fun h=>?_) (fun h=>?_)|refine cd rfl (fun h=>?_) (fun h=>?_)|refine cn rfl (fun h=>?_) (fun h=>?_)|refine cc rfl (fun h=>?_) (fun h=>?_)
    |(apply hK;clear hK K)|(refine AWh (by assumption) ?_))
          refine ⟨m + 1, by omega, by omega, ?_⟩
          apply Weak.mk' <;> simp [hnBase, hnAuto, NetD.cells, vl, handV, hps2, EdgeD.hcells]
      · have hme : m = a.edges.length := by omega
        subst hme
        have hb5 : (i + 1) * 64 ≤ 140737488355328 := by omega
        repeat' (first
    |refine AW_viewcell 5 1 rfl rfl rfl (by simp [pre_end]) ?_
    |refine AW_viewcell 5 2 rfl rfl rfl (by simp [pre_end]) ?_
    |refine AW_seq_k fun K hK=>?_|refine Step.by1 ?_|refine SBlock_exit_ne (by decide) ?_
    |((first|refine AW_region_AO ?_);simp [hnBase, hnAuto, NetD.cells, AutoD.cells, vl, handV, hlt, hlt', ha, hmt, hpl, hb5, pre_end, wrap_i64];try (simp (disch:=omega) only [wrap_i64];try simp [hnBase, hnAuto, NetD.cells, AutoD.cells, vl, handV, hlt, hlt', ha, hmt, hpl, hb5, pre_end, wrap_i64]))
    |(refine Split.by2 (fun h=>?_) (fun h=>?_)<;>(simp [h, hnBase, hnAuto, NetD.cells, AutoD.cells, vl, handV, hlt, hlt', ha, hmt, hpl, hb5, pre_end, wrap_i64];try (simp (disch:=omega) only [wrap_i64];try simp [hnBase, hnAuto, NetD.cells, AutoD.cells, vl, handV, hlt, hlt', ha, hmt, hpl, hb5, pre_end, wrap_i64])))
    |refine ct rfl ?_|refine cf rfl ?_|refine cnd rfl (fun h=>?_) (fun h=>?_)|refine cd rfl (fun h=>?_) (fun h=>?_)|refine cn rfl (fun h=>?_) (fun h=>?_)|refine cc rfl (fun h=>?_) (fun h=>?_)
    |(apply hK;clear hK K)|(refine AWh (by assumption) ?_))
        refine ⟨i + 1, by omega, by omega, ?_⟩
        apply Weak.mk' <;> simp [hnBase, NetD.cells, vl, handV, hps, AutoD.hcells]
  · have hie : i = n.autos.length := by omega
    subst hie
    repeat' (first
    |refine AW_seq_k fun K hK=>?_|refine Step.by1 ?_|refine SBlock_exit_ne (by decide) ?_
    |((first|refine AW_region_AO ?_);simp [hnBase, NetD.cells, vl, handV, hlt, pre_end])
    |(refine Split.by2 (fun h=>?_) (fun h=>?_)<;>(simp [h, hnBase, NetD.cells, vl, handV, hlt, pre_end]))
    |refine ct rfl ?_|refine cf rfl ?_|refine cnd rfl (fun h=>?_) (fun h=>?_)|refine cd rfl (fun h=>?_) (fun h=>?_)|refine cn rfl (fun h=>?_) (fun h=>?_)|refine cc rfl (fun h=>?_) (fun h=>?_)
    |(apply hK;clear hK K)|(refine AWh (by assumption) ?_))
    refine ⟨.inr rfl, .agg [.vec (n.clocks.map (fun s => [V.str s]) ++ (List.range 9).map markTexts) n.clocks.length, .ref 4 0 0 n.vars.length, .vec (n.chans.map (fun s => [V.str s]) ++ (List.range 9).map markTexts) n.chans.length, .ref 3 n.autos.length 0 n.autos.length], by simp only [RetV, ResOk]; exact ⟨_, 0, rfl, by simp, by simp⟩, .inl ⟨3, ?_, ?_⟩⟩
    · simp [NetD.hcells, handV, vl, pre_end]
    · simp [NetD.hcells, V.plain]
end Go.Proofs.YtgmlimipejcpgaaGreatDoor
end

section
set_option linter.unusedVariables false
set_option linter.unusedSimpArgs false
namespace Go.Proofs.YtgmlimipejcpgaaGreatDoor
open Go Go.AM Fx
set_option maxRecDepth 40000 in
set_option maxHeartbeats 16000000 in
theorem c_SameNet (a b : NetD) (ha : a.ok) : PC 70 [.agg a.cells, .agg b.cells] (.bool (decide (a = b))) := by
  obtain ⟨⟨ha1, _⟩, ⟨ha2, _⟩, ⟨ha3, _⟩, ha4, ha5⟩ := ha
  have hc1 := c_SameTexts a.clocks b.clocks (by omega)
  have hc2 := c_SameTexts a.chans b.chans (by omega)
  refine PCall_body Tryz.func70 rfl (by decide) Tryz.ntmps70 (by simp) Tryz.results70 ?_
  by_cases h0 : a.clocks = b.clocks ∧ a.chans = b.chans ∧ a.vars.length = b.vars.length ∧ a.autos.length = b.autos.length
  · obtain ⟨e0, e1, e2, e3⟩ := h0
    have e2' : (a.vars.length : Int) = b.vars.length := by omega
    have e3' : (a.autos.length : Int) = b.autos.length := by omega
    rw [decide_eq_true e0] at hc1
    rw [decide_eq_true e1] at hc2
    simp only [vl] at hc1 hc2
    repeat' (first
    |refine AW_seq_k fun K hK=>?_|refine Step.by1 ?_|refine SBlock_exit_ne (by decide) ?_
    |((first|refine AW_region_AO ?_|refine AS_call1 (f:=141) rfl rfl (hc1) rfl rfl rfl ?_|refine AS_call1 (f:=141) rfl rfl (hc2) rfl rfl rfl ?_);simp [vl, NetD.cells, e2', e3'])
    |(refine Split.by2 (fun h=>?_) (fun h=>?_)<;>(simp [h, vl, NetD.cells, e2', e3']))
    |refine ct rfl ?_|refine cf rfl ?_|refine cnd rfl (fun h=>?_) (fun h=>?_)|refine cd rfl (fun h=>?_) (fun h=>?_)|refine cn rfl (fun h=>?_) (fun h=>?_)|refine cc rfl (fun h=>?_) (fun h=>?_)
    |(apply hK;clear hK K)|(refine AWh (by assumption) ?_))
    refine AW_loopL [2, 3] (fun i : Nat => [(5, .int .i64 i)]) (fun _ => [.var a.cells, .var b.cells]) (fun i => i ≤ a.vars.length ∧ a.vars.take i = b.vars.take i) (fun i => a.vars.length - i) 0 ⟨Nat.zero_le _, rfl⟩ (by apply Weak.mk' <;> simp [vl, NetD.cells]) (fun _ _ => rfl) ?_
    intro i hi
    by_cases hlt : i < a.vars.length
    · have hlb : i < b.vars.length := by omega
      have hne : a.vars[i] ≠ b.vars[i] → a ≠ b := fun h e => h (by subst e; rfl)
      have hsucc := fun h => take_same hi.2 hlt hlb h
      obtain ⟨x, hx⟩ : ∃ x, a.vars[i] = x := ⟨_, rfl⟩
      obtain ⟨y, hy⟩ : ∃ y, b.vars[i] = y := ⟨_, rfl⟩
      rw [hx, hy] at hne hsucc
      rw [ne_eq, VarD_eq] at hne
      rw [VarD_eq] at hsucc
      repeat' (first
    |refine AW_seq_k fun K hK=>?_|refine Step.by1 ?_|refine SBlock_exit_ne (by decide) ?_
    |((first|refine AW_region_AO ?_|refine AW_region_APx (id:=6) 11 mixed (by decide) ?_);simp [vl, NetD.cells, VarD.cells, hlt, hlb, hx, hy, wrap_i64];try (simp (disch:=omega) only [wrap_i64];try simp [vl, NetD.cells, VarD.cells, hlt, hlb, hx, hy, wrap_i64]))
    |(refine Split.by2 (fun h=>?_) (fun h=>?_)<;>(simp [h, vl, NetD.cells, VarD.cells, hlt, hlb, hx, hy, wrap_i64];try (simp (disch:=omega) only [wrap_i64];try simp [vl, NetD.cells, VarD.cells, hlt, hlb, hx, hy, wrap_i64])))
    |refine ct rfl ?_|refine cf rfl ?_|refine cnd rfl (fun h=>?_) (fun h=>?_)|refine cd rfl (fun h=>?_) (fun h=>?_)|refine cn rfl (fun h=>?_) (fun h=>?_)|refine cc rfl (fun h=>?_) (fun h=>?_)
    |(apply hK;clear hK K)|(refine AWh (by assumption) ?_))
      all_goals first
        | exact retq1 (conv_eq (by simp; exact hne (by first | exact h | (simp at h; intro he; simp [he] at h))) rfl)
        | (refine ⟨i + 1, ⟨by omega, hsucc (by first | exact h | (simp at h; simp [h]))⟩, by omega, ?_⟩; apply Weak.mk' <;> simp [vl, NetD.cells])
        | trace_state
    · have hie : i = a.vars.length := by omega
      subst hie
      have hev : a.vars = b.vars := take_end hi.2 e2
      repeat' (first
    |refine AW_seq_k fun K hK=>?_|refine Step.by1 ?_|refine SBlock_exit_ne (by decide) ?_
    |((first|refine AW_region_AO ?_);simp [vl, NetD.cells, hlt])
    |(refine Split.by2 (fun h=>?_) (fun h=>?_)<;>(simp [h, vl, NetD.cells, hlt]))
    |refine ct rfl ?_|refine cf rfl ?_|refine cnd rfl (fun h=>?_) (fun h=>?_)|refine cd rfl (fun h=>?_) (fun h=>?_)|refine cn rfl (fun h=>?_) (fun h=>?_)|refine cc rfl (fun h=>?_) (fun h=>?_)
    |(apply hK;clear hK K)|(refine AWh (by assumption) ?_))
      refine AW_loopL [2, 3] (fun i : Nat => [(6, .int .i64 i)]) (fun _ => [.var a.cells, .var b.cells]) (fun i => i ≤ a.autos.length ∧ a.autos.take i = b.autos.take i) (fun i => a.autos.length - i) 0 ⟨Nat.zero_le _, rfl⟩ (by apply Weak.mk' <;> simp [vl, NetD.cells]) (fun _ _ => rfl) ?_
      intro i hi
      by_cases hlt : i < a.autos.length
      · have hlb : i < b.autos.length := by omega
        have hne : a.autos[i] ≠ b.autos[i] → a ≠ b := fun h e => h (by subst e; rfl)
        have hsucc := fun h => take_same hi.2 hlt hlb h
        have hok := ha5 a.autos[i] (List.getElem_mem hlt)
        obtain ⟨x, hx⟩ : ∃ x, a.autos[i] = x := ⟨_, rfl⟩
        obtain ⟨y, hy⟩ : ∃ y, b.autos[i] = y := ⟨_, rfl⟩
        rw [hx] at hok
        rw [hx, hy] at hne hsucc
        have hc3 := c_sameAuto x y hok
        simp only [AutoD.cells, vl] at hc3
        repeat' (first
    |refine AW_seq_k fun K hK=>?_|refine Step.by1 ?_|refine SBlock_exit_ne (by decide) ?_
    |((first|refine AW_region_AO ?_|refine AW_region_APx (id:=11) 12 mixed (by decide) ?_|refine AP_call1 (f:=142) rfl rfl (hc3) rfl rfl rfl ?_);simp [vl, NetD.cells, AutoD.cells, hlt, hlb, hx, hy, wrap_i64];try (simp (disch:=omega) only [wrap_i64];try simp [vl, NetD.cells, AutoD.cells, hlt, hlb, hx, hy, wrap_i64]))
    |(refine Split.by2 (fun h=>?_) (fun h=>?_)<;>(simp [h, vl, NetD.cells, AutoD.cells, hlt, hlb, hx, hy, wrap_i64];try (simp (disch:=omega) only [wrap_i64];try simp [vl, NetD.cells, AutoD.cells, hlt, hlb, hx, hy, wrap_i64])))
    |refine ct rfl ?_|refine cf rfl ?_|refine cnd rfl (fun h=>?_) (fun h=>?_)|refine cd rfl (fun h=>?_) (fun h=>?_)|refine cn rfl (fun h=>?_) (fun h=>?_)|refine cc rfl (fun h=>?_) (fun h=>?_)
    |(apply hK;clear hK K)|(refine AWh (by assumption) ?_))
        all_goals first
          | exact retq1 (conv_eq (by simp; exact hne h) rfl)
          | (refine ⟨i + 1, ⟨by omega, hsucc h⟩, by omega, ?_⟩; apply Weak.mk' <;> simp [vl, NetD.cells])
          | trace_state
      · have hie : i = a.autos.length := by omega
        subst hie
        have hee : a.autos = b.autos := take_end hi.2 e3
        have he : a = b := (NetD_eq a b).2 ⟨e0, e1, hev, hee⟩
        repeat' (first
    |refine AW_seq_k fun K hK=>?_|refine Step.by1 ?_|refine SBlock_exit_ne (by decide) ?_
    |((first|refine AW_region_AO ?_);simp [vl, NetD.cells, hlt])
    |(refine Split.by2 (fun h=>?_) (fun h=>?_)<;>(simp [h, vl, NetD.cells, hlt]))
    |refine ct rfl ?_|refine cf rfl ?_|refine cnd rfl (fun h=>?_) (fun h=>?_)|refine cd rfl (fun h=>?_) (fun h=>?_)|refine cn rfl (fun h=>?_) (fun h=>?_)|refine cc rfl (fun h=>?_) (fun h=>?_)
    |(apply hK;clear hK K)|(refine AWh (by assumption) ?_))
        exact retq1 (conv_eq (by simp [he]) rfl)
  · have he : ¬ a = b := fun h => h0 (by subst h; exact ⟨rfl, rfl, rfl, rfl⟩)
    simp only [vl] at hc1 hc2
    repeat' (first
    |refine AW_seq_k fun K hK=>?_|refine Step.by1 ?_|refine SBlock_exit_ne (by decide) ?_
    |((first|refine AW_region_AO ?_|refine AS_call1 (f:=141) rfl rfl (hc1) rfl rfl rfl ?_|refine AS_call1 (f:=141) rfl rfl (hc2) rfl rfl rfl ?_);simp [vl, NetD.cells])
    |(refine Split.by2 (fun h=>?_) (fun h=>?_)<;>(simp [h, vl, NetD.cells]))
    |refine ct rfl ?_|refine cf rfl ?_|refine cnd rfl (fun h=>?_) (fun h=>?_)|refine cd rfl (fun h=>?_) (fun h=>?_)|refine cn rfl (fun h=>?_) (fun h=>?_)|refine cc rfl (fun h=>?_) (fun h=>?_)
    |(apply hK;clear hK K)|(refine AWh (by assumption) ?_))
    all_goals first
      | exact retq1 (conv_eq (by simp [he]) rfl)
      | (exfalso; exact h0 ⟨by assumption, by assumption, by omega, by omega⟩)
      | trace_state
end Go.Proofs.YtgmlimipejcpgaaGreatDoor
end

section
set_option linter.unusedVariables false
set_option linter.unusedSimpArgs false
namespace Go.Proofs.YtgmlimipejcpgaaGreatDoor
open Go Go.AM Fx
/-! What is seen of a copy with marked room. -/
theorem trim_vl' {α : Type} {c c' : α → List V} {l : List α} (h : ∀ x ∈ l, V.trims (c x) = c' x) : (vl c l).trim = vl c' l := by
  have := trim_pad (c := c) (c' := c') (l := l) [] h
  rw [List.append_nil] at this; exact this
theorem trims_LocH (x : LocD) : V.trims x.hcells = x.cells := by simp [LocD.hcells, LocD.cells, V.trims, V.trim, trim_handGuards]
theorem trims_Loc (x : LocD) : V.trims x.cells = x.cells := by simp [LocD.cells, V.trims, V.trim, trim_vlGuards]
theorem trims_SetH (x : SetD) : V.trims x.hcells = x.cells := by simp [SetD.hcells, SetD.cells, V.trims, V.trim, trim_handNodes]
theorem trims_Set (x : SetD) : V.trims x.cells = x.cells := by simp [SetD.cells, V.trims, V.trim, trim_vlNodes]
theorem trims_EdgeH (x : EdgeD) : V.trims x.hcells = x.cells := by
  simp [EdgeD.hcells, EdgeD.cells, V.trims, V.trim, trim_handGuards, trim_handNodes, trim_vl' (c := SetD.hcells) (c' := SetD.cells) fun y _ => trims_SetH y]
theorem trims_Edge (x : EdgeD) : V.trims x.cells = x.cells := by
  simp [EdgeD.cells, V.trims, V.trim, trim_vlGuards, trim_vlNodes, trim_vl' (c := SetD.cells) (c' := SetD.cells) fun y _ => trims_Set y]
theorem trims_AutoH (x : AutoD) : V.trims x.hcells = x.cells := by
  simp [AutoD.hcells, AutoD.cells, V.trims, V.trim, trim_vl' (c := LocD.hcells) (c' := LocD.cells) fun y _ => trims_LocH y, trim_vl' (c := EdgeD.hcells) (c' := EdgeD.cells) fun y _ => trims_EdgeH y]
theorem trims_Auto (x : AutoD) : V.trims x.cells = x.cells := by
  simp [AutoD.cells, V.trims, V.trim, trim_vl' (c := LocD.cells) (c' := LocD.cells) fun y _ => trims_Loc y, trim_vl' (c := EdgeD.cells) (c' := EdgeD.cells) fun y _ => trims_Edge y]
theorem trims_Var (x : VarD) : V.trims x.cells = x.cells := by simp [VarD.cells, V.trims, V.trim]
theorem trims_NetH (x : NetD) : V.trims x.hcells = x.cells := by
  simp [NetD.hcells, NetD.cells, V.trims, V.trim, trim_handTexts, trim_vl' (c := VarD.cells) (c' := VarD.cells) fun y _ => trims_Var y, trim_vl' (c := AutoD.hcells) (c' := AutoD.cells) fun y _ => trims_AutoH y]
theorem trims_Net (x : NetD) : V.trims x.cells = x.cells := by
  simp [NetD.cells, V.trims, V.trim, trim_vlTexts, trim_vl' (c := VarD.cells) (c' := VarD.cells) fun y _ => trims_Var y, trim_vl' (c := AutoD.cells) (c' := AutoD.cells) fun y _ => trims_Auto y]
theorem trims_netArg (x : NetD) (r : List V) : V.trims (.agg x.hcells :: r) = .agg x.cells :: V.trims r := by simp [V.trims, V.trim, trims_NetH]
end Go.Proofs.YtgmlimipejcpgaaGreatDoor
end

section
set_option linter.unusedVariables false
set_option linter.unusedSimpArgs false
namespace Go.Proofs.YtgmlimipejcpgaaGreatDoor
open Go Go.AM Fx
set_option maxRecDepth 40000 in
set_option maxHeartbeats 16000000 in
theorem c_KeptNet (n : NetD) (hn : n.ok) : PC 17 [.agg n.hcells, .agg n.cells] (.bool true) := by
  have hs := (c_SameNet n n hn).trim (args := [.agg n.hcells, .agg n.cells]) (by simp only [V.trims, V.trim, trims_NetH, trims_Net])
  simp only [decide_true] at hs
  obtain ⟨⟨ha1, _⟩, ⟨ha2, _⟩, ⟨ha3, _⟩, ha4, ha5⟩ := hn
  have hc1 := c_KeptTexts n.clocks (by omega)
  have hc2 := c_KeptTexts n.chans (by omega)
  refine PCall_body Tryz.func17 rfl (by decide) Tryz.ntmps17 (by simp) Tryz.results17 ?_
  repeat' (first
    |refine AW_seq_k fun K hK=>?_|refine Step.by1 ?_|refine SBlock_exit_ne (by decide) ?_
    |((first|refine AW_region_AO ?_|refine AS_call1 (f:=70) rfl rfl (hs) rfl rfl rfl ?_|refine AS_call1 (f:=71) rfl rfl (hc1) rfl rfl rfl ?_|refine AS_call1 (f:=71) rfl rfl (hc2) rfl rfl rfl ?_);simp [NetD.hcells, NetD.cells])
    |(refine Split.by2 (fun h=>?_) (fun h=>?_)<;>(simp [h, NetD.hcells, NetD.cells]))
    |refine ct rfl ?_|refine cf rfl ?_|refine cnd rfl (fun h=>?_) (fun h=>?_)|refine cd rfl (fun h=>?_) (fun h=>?_)|refine cn rfl (fun h=>?_) (fun h=>?_)|refine cc rfl (fun h=>?_) (fun h=>?_)
    |(apply hK;clear hK K)|(refine AWh (by assumption) ?_))
  refine AW_loopL [2, 3] (fun i : Nat => [(5, .int .i64 i)]) (fun _ => [.var n.hcells, .var n.cells]) (fun i => i ≤ n.autos.length) (fun i => n.autos.length - i) 0 (Nat.zero_le _) (by apply Weak.mk' <;> simp [vl, NetD.cells, NetD.hcells, handV]) (fun _ _ => rfl) ?_
  intro i hi
  by_cases hlt : i < n.autos.length
  · have hoa := ha5 _ (List.getElem_mem hlt)
    obtain ⟨a, ha⟩ : ∃ a, n.autos[i] = a := ⟨_, rfl⟩
    rw [ha] at hoa
    obtain ⟨_, ⟨hl1, hl2⟩, he1, he2⟩ := hoa
    repeat' (first
    |refine AW_seq_k fun K hK=>?_|refine Step.by1 ?_|refine SBlock_exit_ne (by decide) ?_
    |((first|refine AW_region_AO ?_);simp [vl, NetD.cells, NetD.hcells, AutoD.cells, AutoD.hcells, hlt, ha, wrap_i64];try (simp (disch:=omega) only [wrap_i64];try simp [vl, NetD.cells, NetD.hcells, AutoD.cells, AutoD.hcells, hlt, ha, wrap_i64]))
    |(refine Split.by2 (fun h=>?_) (fun h=>?_)<;>(simp [h, vl, NetD.cells, NetD.hcells, AutoD.cells, AutoD.hcells, hlt, ha, wrap_i64];try (simp (disch:=omega) only [wrap_i64];try simp [vl, NetD.cells, NetD.hcells, AutoD.cells, AutoD.hcells, hlt, ha, wrap_i64])))
    |refine ct rfl ?_|refine cf rfl ?_|refine cnd rfl (fun h=>?_) (fun h=>?_)|refine cd rfl (fun h=>?_) (fun h=>?_)|refine cn rfl (fun h=>?_) (fun h=>?_)|refine cc rfl (fun h=>?_) (fun h=>?_)
    |(apply hK;clear hK K)|(refine AWh (by assumption) ?_))
    refine AW_loopL [2, 3, 5] (fun i : Nat => [(6, .int .i64 i)]) (fun _ => [.var n.hcells, .var n.cells]) (fun k => k ≤ a.locs.length) (fun k => a.locs.length - k) 0 (Nat.zero_le _) (by apply Weak.mk' <;> simp [vl, NetD.cells, NetD.hcells, handV]) (fun _ _ => rfl) ?_
    intro k hk
    by_cases hkt : k < a.locs.length
    · have hox := hl2 _ (List.getElem_mem hkt)
      obtain ⟨x, hx⟩ : ∃ x, a.locs[k] = x := ⟨_, rfl⟩
      rw [hx] at hox
      have hcg := c_KeptGuards x.inv (by have := hox.2.2.1; omega)
      simp only [vl, handV] at hcg
      repeat' (first
    |refine AW_seq_k fun K hK=>?_|refine Step.by1 ?_|refine SBlock_exit_ne (by decide) ?_
    |((first|refine AW_region_AO ?_|refine AW_region_APx (id:=9) 22 mixed (by decide) ?_|refine AP_call1 (f:=72) rfl rfl (hcg) rfl rfl rfl ?_|refine AS_call1 (f:=72) rfl rfl (hcg) rfl rfl rfl ?_);simp [vl, handV, NetD.cells, NetD.hcells, AutoD.cells, AutoD.hcells, LocD.cells, LocD.hcells, hlt, ha, hkt, hx, wrap_i64];try (simp (disch:=omega) only [wrap_i64];try simp [vl, handV, NetD.cells, NetD.hcells, AutoD.cells, AutoD.hcells, LocD.cells, LocD.hcells, hlt, ha, hkt, hx, wrap_i64]))
    |(refine Split.by2 (fun h=>?_) (fun h=>?_)<;>(simp [h, vl, handV, NetD.cells, NetD.hcells, AutoD.cells, AutoD.hcells, LocD.cells, LocD.hcells, hlt, ha, hkt, hx, wrap_i64];try (simp (disch:=omega) only [wrap_i64];try simp [vl, handV, NetD.cells, NetD.hcells, AutoD.cells, AutoD.hcells, LocD.cells, LocD.hcells, hlt, ha, hkt, hx, wrap_i64])))
    |refine ct rfl ?_|refine cf rfl ?_|refine cnd rfl (fun h=>?_) (fun h=>?_)|refine cd rfl (fun h=>?_) (fun h=>?_)|refine cn rfl (fun h=>?_) (fun h=>?_)|refine cc rfl (fun h=>?_) (fun h=>?_)
    |(apply hK;clear hK K)|(refine AWh (by assumption) ?_))
      refine ⟨k + 1, by omega, by omega, ?_⟩
      apply Weak.mk' <;> simp [vl, handV, NetD.cells, NetD.hcells]
    · have hke : k = a.locs.length := by omega
      subst hke
      repeat' (first
    |refine AW_seq_k fun K hK=>?_|refine Step.by1 ?_|refine SBlock_exit_ne (by decide) ?_
    |((first|refine AW_region_AO ?_);simp [vl, NetD.cells, NetD.hcells, AutoD.cells, AutoD.hcells, hlt, ha, hkt, wrap_i64];try (simp (disch:=omega) only [wrap_i64];try simp [vl, NetD.cells, NetD.hcells, AutoD.cells, AutoD.hcells, hlt, ha, hkt, wrap_i64]))
    |(refine Split.by2 (fun h=>?_) (fun h=>?_)<;>(simp [h, vl, NetD.cells, NetD.hcells, AutoD.cells, AutoD.hcells, hlt, ha, hkt, wrap_i64];try (simp (disch:=omega) only [wrap_i64];try simp [vl, NetD.cells, NetD.hcells, AutoD.cells, AutoD.hcells, hlt, ha, hkt, wrap_i64])))
    |refine ct rfl ?_|refine cf rfl ?_|refine cnd rfl (fun h=>?_) (fun h=>?_)|refine cd rfl (fun h=>?_) (fun h=>?_)|refine cn rfl (fun h=>?_) (fun h=>?_)|refine cc rfl (fun h=>?_) (fun h=>?_)
    |(apply hK;clear hK K)|(refine AWh (by assumption) ?_))
      refine AW_loopL [2, 3, 5] (fun i : Nat => [(7, .int .i64 i)]) (fun _ => [.var n.hcells, .var n.cells]) (fun k => k ≤ a.edges.length) (fun k => a.edges.length - k) 0 (Nat.zero_le _) (by apply Weak.mk' <;> simp [vl, NetD.cells, NetD.hcells, handV]) (fun _ _ => rfl) ?_
      intro m hm
      by_cases hmt : m < a.edges.length
      · have hoy := he2 _ (List.getElem_mem hmt)
        obtain ⟨y, hy⟩ : ∃ y, a.edges[m] = y := ⟨_, rfl⟩
        rw [hy] at hoy
        obtain ⟨_, _, ok3, ok4, _, _, ok7, ok8⟩ := hoy
        have hcg := c_KeptGuards y.guards (by have := ok3.1; omega)
        have hcn := c_KeptNodes y.test (by have := ok4.1; omega)
        simp only [vl, handV] at hcg hcn
        repeat' (first
    |refine AW_seq_k fun K hK=>?_|refine Step.by1 ?_|refine SBlock_exit_ne (by decide) ?_
    |((first|refine AW_region_AO ?_|refine AS_call1 (f:=72) rfl rfl (hcg) rfl rfl rfl ?_|refine AS_call1 (f:=73) rfl rfl (hcn) rfl rfl rfl ?_);simp [vl, handV, NetD.cells, NetD.hcells, AutoD.cells, AutoD.hcells, EdgeD.cells, EdgeD.hcells, hlt, ha, hmt, hy, wrap_i64];try (simp (disch:=omega) only [wrap_i64];try simp [vl, handV, NetD.cells, NetD.hcells, AutoD.cells, AutoD.hcells, EdgeD.cells, EdgeD.hcells, hlt, ha, hmt, hy, wrap_i64]))
    |(refine Split.by2 (fun h=>?_) (fun h=>?_)<;>(simp [h, vl, handV, NetD.cells, NetD.hcells, AutoD.cells, AutoD.hcells, EdgeD.cells, EdgeD.hcells, hlt, ha, hmt, hy, wrap_i64];try (simp (disch:=omega) only [wrap_i64];try simp [vl, handV, NetD.cells, NetD.hcells, AutoD.cells, AutoD.hcells, EdgeD.cells, EdgeD.hcells, hlt, ha, hmt, hy, wrap_i64])))
    |refine ct rfl ?_|refine cf rfl ?_|refine cnd rfl (fun h=>?_) (fun h=>?_)|refine cd rfl (fun h=>?_) (fun h=>?_)|refine cn rfl (fun h=>?_) (fun h=>?_)|refine cc rfl (fun h=>?_) (fun h=>?_)
    |(apply hK;clear hK K)|(refine AWh (by assumption) ?_))
        refine AW_loopL [2, 3, 5, 7, 8, 9] (fun i : Nat => [(10, .int .i64 i)]) (fun _ => [.var n.hcells, .var n.cells, .var y.hcells, .var y.cells]) (fun k => k ≤ y.sets.length) (fun k => y.sets.length - k) 0 (Nat.zero_le _) (by apply Weak.mk' <;> simp [vl, NetD.cells, NetD.hcells, handV, EdgeD.cells, EdgeD.hcells]) (fun _ _ => rfl) ?_
        intro q hq
        by_cases hqt : q < y.sets.length
        · have hoz := ok8 _ (List.getElem_mem hqt)
          obtain ⟨z, hz⟩ : ∃ z, y.sets[q] = z := ⟨_, rfl⟩
          rw [hz] at hoz
          have hcz := c_KeptNodes z.expr (by have := hoz.2.2.2.1; omega)
          simp only [vl, handV] at hcz
          repeat' (first
    |refine AW_seq_k fun K hK=>?_|refine Step.by1 ?_|refine SBlock_exit_ne (by decide) ?_
    |((first|refine AW_region_AO ?_|refine AW_region_APx (id:=21) 14 mixed (by decide) ?_|refine AP_call1 (f:=73) rfl rfl (hcz) rfl rfl rfl ?_|refine AS_call1 (f:=73) rfl rfl (hcz) rfl rfl rfl ?_);simp [vl, handV, EdgeD.cells, EdgeD.hcells, SetD.cells, SetD.hcells, hqt, hz, wrap_i64];try (simp (disch:=omega) only [wrap_i64];try simp [vl, handV, EdgeD.cells, EdgeD.hcells, SetD.cells, SetD.hcells, hqt, hz, wrap_i64]))
    |(refine Split.by2 (fun h=>?_) (fun h=>?_)<;>(simp [h, vl, handV, EdgeD.cells, EdgeD.hcells, SetD.cells, SetD.hcells, hqt, hz, wrap_i64];try (simp (disch:=omega) only [wrap_i64];try simp [vl, handV, EdgeD.cells, EdgeD.hcells, SetD.cells, SetD.hcells, hqt, hz, wrap_i64])))
    |refine ct rfl ?_|refine cf rfl ?_|refine cnd rfl (fun h=>?_) (fun h=>?_)|refine cd rfl (fun h=>?_) (fun h=>?_)|refine cn rfl (fun h=>?_) (fun h=>?_)|refine cc rfl (fun h=>?_) (fun h=>?_)
    |(apply hK;clear hK K)|(refine AWh (by assumption) ?_))
          refine ⟨q + 1, by omega, by omega, ?_⟩
          apply Weak.mk' <;> simp [vl, handV, NetD.cells, NetD.hcells, EdgeD.cells, EdgeD.hcells]
        · repeat' (first
    |refine AW_seq_k fun K hK=>?_|refine Step.by1 ?_|refine SBlock_exit_ne (by decide) ?_
    |((first|refine AW_region_AO ?_);simp [vl, handV, EdgeD.cells, EdgeD.hcells, hqt, wrap_i64];try (simp (disch:=omega) only [wrap_i64];try simp [vl, handV, EdgeD.cells, EdgeD.hcells, hqt, wrap_i64]))
    |(refine Split.by2 (fun h=>?_) (fun h=>?_)<;>(simp [h, vl, handV, EdgeD.cells, EdgeD.hcells, hqt, wrap_i64];try (simp (disch:=omega) only [wrap_i64];try simp [vl, handV, EdgeD.cells, EdgeD.hcells, hqt, wrap_i64])))
    |refine ct rfl ?_|refine cf rfl ?_|refine cnd rfl (fun h=>?_) (fun h=>?_)|refine cd rfl (fun h=>?_) (fun h=>?_)|refine cn rfl (fun h=>?_) (fun h=>?_)|refine cc rfl (fun h=>?_) (fun h=>?_)
    |(apply hK;clear hK K)|(refine AWh (by assumption) ?_))
          refine ⟨m + 1, by omega, by omega, ?_⟩
          apply Weak.mk' <;> simp [vl, handV, NetD.cells, NetD.hcells]
      · have hme : m = a.edges.length := by omega
        subst hme
        repeat' (first
    |refine AW_seq_k fun K hK=>?_|refine Step.by1 ?_|refine SBlock_exit_ne (by decide) ?_
    |((first|refine AW_region_AO ?_);simp [vl, NetD.cells, NetD.hcells, AutoD.cells, AutoD.hcells, hlt, ha, hmt, wrap_i64];try (simp (disch:=omega) only [wrap_i64];try simp [vl, NetD.cells, NetD.hcells, AutoD.cells, AutoD.hcells, hlt, ha, hmt, wrap_i64]))
    |(refine Split.by2 (fun h=>?_) (fun h=>?_)<;>(simp [h, vl, NetD.cells, NetD.hcells, AutoD.cells, AutoD.hcells, hlt, ha, hmt, wrap_i64];try (simp (disch:=omega) only [wrap_i64];try simp [vl, NetD.cells, NetD.hcells, AutoD.cells, AutoD.hcells, hlt, ha, hmt, wrap_i64])))
    |refine ct rfl ?_|refine cf rfl ?_|refine cnd rfl (fun h=>?_) (fun h=>?_)|refine cd rfl (fun h=>?_) (fun h=>?_)|refine cn rfl (fun h=>?_) (fun h=>?_)|refine cc rfl (fun h=>?_) (fun h=>?_)
    |(apply hK;clear hK K)|(refine AWh (by assumption) ?_))
        refine ⟨i + 1, by omega, by omega, ?_⟩
        apply Weak.mk' <;> simp [vl, handV, NetD.cells, NetD.hcells]
  · have hie : i = n.autos.length := by omega
    subst hie
    repeat' (first
    |refine AW_seq_k fun K hK=>?_|refine Step.by1 ?_|refine SBlock_exit_ne (by decide) ?_
    |((first|refine AW_region_AO ?_);simp [vl, NetD.cells, NetD.hcells, hlt])
    |(refine Split.by2 (fun h=>?_) (fun h=>?_)<;>(simp [h, vl, NetD.cells, NetD.hcells, hlt]))
    |refine ct rfl ?_|refine cf rfl ?_|refine cnd rfl (fun h=>?_) (fun h=>?_)|refine cd rfl (fun h=>?_) (fun h=>?_)|refine cn rfl (fun h=>?_) (fun h=>?_)|refine cc rfl (fun h=>?_) (fun h=>?_)
    |(apply hK;clear hK K)|(refine AWh (by assumption) ?_))
    exact retq1 (conv_eq rfl rfl)
end Go.Proofs.YtgmlimipejcpgaaGreatDoor
end
