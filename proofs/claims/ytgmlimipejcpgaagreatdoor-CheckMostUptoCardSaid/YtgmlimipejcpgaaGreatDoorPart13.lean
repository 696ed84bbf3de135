/-
  YtgmlimipejcpgaaGreatDoorPart13: steps of the proof of a law of the program: what these texts prove holds under the hypotheses that their theorems name, and no others.
-/
import Derived.Test.YtgmlimipejcpgaaGreatDoorPart12
import Derived.Test.YtgmlimipejcpgaaGreatDoorPart07
import Derived.Test.YtgmlimipejcpgaaGreatDoorPart06
section
set_option linter.unusedVariables false
set_option linter.unusedSimpArgs false
namespace Go.Proofs.YtgmlimipejcpgaaGreatDoor
open Go Go.AM Fx
/-! The reference's numbers. -/
theorem r_Above (g : GuardD) : PC 204 [.agg g.cells] (.bool (upB g.cmp)) := by
  refine PCall_body Tryz.func204 rfl (by decide) Tryz.ntmps204 (by simp) Tryz.results204 ?_
  repeat' (first
    |refine AW_seq_k fun K hK=>?_|refine Step.by1 ?_|refine SBlock_exit_ne (by decide) ?_
    |((first|refine AW_region_AO ?_);simp [GuardD.cells])
    |(refine Split.by2 (fun h=>?_) (fun h=>?_)<;>(simp [h, GuardD.cells]))
    |refine ct rfl ?_|refine cf rfl ?_|refine cnd rfl (fun h=>?_) (fun h=>?_)|refine cd rfl (fun h=>?_) (fun h=>?_)|refine cn rfl (fun h=>?_) (fun h=>?_)|refine cc rfl (fun h=>?_) (fun h=>?_)
    |(apply hK;clear hK K)|(refine AWh (by assumption) ?_))
  all_goals first
    | exact retq1 (conv_eq (by simp [upB, *]; done) rfl)
    | exact retq1 (conv_eq (by simp [upB, *]; omega) rfl)
    | trace_state
theorem r_Below (g : GuardD) : PC 205 [.agg g.cells] (.bool (lowB g.cmp)) := by
  refine PCall_body Tryz.func205 rfl (by decide) Tryz.ntmps205 (by simp) Tryz.results205 ?_
  repeat' (first
    |refine AW_seq_k fun K hK=>?_|refine Step.by1 ?_|refine SBlock_exit_ne (by decide) ?_
    |((first|refine AW_region_AO ?_);simp [GuardD.cells])
    |(refine Split.by2 (fun h=>?_) (fun h=>?_)<;>(simp [h, GuardD.cells]))
    |refine ct rfl ?_|refine cf rfl ?_|refine cnd rfl (fun h=>?_) (fun h=>?_)|refine cd rfl (fun h=>?_) (fun h=>?_)|refine cn rfl (fun h=>?_) (fun h=>?_)|refine cc rfl (fun h=>?_) (fun h=>?_)
    |(apply hK;clear hK K)|(refine AWh (by assumption) ?_))
  all_goals first
    | exact retq1 (conv_eq (by simp [lowB, *]; done) rfl)
    | exact retq1 (conv_eq (by simp [lowB, *]; omega) rfl)
    | trace_state
set_option maxHeartbeats 4000000 in
theorem r_None (n : NetD) (hn : n.clocks.length ≤ 1048576) : PC 160 [.agg n.cells] (.own 3 (List.replicate n.clocks.length [V.int .i64 (-1)])) := by
  refine PCall_body Tryz.func160 rfl (by decide) Tryz.ntmps160 (by simp) Tryz.results160 ?_
  repeat' (first
    |refine AW_seq_k fun K hK=>?_|refine Step.by1 ?_|refine SBlock_exit_ne (by decide) ?_
    |((first|refine AW_region_AO ?_);simp [vl, NetD.cells])
    |(refine Split.by2 (fun h=>?_) (fun h=>?_)<;>(simp [h, vl, NetD.cells]))
    |refine ct rfl ?_|refine cf rfl ?_|refine cnd rfl (fun h=>?_) (fun h=>?_)|refine cd rfl (fun h=>?_) (fun h=>?_)|refine cn rfl (fun h=>?_) (fun h=>?_)|refine cc rfl (fun h=>?_) (fun h=>?_)
    |(apply hK;clear hK K)|(refine AWh (by assumption) ?_))
  refine AW_nilrow 3 3 rfl (by simp) ?_
  refine AW_loopL [1] (fun i : Nat => [(4, .int .i64 i), (3, .ref 1 i 0 i)]) (fun i => [.var n.cells, .row 3 i 0 true (List.replicate i [V.int .i64 (-1)])]) (fun i => i ≤ n.clocks.length) (fun i => n.clocks.length - i) 0 (Nat.zero_le _) (by apply Weak.mk' <;> simp [vl, NetD.cells]) (fun _ _ => rfl) ?_
  intro i hi
  by_cases hlt : i < n.clocks.length
  · have hlt' : (i : Int) < n.clocks.length := by omega
    have hby : (i + 1) * 8 ≤ 140737488355328 := by omega
    have w1 : IntKind.i64.wrap ((i : Int) + 1) = i + 1 := wrap_i64 (by omega) (by omega)
    repeat' (first
    |refine AW_seq_k fun K hK=>?_|refine Step.by1 ?_|refine SBlock_exit_ne (by decide) ?_
    |((first|refine AW_region_AO ?_);simp [vl, NetD.cells, hlt, hlt', hby, w1])
    |(refine Split.by2 (fun h=>?_) (fun h=>?_)<;>(simp [h, vl, NetD.cells, hlt, hlt', hby, w1]))
    |refine ct rfl ?_|refine cf rfl ?_|refine cnd rfl (fun h=>?_) (fun h=>?_)|refine cd rfl (fun h=>?_) (fun h=>?_)|refine cn rfl (fun h=>?_) (fun h=>?_)|refine cc rfl (fun h=>?_) (fun h=>?_)
    |(apply hK;clear hK K)|(refine AWh (by assumption) ?_))
    refine ⟨i + 1, by omega, by omega, ?_⟩
    apply Weak.mk' <;> simp [vl, NetD.cells, List.replicate_succ']
  · have hie : i = n.clocks.length := by omega
    subst hie
    repeat' (first
    |refine AW_seq_k fun K hK=>?_|refine Step.by1 ?_|refine SBlock_exit_ne (by decide) ?_
    |((first|refine AW_region_AO ?_);simp [vl, NetD.cells])
    |(refine Split.by2 (fun h=>?_) (fun h=>?_)<;>(simp [h, vl, NetD.cells]))
    |refine ct rfl ?_|refine cf rfl ?_|refine cnd rfl (fun h=>?_) (fun h=>?_)|refine cd rfl (fun h=>?_) (fun h=>?_)|refine cn rfl (fun h=>?_) (fun h=>?_)|refine cc rfl (fun h=>?_) (fun h=>?_)
    |(apply hK;clear hK K)|(refine AWh (by assumption) ?_))
    exact retq1 (.inr (.inl (conv1_own rfl (by simp))))
def H3 (n : NetD) (lo up : List Int) : List B := [.var n.cells, .row 3 0 0 true (lo.map fun k => [V.int .i64 k]), .row 3 0 0 true (up.map fun k => [V.int .i64 k])]
/-- Both rows are raised. -/
def raise2 (l : List GuardD) (s : List Int × List Int) : List Int × List Int := (raiseL lowB l s.1, raiseL upB l s.2)
theorem raise2_nil {s : List Int × List Int} : raise2 [] s = s := rfl
theorem raise2_cons {g : GuardD} {l : List GuardD} {s : List Int × List Int} : raise2 (g :: l) s = raise2 l (raise1 lowB s.1 g, raise1 upB s.2 g) := rfl
theorem raise1_eq {so : Int → Bool} {c : List Int} {g : GuardD} {p : Nat} (hp : (g.clock - 1).toNat = p) (hlt : p < c.length) :
    raise1 so c g = if so g.cmp = true ∧ c[p] < g.n then c.set p g.n else c := by
  unfold raise1
  rw [hp]
  by_cases h1 : so g.cmp = true
  · by_cases h2 : c[p] < g.n
    · simp [h1, hlt, h2]
    · simp [h1, hlt, h2]
  · simp [h1]
set_option maxRecDepth 20000 in
set_option maxHeartbeats 8000000 in
theorem r_Raise (n : NetD) (l : List GuardD) (lo up : List Int) (hl : l.length ≤ 1048576) (hll : lo.length = n.clocks.length) (hul : up.length = n.clocks.length) (hN : n.clocks.length ≤ 1048576) (hg : ∀ g ∈ l, okG n.clocks.length g) :
    GCall Tryz.prog GV 161 [.ref 1 0 0 n.clocks.length, .ref 2 0 0 n.clocks.length, vl GuardD.cells l] (H3 n lo up) (fun v h' => v = .tup [] ∧ h' = H3 n (raiseL lowB l lo) (raiseL upB l up)) := by
  refine GCall_body Tryz.func161 rfl (by decide) Tryz.ntmps161 (by simp) Tryz.results161 ?_
  repeat' (first
    |refine AW_seq_k fun K hK=>?_|refine Step.by1 ?_|refine SBlock_exit_ne (by decide) ?_
    |((first|refine AW_region_AO ?_);simp [vl])
    |(refine Split.by2 (fun h=>?_) (fun h=>?_)<;>(simp [h, vl]))
    |refine ct rfl ?_|refine cf rfl ?_|refine cnd rfl (fun h=>?_) (fun h=>?_)|refine cd rfl (fun h=>?_) (fun h=>?_)|refine cn rfl (fun h=>?_) (fun h=>?_)|refine cc rfl (fun h=>?_) (fun h=>?_)
    |(apply hK;clear hK K)|(refine AWh (by assumption) ?_))
  refine AW_range (r := (raiseL lowB l lo, raiseL upB l up)) l 6 [0, 1, 2] (fun s : List Int × List Int => []) (fun s => H3 n s.1 s.2) (fun i s => s.1.length = n.clocks.length ∧ s.2.length = n.clocks.length) raise2 (lo, up)
    rfl ⟨hll, hul⟩ (by apply Weak.mk' <;> simp [vl, NetD.cells, H3]) (fun _ _ _ => rfl) ?_ ?_
  · rintro i ⟨a, b⟩ x _ hlt hx ⟨ha, hb⟩ hF
    simp only at ha hb
    rw [raise2_cons] at hF
    obtain ⟨g1, g2⟩ := hg x (hx ▸ List.getElem_mem hlt)
    have hlt' : (i : Int) < l.length := by omega
    have w1 : IntKind.i64.wrap ((i : Int) + 1) = i + 1 := wrap_i64 (by omega) (by omega)
    have w2 : IntKind.i64.wrap (x.clock - 1) = x.clock - 1 := wrap_i64 (by omega) (by omega)
    obtain ⟨p, hp⟩ := Int.eq_ofNat_of_zero_le (show 0 ≤ x.clock - 1 by omega)
    have hpn : p < n.clocks.length := by omega
    have hpa : p < a.length := by omega
    have hpb : p < b.length := by omega
    have hpn' : (p : Int) < n.clocks.length := by omega
    have e1 : raise1 lowB a x = if lowB x.cmp = true ∧ a[p] < x.n then a.set p x.n else a := raise1_eq (by omega) hpa
    have e2 : raise1 upB b x = if upB x.cmp = true ∧ b[p] < x.n then b.set p x.n else b := raise1_eq (by omega) hpb
    rw [e1, e2] at hF
    obtain ⟨y, hy⟩ : ∃ y, a[p] = y := ⟨_, rfl⟩
    obtain ⟨z, hz⟩ : ∃ z, b[p] = z := ⟨_, rfl⟩
    rw [hy, hz] at hF
    rw [hp] at w2
    have hc1 := r_Above x
    have hc2 := r_Below x
    simp only [GuardD.cells] at hc1 hc2
    clear e1 e2
    cases hs : upB x.cmp <;> cases ht : lowB x.cmp <;> rw [hs] at hc1 hF <;> rw [ht] at hc2 hF <;> by_cases q1 : y < x.n <;> by_cases q2 : z < x.n <;> simp only [q1, q2, and_true, and_false, true_and, false_and, if_true, if_false, Bool.false_eq_true] at hF
    all_goals
      repeat' (first
    |refine AW_seq_k fun K hK=>?_|refine Step.by1 ?_|refine SBlock_exit_ne (by decide) ?_
    |((first|refine AW_region_AO ?_|refine AW_region_APx (id:=4) 17 mixed (by decide) ?_|refine AW_region_APx (id:=6) 17 mixed (by decide) ?_|refine AP_call1 (f:=204) rfl rfl (hc1) rfl rfl rfl ?_|refine AP_call1 (f:=205) rfl rfl (hc2) rfl rfl rfl ?_);simp [vl, H3, GuardD.cells, NetD.cells, hlt, hlt', hx, w1, hp, w2, hpn, hpn', hpa, hpb, ha, hb, hy, hz, q1, q2])
    |(refine Split.by2 (fun h=>?_) (fun h=>?_)<;>(simp [h, vl, H3, GuardD.cells, NetD.cells, hlt, hlt', hx, w1, hp, w2, hpn, hpn', hpa, hpb, ha, hb, hy, hz, q1, q2]))
    |refine ct rfl ?_|refine cf rfl ?_|refine cnd rfl (fun h=>?_) (fun h=>?_)|refine cd rfl (fun h=>?_) (fun h=>?_)|refine cn rfl (fun h=>?_) (fun h=>?_)|refine cc rfl (fun h=>?_) (fun h=>?_)
    |(apply hK;clear hK K)|(refine AWh (by assumption) ?_))
    all_goals
      refine ⟨_, _, hF, ⟨by simp [ha], by simp [hb]⟩, ?_⟩
      apply Weak.mk' <;> simp [vl, NetD.cells, H3]
  · rintro ⟨a, b⟩ ⟨ha, hb⟩ hF
    rw [raise2_nil] at hF
    cases hF
    repeat' (first
    |refine AW_seq_k fun K hK=>?_|refine Step.by1 ?_|refine SBlock_exit_ne (by decide) ?_
    |((first|refine AW_region_AO ?_);simp [vl])
    |(refine Split.by2 (fun h=>?_) (fun h=>?_)<;>(simp [h, vl]))
    |refine ct rfl ?_|refine cf rfl ?_|refine cnd rfl (fun h=>?_) (fun h=>?_)|refine cd rfl (fun h=>?_) (fun h=>?_)|refine cn rfl (fun h=>?_) (fun h=>?_)|refine cc rfl (fun h=>?_) (fun h=>?_)
    |(apply hK;clear hK K)|(refine AWh (by assumption) ?_))
    refine ⟨.inl rfl, _, _, ⟨[], rfl, trivial⟩, ⟨rfl, rfl⟩, rfl, ?_⟩
    have := Go.AM.Leaves.tail (a := H3 n lo up) (a' := H3 n (raiseL lowB l lo) (raiseL upB l up)) (e := []) (x := []) rfl (by simp [H3, NetD.cells, vl])
    simpa using this
end Go.Proofs.YtgmlimipejcpgaaGreatDoor
end

section
set_option linter.unusedVariables false
set_option linter.unusedSimpArgs false
namespace Go.Proofs.YtgmlimipejcpgaaGreatDoor
open Go Go.AM Fx

theorem GuardD_eq (x y : GuardD) : x = y ↔ (x.clock = y.clock ∧ x.other = y.other ∧ x.cmp = y.cmp ∧ x.n = y.n) := by cases x; cases y; simp
set_option maxHeartbeats 2000000 in
theorem c_SameGuards (a b : List GuardD) (ha : a.length ≤ 1099511627776) : PC 143 [vl GuardD.cells a, vl GuardD.cells b] (.bool (decide (a = b))) := by
  refine PCall_body Tryz.func143 rfl (by decide) Tryz.ntmps143 (by simp) Tryz.results143 ?_
  by_cases hab : a.length = b.length
  · have hab' : (a.length : Int) = b.length := by omega
    repeat' (first
    |refine AW_seq_k fun K hK=>?_|refine Step.by1 ?_|refine SBlock_exit_ne (by decide) ?_
    |((first|refine AW_region_AO ?_);simp [vl, hab'])
    |(refine Split.by2 (fun h=>?_) (fun h=>?_)<;>(simp [h, vl, hab']))
    |refine ct rfl ?_|refine cf rfl ?_|refine cnd rfl (fun h=>?_) (fun h=>?_)|refine cd rfl (fun h=>?_) (fun h=>?_)|refine cn rfl (fun h=>?_) (fun h=>?_)|refine cc rfl (fun h=>?_) (fun h=>?_)
    |(apply hK;clear hK K)|(refine AWh (by assumption) ?_))
    refine AW_loopL [0, 1] (fun i : Nat => [(5, .int .i64 i)]) (fun _ => []) (fun i => i ≤ a.length ∧ a.take i = b.take i) (fun i => a.length - i) 0 ⟨Nat.zero_le _, rfl⟩ (by apply Weak.mk' <;> simp) (fun _ _ => rfl) ?_
    intro i hi
    by_cases hlt : i < a.length
    · have hlb : i < b.length := by omega
      have hne : a[i] ≠ b[i] → a ≠ b := fun h e => h (by subst e; rfl)
      have hsucc := fun h => take_same hi.2 hlt hlb h
      obtain ⟨x, hx⟩ : ∃ x, a[i] = x := ⟨_, rfl⟩
      obtain ⟨y, hy⟩ : ∃ y, b[i] = y := ⟨_, rfl⟩
      rw [hx, hy] at hne hsucc
      rw [ne_eq, GuardD_eq] at hne
      rw [GuardD_eq] at hsucc
      repeat' (first
    |refine AW_seq_k fun K hK=>?_|refine Step.by1 ?_|refine SBlock_exit_ne (by decide) ?_
    |((first|refine AW_region_AO ?_|refine AW_region_APx (id:=6) 9 mixed (by decide) ?_);simp [vl, hlt, hlb, hx, hy, GuardD.cells, wrap_i64];try (simp (disch:=omega) only [wrap_i64];try simp [vl, hlt, hlb, hx, hy, GuardD.cells, wrap_i64]))
    |(refine Split.by2 (fun h=>?_) (fun h=>?_)<;>(simp [h, vl, hlt, hlb, hx, hy, GuardD.cells, wrap_i64];try (simp (disch:=omega) only [wrap_i64];try simp [vl, hlt, hlb, hx, hy, GuardD.cells, wrap_i64])))
    |refine ct rfl ?_|refine cf rfl ?_|refine cnd rfl (fun h=>?_) (fun h=>?_)|refine cd rfl (fun h=>?_) (fun h=>?_)|refine cn rfl (fun h=>?_) (fun h=>?_)|refine cc rfl (fun h=>?_) (fun h=>?_)
    |(apply hK;clear hK K)|(refine AWh (by assumption) ?_))
      all_goals first
        | exact retq1 (conv_eq (by simp; exact hne (by first | exact h | (simp at h; intro he; simp [he] at h))) rfl)
        | (refine ⟨i + 1, ⟨by omega, hsucc (by first | exact h | (simp at h; simp [h]))⟩, by omega, ?_⟩; apply Weak.mk' <;> simp [vl])
    · have hie : i = a.length := by omega
      subst hie
      have he : a = b := take_end hi.2 hab
      repeat' (first
    |refine AW_seq_k fun K hK=>?_|refine Step.by1 ?_|refine SBlock_exit_ne (by decide) ?_
    |((first|refine AW_region_AO ?_);simp [vl, hlt])
    |(refine Split.by2 (fun h=>?_) (fun h=>?_)<;>(simp [h, vl, hlt]))
    |refine ct rfl ?_|refine cf rfl ?_|refine cnd rfl (fun h=>?_) (fun h=>?_)|refine cd rfl (fun h=>?_) (fun h=>?_)|refine cn rfl (fun h=>?_) (fun h=>?_)|refine cc rfl (fun h=>?_) (fun h=>?_)
    |(apply hK;clear hK K)|(refine AWh (by assumption) ?_))
      exact retq1 (conv_eq (by simp [he]) rfl)
  · have hab' : ¬ (a.length : Int) = b.length := by omega
    have he : ¬ a = b := fun h => hab (by rw [h])
    repeat' (first
    |refine AW_seq_k fun K hK=>?_|refine Step.by1 ?_|refine SBlock_exit_ne (by decide) ?_
    |((first|refine AW_region_AO ?_);simp [vl, hab'])
    |(refine Split.by2 (fun h=>?_) (fun h=>?_)<;>(simp [h, vl, hab']))
    |refine ct rfl ?_|refine cf rfl ?_|refine cnd rfl (fun h=>?_) (fun h=>?_)|refine cd rfl (fun h=>?_) (fun h=>?_)|refine cn rfl (fun h=>?_) (fun h=>?_)|refine cc rfl (fun h=>?_) (fun h=>?_)
    |(apply hK;clear hK K)|(refine AWh (by assumption) ?_))
    exact retq1 (conv_eq (by simp [he]) rfl)

def markGuards (j : Nat) : List V := [.int .i64 0, .int .i64 0, .int .u8 0, .int .i64 (-700 - (j : Int))]
set_option maxHeartbeats 2000000 in
theorem c_HandGuards (l : List GuardD) (hl : l.length ≤ 1099511627776) : PC 56 [vl GuardD.cells l] (handV GuardD.cells markGuards l) := by
  have w9 : IntKind.i64.wrap ((l.length : Int) + 9) = (l.length : Int) + 9 := wrap_i64 (by omega) (by omega)
  have t9 : ((l.length : Int) + 9).toNat = l.length + 9 := by omega
  have n9 : ((l.length : Int) + 9) * 32 ≤ 281474976710656 := by omega
  have hz : (0 : Int) ≤ (l.length : Int) + 9 := by omega
  refine PCall_body Tryz.func56 rfl (by decide) Tryz.ntmps56 (by simp) Tryz.results56 ?_
  repeat' (first
    |refine AW_seq_k fun K hK=>?_|refine Step.by1 ?_|refine SBlock_exit_ne (by decide) ?_
    |((first|refine AW_region_AO ?_);simp [vl, w9, n9, hz, t9])
    |(refine Split.by2 (fun h=>?_) (fun h=>?_)<;>(simp [h, vl, w9, n9, hz, t9]))
    |refine ct rfl ?_|refine cf rfl ?_|refine cnd rfl (fun h=>?_) (fun h=>?_)|refine cd rfl (fun h=>?_) (fun h=>?_)|refine cn rfl (fun h=>?_) (fun h=>?_)|refine cc rfl (fun h=>?_) (fun h=>?_)
    |(apply hK;clear hK K)|(refine AWh (by assumption) ?_))
  refine AW_loopL [0, 3] (fun i : Nat => [(4, .int .i64 i)]) (fun i => [.row 127 0 0 true (fillR (handF GuardD.cells markGuards l) [.int .i64 0, .int .i64 0, .int .u8 0, .int .i64 0] (l.length + 9) i)]) (fun i => i ≤ l.length) (fun i => l.length - i) 0 (Nat.zero_le _) (by apply Weak.mk' <;> simp [vl, fillR, t9]) (fun _ _ => rfl) ?_
  intro i hi
  by_cases hlt : i < l.length
  · have hlt9 : i < l.length + 9 := by omega
    have hlt8 : (i : Int) < l.length + 9 := by omega
    have hset := fillR_set (f := handF GuardD.cells markGuards l) (z := [.int .i64 0, .int .i64 0, .int .u8 0, .int .i64 0]) hlt9
    have hlen := fillR_len (f := handF GuardD.cells markGuards l) (z := [.int .i64 0, .int .i64 0, .int .u8 0, .int .i64 0]) (n := l.length + 9) (i := i) (by omega)
    have hget := fillR_get (f := handF GuardD.cells markGuards l) (z := [.int .i64 0, .int .i64 0, .int .u8 0, .int .i64 0]) hlt9
    rw [handF_in hlt] at hset
    obtain ⟨x, hx⟩ : ∃ x, l[i] = x := ⟨_, rfl⟩
    rw [hx] at hset
    generalize fillR (handF GuardD.cells markGuards l) [.int .i64 0, .int .i64 0, .int .u8 0, .int .i64 0] (l.length + 9) i = row at *
    have hrl : i < row.length := by omega
    have hri : row[i] = [.int .i64 0, .int .i64 0, .int .u8 0, .int .i64 0] := by rw [List.getElem?_eq_getElem hrl] at hget; exact Option.some.inj hget
    repeat' (first
    |refine AW_seq_k fun K hK=>?_|refine Step.by1 ?_|refine SBlock_exit_ne (by decide) ?_
    |((first|refine AW_region_AO ?_);simp [vl, hlt, hlt9, hlt8, t9, hrl, hri, hx, hlen, GuardD.cells, wrap_i64];try (simp (disch:=omega) only [wrap_i64];try simp [vl, hlt, hlt9, hlt8, t9, hrl, hri, hx, hlen, GuardD.cells, wrap_i64]))
    |(refine Split.by2 (fun h=>?_) (fun h=>?_)<;>(simp [h, vl, hlt, hlt9, hlt8, t9, hrl, hri, hx, hlen, GuardD.cells, wrap_i64];try (simp (disch:=omega) only [wrap_i64];try simp [vl, hlt, hlt9, hlt8, t9, hrl, hri, hx, hlen, GuardD.cells, wrap_i64])))
    |refine ct rfl ?_|refine cf rfl ?_|refine cnd rfl (fun h=>?_) (fun h=>?_)|refine cd rfl (fun h=>?_) (fun h=>?_)|refine cn rfl (fun h=>?_) (fun h=>?_)|refine cc rfl (fun h=>?_) (fun h=>?_)
    |(apply hK;clear hK K)|(refine AWh (by assumption) ?_))
    refine ⟨i + 1, by omega, by omega, ?_⟩
    apply Weak.mk' <;> simp [vl]
    simpa [GuardD.cells] using hset
  · have hie : i = l.length := by omega
    subst hie
    repeat' (first
    |refine AW_seq_k fun K hK=>?_|refine Step.by1 ?_|refine SBlock_exit_ne (by decide) ?_
    |((first|refine AW_region_AO ?_);simp [vl, hlt])
    |(refine Split.by2 (fun h=>?_) (fun h=>?_)<;>(simp [h, vl, hlt]))
    |refine ct rfl ?_|refine cf rfl ?_|refine cnd rfl (fun h=>?_) (fun h=>?_)|refine cd rfl (fun h=>?_) (fun h=>?_)|refine cn rfl (fun h=>?_) (fun h=>?_)|refine cc rfl (fun h=>?_) (fun h=>?_)
    |(apply hK;clear hK K)|(refine AWh (by assumption) ?_))
    refine AW_loopL [0, 3] (fun j : Nat => [(5, .int .i64 (l.length + j : Nat))]) (fun j => [.row 127 0 0 true (fillR (handF GuardD.cells markGuards l) [.int .i64 0, .int .i64 0, .int .u8 0, .int .i64 0] (l.length + 9) (l.length + j))]) (fun j => j ≤ 9) (fun j => 9 - j) 0 (Nat.zero_le _) (by apply Weak.mk' <;> simp [vl]) (fun _ _ => rfl) ?_
    intro j hj
    by_cases hjt : j < 9
    · have hlt9 : l.length + j < l.length + 9 := by omega
      have hset := fillR_set (f := handF GuardD.cells markGuards l) (z := [.int .i64 0, .int .i64 0, .int .u8 0, .int .i64 0]) hlt9
      have hlen := fillR_len (f := handF GuardD.cells markGuards l) (z := [.int .i64 0, .int .i64 0, .int .u8 0, .int .i64 0]) (n := l.length + 9) (i := l.length + j) (by omega)
      have hget := fillR_get (f := handF GuardD.cells markGuards l) (z := [.int .i64 0, .int .i64 0, .int .u8 0, .int .i64 0]) hlt9
      rw [handF_out] at hset
      rw [show l.length + j + 1 = l.length + (j + 1) by omega] at hset
      generalize fillR (handF GuardD.cells markGuards l) [.int .i64 0, .int .i64 0, .int .u8 0, .int .i64 0] (l.length + 9) (l.length + j) = row at *
      have hrl : l.length + j < row.length := by omega
      have hri : row[l.length + j] = [.int .i64 0, .int .i64 0, .int .u8 0, .int .i64 0] := by rw [List.getElem?_eq_getElem hrl] at hget; exact Option.some.inj hget
      have hle : (l.length : Int) + j ≤ 1099511627785 := by omega
      have w1 : IntKind.i64.wrap (-700 - ((l.length : Int) + j)) = -700 - ((l.length : Int) + j) := wrap_i64 (by omega) (by omega)
      have w2 : IntKind.i64.wrap (-700 - ((l.length : Int) + j) + l.length) = -700 - (j : Int) := by rw [wrap_i64 (by omega) (by omega)]; omega
      have w3 : IntKind.i64.wrap ((l.length : Int) + j + 1) = (l.length : Int) + j + 1 := wrap_i64 (by omega) (by omega)
      have hjn : ((l.length : Int) + j).toNat = l.length + j := by omega
      have hj0 : (0 : Int) ≤ (l.length : Int) + j := by omega
      have hj1 : (l.length : Int) + j < (l.length : Int) + 9 := by omega
      have hjt' : (j : Int) < 9 := by omega
      repeat' (first
    |refine AW_seq_k fun K hK=>?_|refine Step.by1 ?_|refine SBlock_exit_ne (by decide) ?_
    |((first|refine AW_region_AO ?_);simp [vl, hlt9, hrl, hri, hlen, w1, w2, w3, hjn, hj0, hj1, hjt', hjt, t9])
    |(refine Split.by2 (fun h=>?_) (fun h=>?_)<;>(simp [h, vl, hlt9, hrl, hri, hlen, w1, w2, w3, hjn, hj0, hj1, hjt', hjt, t9]))
    |refine ct rfl ?_|refine cf rfl ?_|refine cnd rfl (fun h=>?_) (fun h=>?_)|refine cd rfl (fun h=>?_) (fun h=>?_)|refine cn rfl (fun h=>?_) (fun h=>?_)|refine cc rfl (fun h=>?_) (fun h=>?_)
    |(apply hK;clear hK K)|(refine AWh (by assumption) ?_))
      refine ⟨j + 1, by omega, by omega, ?_⟩
      apply Weak.mk' <;> simp [vl]
      · omega
      · simpa [markGuards] using hset
    · have hje : j = 9 := by omega
      subst hje
      have hfin : fillR (handF GuardD.cells markGuards l) [.int .i64 0, .int .i64 0, .int .u8 0, .int .i64 0] (l.length + 9) (l.length + 9) = l.map GuardD.cells ++ (List.range 9).map markGuards := by unfold fillR; rw [range_hand]; simp
      rw [hfin]
      repeat' (first
    |refine AW_seq_k fun K hK=>?_|refine Step.by1 ?_|refine SBlock_exit_ne (by decide) ?_
    |((first|refine AW_region_AO ?_);simp [vl, t9])
    |(refine Split.by2 (fun h=>?_) (fun h=>?_)<;>(simp [h, vl, t9]))
    |refine ct rfl ?_|refine cf rfl ?_|refine cnd rfl (fun h=>?_) (fun h=>?_)|refine cd rfl (fun h=>?_) (fun h=>?_)|refine cn rfl (fun h=>?_) (fun h=>?_)|refine cc rfl (fun h=>?_) (fun h=>?_)
    |(apply hK;clear hK K)|(refine AWh (by assumption) ?_))
      exact retq1 (.inl ⟨1, by simp [handV], rfl⟩)

theorem trims_GuardD (x : GuardD) : V.trims (GuardD.cells x) = GuardD.cells x := trims_map _ (by simp [GuardD.cells, V.trim])
theorem trim_handGuards (l : List GuardD) : (handV GuardD.cells markGuards l).trim = vl GuardD.cells l := trim_pad _ fun x _ => trims_GuardD x
theorem trim_vlGuards (l : List GuardD) : (vl GuardD.cells l).trim = vl GuardD.cells l := trim_vl fun x _ => trims_GuardD x
set_option maxHeartbeats 2000000 in
theorem c_KeptGuards (l : List GuardD) (hl : l.length ≤ 1099511627776) : PC 72 [handV GuardD.cells markGuards l, vl GuardD.cells l] (.bool true) := by
  have hs := (c_SameGuards l l hl).trim (args := [handV GuardD.cells markGuards l, vl GuardD.cells l]) (by simp only [V.trims, trim_handGuards, trim_vlGuards])
  have w9 : IntKind.i64.wrap ((l.length : Int) + 9) = (l.length : Int) + 9 := wrap_i64 (by omega) (by omega)
  have t9 : ((l.length : Int) + 9).toNat = l.length + 9 := by omega
  have hz : (0 : Int) ≤ (l.length : Int) + 9 := by omega
  obtain ⟨row, hrow⟩ : ∃ row, l.map GuardD.cells ++ (List.range 9).map markGuards = row := ⟨_, rfl⟩
  have hlen : row.length = l.length + 9 := by rw [← hrow]; simp
  have hall : ∀ x ∈ row, x.length = 4 := fun x hx => by
    rw [← hrow] at hx
    rcases List.mem_append.1 hx with h | h
    · obtain ⟨y, _, rfl⟩ := List.mem_map.1 h; rfl
    · obtain ⟨y, _, rfl⟩ := List.mem_map.1 h; rfl
  have hget : ∀ j, j < 9 → row[l.length + j]? = some (markGuards j) := fun j hj => by
    rw [← hrow, List.getElem?_append_right (by simp), List.length_map, Nat.add_sub_cancel_left, List.getElem?_map, List.getElem?_range hj]; rfl
  simp only [handV, hrow, vl, decide_true] at hs
  unfold handV
  rw [hrow]
  refine PCall_body Tryz.func72 rfl (by decide) Tryz.ntmps72 (by simp) Tryz.results72 ?_
  repeat' (first
    |refine AW_seq_k fun K hK=>?_|refine Step.by1 ?_|refine SBlock_exit_ne (by decide) ?_
    |((first|refine AW_region_AO ?_|refine AS_call1 (f:=143) rfl rfl (hs) rfl rfl rfl ?_);simp [vl, w9, t9, hz, hlen])
    |(refine Split.by2 (fun h=>?_) (fun h=>?_)<;>(simp [h, vl, w9, t9, hz, hlen]))
    |refine ct rfl ?_|refine cf rfl ?_|refine cnd rfl (fun h=>?_) (fun h=>?_)|refine cd rfl (fun h=>?_) (fun h=>?_)|refine cn rfl (fun h=>?_) (fun h=>?_)|refine cc rfl (fun h=>?_) (fun h=>?_)
    |refine And.intro hall ?_
    |(apply hK;clear hK K)|(refine AWh (by assumption) ?_))
  refine AW_loopL [1, 5] (fun j : Nat => [(6, .int .i64 (l.length + j : Nat))]) (fun _ => []) (fun j => j ≤ 9) (fun j => 9 - j) 0 (Nat.zero_le _) (by apply Weak.mk' <;> simp [vl]) (fun _ _ => rfl) ?_
  intro j hj
  by_cases hjt : j < 9
  · have hm := hget j hjt
    have hrl : l.length + j < row.length := by omega
    have hri : row[l.length + j] = markGuards j := by rw [List.getElem?_eq_getElem hrl] at hm; exact Option.some.inj hm
    have w1 : IntKind.i64.wrap (-700 - ((l.length : Int) + j)) = -700 - ((l.length : Int) + j) := wrap_i64 (by omega) (by omega)
    have w2 : IntKind.i64.wrap (-700 - ((l.length : Int) + j) + l.length) = -700 - (j : Int) := by rw [wrap_i64 (by omega) (by omega)]; omega
    have w3 : IntKind.i64.wrap ((l.length : Int) + j + 1) = (l.length : Int) + j + 1 := wrap_i64 (by omega) (by omega)
    have hjn : ((l.length : Int) + j).toNat = l.length + j := by omega
    have hj0 : (0 : Int) ≤ (l.length : Int) + j := by omega
    have hj1 : (l.length : Int) + j < (l.length : Int) + 9 := by omega
    have hjt' : (j : Int) < 9 := by omega
    repeat' (first
    |refine AW_seq_k fun K hK=>?_|refine Step.by1 ?_|refine SBlock_exit_ne (by decide) ?_
    |((first|refine AW_region_AO ?_);simp [vl, hrl, hri, hlen, w1, w2, w3, hjn, hj0, hj1, hjt', hjt, t9, markGuards])
    |(refine Split.by2 (fun h=>?_) (fun h=>?_)<;>(simp [h, vl, hrl, hri, hlen, w1, w2, w3, hjn, hj0, hj1, hjt', hjt, t9, markGuards]))
    |refine ct rfl ?_|refine cf rfl ?_|refine cnd rfl (fun h=>?_) (fun h=>?_)|refine cd rfl (fun h=>?_) (fun h=>?_)|refine cn rfl (fun h=>?_) (fun h=>?_)|refine cc rfl (fun h=>?_) (fun h=>?_)
    |(apply hK;clear hK K)|(refine AWh (by assumption) ?_))
    refine ⟨j + 1, by omega, by omega, ?_⟩
    apply Weak.mk' <;> simp [vl]
    omega
  · have hje : j = 9 := by omega
    subst hje
    repeat' (first
    |refine AW_seq_k fun K hK=>?_|refine Step.by1 ?_|refine SBlock_exit_ne (by decide) ?_
    |((first|refine AW_region_AO ?_);simp [vl, t9])
    |(refine Split.by2 (fun h=>?_) (fun h=>?_)<;>(simp [h, vl, t9]))
    |refine ct rfl ?_|refine cf rfl ?_|refine cnd rfl (fun h=>?_) (fun h=>?_)|refine cd rfl (fun h=>?_) (fun h=>?_)|refine cn rfl (fun h=>?_) (fun h=>?_)|refine cc rfl (fun h=>?_) (fun h=>?_)
    |(apply hK;clear hK K)|(refine AWh (by assumption) ?_))
    exact retq1 (conv_eq rfl rfl)

end Go.Proofs.YtgmlimipejcpgaaGreatDoor
end

section
set_option linter.unusedVariables false
set_option linter.unusedSimpArgs false
namespace Go.Proofs.YtgmlimipejcpgaaGreatDoor
open Go Go.AM Fx

theorem NodeD_eq (x y : NodeD) : x = y ↔ (x.op = y.op ∧ x.n = y.n) := by cases x; cases y; simp
set_option maxHeartbeats 2000000 in
theorem c_SameNodes (a b : List NodeD) (ha : a.length ≤ 1099511627776) : PC 144 [vl NodeD.cells a, vl NodeD.cells b] (.bool (decide (a = b))) := by
  refine PCall_body Tryz.func144 rfl (by decide) Tryz.ntmps144 (by simp) Tryz.results144 ?_
  by_cases hab : a.length = b.length
  · have hab' : (a.length : Int) = b.length := by omega
    repeat' (first
    |refine AW_seq_k fun K hK=>?_|refine Step.by1 ?_|refine SBlock_exit_ne (by decide) ?_
    |((first|refine AW_region_AO ?_);simp [vl, hab'])
    |(refine Split.by2 (fun h=>?_) (fun h=>?_)<;>(simp [h, vl, hab']))
    |refine ct rfl ?_|refine cf rfl ?_|refine cnd rfl (fun h=>?_) (fun h=>?_)|refine cd rfl (fun h=>?_) (fun h=>?_)|refine cn rfl (fun h=>?_) (fun h=>?_)|refine cc rfl (fun h=>?_) (fun h=>?_)
    |(apply hK;clear hK K)|(refine AWh (by assumption) ?_))
    refine AW_loopL [0, 1] (fun i : Nat => [(5, .int .i64 i)]) (fun _ => []) (fun i => i ≤ a.length ∧ a.take i = b.take i) (fun i => a.length - i) 0 ⟨Nat.zero_le _, rfl⟩ (by apply Weak.mk' <;> simp) (fun _ _ => rfl) ?_
    intro i hi
    by_cases hlt : i < a.length
    · have hlb : i < b.length := by omega
      have hne : a[i] ≠ b[i] → a ≠ b := fun h e => h (by subst e; rfl)
      have hsucc := fun h => take_same hi.2 hlt hlb h
      obtain ⟨x, hx⟩ : ∃ x, a[i] = x := ⟨_, rfl⟩
      obtain ⟨y, hy⟩ : ∃ y, b[i] = y := ⟨_, rfl⟩
      rw [hx, hy] at hne hsucc
      rw [ne_eq, NodeD_eq] at hne
      rw [NodeD_eq] at hsucc
      repeat' (first
    |refine AW_seq_k fun K hK=>?_|refine Step.by1 ?_|refine SBlock_exit_ne (by decide) ?_
    |((first|refine AW_region_AO ?_|refine AW_region_APx (id:=6) 9 mixed (by decide) ?_);simp [vl, hlt, hlb, hx, hy, NodeD.cells, wrap_i64];try (simp (disch:=omega) only [wrap_i64];try simp [vl, hlt, hlb, hx, hy, NodeD.cells, wrap_i64]))
    |(refine Split.by2 (fun h=>?_) (fun h=>?_)<;>(simp [h, vl, hlt, hlb, hx, hy, NodeD.cells, wrap_i64];try (simp (disch:=omega) only [wrap_i64];try simp [vl, hlt, hlb, hx, hy, NodeD.cells, wrap_i64])))
    |refine ct rfl ?_|refine cf rfl ?_|refine cnd rfl (fun h=>?_) (fun h=>?_)|refine cd rfl (fun h=>?_) (fun h=>?_)|refine cn rfl (fun h=>?_) (fun h=>?_)|refine cc rfl (fun h=>?_) (fun h=>?_)
    |(apply hK;clear hK K)|(refine AWh (by assumption) ?_))
      all_goals first
        | exact retq1 (conv_eq (by simp; exact hne (by first | exact h | (simp at h; intro he; simp [he] at h))) rfl)
        | (refine ⟨i + 1, ⟨by omega, hsucc (by first | exact h | (simp at h; simp [h]))⟩, by omega, ?_⟩; apply Weak.mk' <;> simp [vl])
    · have hie : i = a.length := by omega
      subst hie
      have he : a = b := take_end hi.2 hab
      repeat' (first
    |refine AW_seq_k fun K hK=>?_|refine Step.by1 ?_|refine SBlock_exit_ne (by decide) ?_
    |((first|refine AW_region_AO ?_);simp [vl, hlt])
    |(refine Split.by2 (fun h=>?_) (fun h=>?_)<;>(simp [h, vl, hlt]))
    |refine ct rfl ?_|refine cf rfl ?_|refine cnd rfl (fun h=>?_) (fun h=>?_)|refine cd rfl (fun h=>?_) (fun h=>?_)|refine cn rfl (fun h=>?_) (fun h=>?_)|refine cc rfl (fun h=>?_) (fun h=>?_)
    |(apply hK;clear hK K)|(refine AWh (by assumption) ?_))
      exact retq1 (conv_eq (by simp [he]) rfl)
  · have hab' : ¬ (a.length : Int) = b.length := by omega
    have he : ¬ a = b := fun h => hab (by rw [h])
    repeat' (first
    |refine AW_seq_k fun K hK=>?_|refine Step.by1 ?_|refine SBlock_exit_ne (by decide) ?_
    |((first|refine AW_region_AO ?_);simp [vl, hab'])
    |(refine Split.by2 (fun h=>?_) (fun h=>?_)<;>(simp [h, vl, hab']))
    |refine ct rfl ?_|refine cf rfl ?_|refine cnd rfl (fun h=>?_) (fun h=>?_)|refine cd rfl (fun h=>?_) (fun h=>?_)|refine cn rfl (fun h=>?_) (fun h=>?_)|refine cc rfl (fun h=>?_) (fun h=>?_)
    |(apply hK;clear hK K)|(refine AWh (by assumption) ?_))
    exact retq1 (conv_eq (by simp [he]) rfl)

def markNodes (j : Nat) : List V := [.int .u8 0, .int .i64 (-700 - (j : Int))]
set_option maxHeartbeats 2000000 in
theorem c_HandNodes (l : List NodeD) (hl : l.length ≤ 1099511627776) : PC 57 [vl NodeD.cells l] (handV NodeD.cells markNodes l) := by
  have w9 : IntKind.i64.wrap ((l.length : Int) + 9) = (l.length : Int) + 9 := wrap_i64 (by omega) (by omega)
  have t9 : ((l.length : Int) + 9).toNat = l.length + 9 := by omega
  have n9 : ((l.length : Int) + 9) * 16 ≤ 281474976710656 := by omega
  have hz : (0 : Int) ≤ (l.length : Int) + 9 := by omega
  refine PCall_body Tryz.func57 rfl (by decide) Tryz.ntmps57 (by simp) Tryz.results57 ?_
  repeat' (first
    |refine AW_seq_k fun K hK=>?_|refine Step.by1 ?_|refine SBlock_exit_ne (by decide) ?_
    |((first|refine AW_region_AO ?_);simp [vl, w9, n9, hz, t9])
    |(refine Split.by2 (fun h=>?_) (fun h=>?_)<;>(simp [h, vl, w9, n9, hz, t9]))
    |refine ct rfl ?_|refine cf rfl ?_|refine cnd rfl (fun h=>?_) (fun h=>?_)|refine cd rfl (fun h=>?_) (fun h=>?_)|refine cn rfl (fun h=>?_) (fun h=>?_)|refine cc rfl (fun h=>?_) (fun h=>?_)
    |(apply hK;clear hK K)|(refine AWh (by assumption) ?_))
  refine AW_loopL [0, 3] (fun i : Nat => [(4, .int .i64 i)]) (fun i => [.row 164 0 0 true (fillR (handF NodeD.cells markNodes l) [.int .u8 0, .int .i64 0] (l.length + 9) i)]) (fun i => i ≤ l.length) (fun i => l.length - i) 0 (Nat.zero_le _) (by apply Weak.mk' <;> simp [vl, fillR, t9]) (fun _ _ => rfl) ?_
  intro i hi
  by_cases hlt : i < l.length
  · have hlt9 : i < l.length + 9 := by omega
    have hlt8 : (i : Int) < l.length + 9 := by omega
    have hset := fillR_set (f := handF NodeD.cells markNodes l) (z := [.int .u8 0, .int .i64 0]) hlt9
    have hlen := fillR_len (f := handF NodeD.cells markNodes l) (z := [.int .u8 0, .int .i64 0]) (n := l.length + 9) (i := i) (by omega)
    have hget := fillR_get (f := handF NodeD.cells markNodes l) (z := [.int .u8 0, .int .i64 0]) hlt9
    rw [handF_in hlt] at hset
    obtain ⟨x, hx⟩ : ∃ x, l[i] = x := ⟨_, rfl⟩
    rw [hx] at hset
    generalize fillR (handF NodeD.cells markNodes l) [.int .u8 0, .int .i64 0] (l.length + 9) i = row at *
    have hrl : i < row.length := by omega
    have hri : row[i] = [.int .u8 0, .int .i64 0] := by rw [List.getElem?_eq_getElem hrl] at hget; exact Option.some.inj hget
    repeat' (first
    |refine AW_seq_k fun K hK=>?_|refine Step.by1 ?_|refine SBlock_exit_ne (by decide) ?_
    |((first|refine AW_region_AO ?_);simp [vl, hlt, hlt9, hlt8, t9, hrl, hri, hx, hlen, NodeD.cells, wrap_i64];try (simp (disch:=omega) only [wrap_i64];try simp [vl, hlt, hlt9, hlt8, t9, hrl, hri, hx, hlen, NodeD.cells, wrap_i64]))
    |(refine Split.by2 (fun h=>?_) (fun h=>?_)<;>(simp [h, vl, hlt, hlt9, hlt8, t9, hrl, hri, hx, hlen, NodeD.cells, wrap_i64];try (simp (disch:=omega) only [wrap_i64];try simp [vl, hlt, hlt9, hlt8, t9, hrl, hri, hx, hlen, NodeD.cells, wrap_i64])))
    |refine ct rfl ?_|refine cf rfl ?_|refine cnd rfl (fun h=>?_) (fun h=>?_)|refine cd rfl (fun h=>?_) (fun h=>?_)|refine cn rfl (fun h=>?_) (fun h=>?_)|refine cc rfl (fun h=>?_) (fun h=>?_)
    |(apply hK;clear hK K)|(refine AWh (by assumption) ?_))
    refine ⟨i + 1, by omega, by omega, ?_⟩
    apply Weak.mk' <;> simp [vl]
    simpa [NodeD.cells] using hset
  · have hie : i = l.length := by omega
    subst hie
    repeat' (first
    |refine AW_seq_k fun K hK=>?_|refine Step.by1 ?_|refine SBlock_exit_ne (by decide) ?_
    |((first|refine AW_region_AO ?_);simp [vl, hlt])
    |(refine Split.by2 (fun h=>?_) (fun h=>?_)<;>(simp [h, vl, hlt]))
    |refine ct rfl ?_|refine cf rfl ?_|refine cnd rfl (fun h=>?_) (fun h=>?_)|refine cd rfl (fun h=>?_) (fun h=>?_)|refine cn rfl (fun h=>?_) (fun h=>?_)|refine cc rfl (fun h=>?_) (fun h=>?_)
    |(apply hK;clear hK K)|(refine AWh (by assumption) ?_))
    refine AW_loopL [0, 3] (fun j : Nat => [(5, .int .i64 (l.length + j : Nat))]) (fun j => [.row 164 0 0 true (fillR (handF NodeD.cells markNodes l) [.int .u8 0, .int .i64 0] (l.length + 9) (l.length + j))]) (fun j => j ≤ 9) (fun j => 9 - j) 0 (Nat.zero_le _) (by apply Weak.mk' <;> simp [vl]) (fun _ _ => rfl) ?_
    intro j hj
    by_cases hjt : j < 9
    · have hlt9 : l.length + j < l.length + 9 := by omega
      have hset := fillR_set (f := handF NodeD.cells markNodes l) (z := [.int .u8 0, .int .i64 0]) hlt9
      have hlen := fillR_len (f := handF NodeD.cells markNodes l) (z := [.int .u8 0, .int .i64 0]) (n := l.length + 9) (i := l.length + j) (by omega)
      have hget := fillR_get (f := handF NodeD.cells markNodes l) (z := [.int .u8 0, .int .i64 0]) hlt9
      rw [handF_out] at hset
      rw [show l.length + j + 1 = l.length + (j + 1) by omega] at hset
      generalize fillR (handF NodeD.cells markNodes l) [.int .u8 0, .int .i64 0] (l.length + 9) (l.length + j) = row at *
      have hrl : l.length + j < row.length := by omega
      have hri : row[l.length + j] = [.int .u8 0, .int .i64 0] := by rw [List.getElem?_eq_getElem hrl] at hget; exact Option.some.inj hget
      have hle : (l.length : Int) + j ≤ 1099511627785 := by omega
      have w1 : IntKind.i64.wrap (-700 - ((l.length : Int) + j)) = -700 - ((l.length : Int) + j) := wrap_i64 (by omega) (by omega)
      have w2 : IntKind.i64.wrap (-700 - ((l.length : Int) + j) + l.length) = -700 - (j : Int) := by rw [wrap_i64 (by omega) (by omega)]; omega
      have w3 : IntKind.i64.wrap ((l.length : Int) + j + 1) = (l.length : Int) + j + 1 := wrap_i64 (by omega) (by omega)
      have hjn : ((l.length : Int) + j).toNat = l.length + j := by omega
      have hj0 : (0 : Int) ≤ (l.length : Int) + j := by omega
      have hj1 : (l.length : Int) + j < (l.length : Int) + 9 := by omega
      have hjt' : (j : Int) < 9 := by omega
      repeat' (first
    |refine AW_seq_k fun K hK=>?_|refine Step.by1 ?_|refine SBlock_exit_ne (by decide) ?_
    |((first|refine AW_region_AO ?_);simp [vl, hlt9, hrl, hri, hlen, w1, w2, w3, hjn, hj0, hj1, hjt', hjt, t9])
    |(refine Split.by2 (fun h=>?_) (fun h=>?_)<;>(simp [h, vl, hlt9, hrl, hri, hlen, w1, w2, w3, hjn, hj0, hj1, hjt', hjt, t9]))
    |refine ct rfl ?_|refine cf rfl ?_|refine cnd rfl (fun h=>?_) (fun h=>?_)|refine cd rfl (fun h=>?_) (fun h=>?_)|refine cn rfl (fun h=>?_) (fun h=>?_)|refine cc rfl (fun h=>?_) (fun h=>?_)
    |(apply hK;clear hK K)|(refine AWh (by assumption) ?_))
      refine ⟨j + 1, by omega, by omega, ?_⟩
      apply Weak.mk' <;> simp [vl]
      · omega
      · simpa [markNodes] using hset
    · have hje : j = 9 := by omega
      subst hje
      have hfin : fillR (handF NodeD.cells markNodes l) [.int .u8 0, .int .i64 0] (l.length + 9) (l.length + 9) = l.map NodeD.cells ++ (List.range 9).map markNodes := by unfold fillR; rw [range_hand]; simp
      rw [hfin]
      repeat' (first
    |refine AW_seq_k fun K hK=>?_|refine Step.by1 ?_|refine SBlock_exit_ne (by decide) ?_
    |((first|refine AW_region_AO ?_);simp [vl, t9])
    |(refine Split.by2 (fun h=>?_) (fun h=>?_)<;>(simp [h, vl, t9]))
    |refine ct rfl ?_|refine cf rfl ?_|refine cnd rfl (fun h=>?_) (fun h=>?_)|refine cd rfl (fun h=>?_) (fun h=>?_)|refine cn rfl (fun h=>?_) (fun h=>?_)|refine cc rfl (fun h=>?_) (fun h=>?_)
    |(apply hK;clear hK K)|(refine AWh (by assumption) ?_))
      exact retq1 (.inl ⟨1, by simp [handV], rfl⟩)

theorem trims_NodeD (x : NodeD) : V.trims (NodeD.cells x) = NodeD.cells x := trims_map _ (by simp [NodeD.cells, V.trim])
theorem trim_handNodes (l : List NodeD) : (handV NodeD.cells markNodes l).trim = vl NodeD.cells l := trim_pad _ fun x _ => trims_NodeD x
theorem trim_vlNodes (l : List NodeD) : (vl NodeD.cells l).trim = vl NodeD.cells l := trim_vl fun x _ => trims_NodeD x
set_option maxHeartbeats 2000000 in
theorem c_KeptNodes (l : List NodeD) (hl : l.length ≤ 1099511627776) : PC 73 [handV NodeD.cells markNodes l, vl NodeD.cells l] (.bool true) := by
  have hs := (c_SameNodes l l hl).trim (args := [handV NodeD.cells markNodes l, vl NodeD.cells l]) (by simp only [V.trims, trim_handNodes, trim_vlNodes])
  have w9 : IntKind.i64.wrap ((l.length : Int) + 9) = (l.length : Int) + 9 := wrap_i64 (by omega) (by omega)
  have t9 : ((l.length : Int) + 9).toNat = l.length + 9 := by omega
  have hz : (0 : Int) ≤ (l.length : Int) + 9 := by omega
  obtain ⟨row, hrow⟩ : ∃ row, l.map NodeD.cells ++ (List.range 9).map markNodes = row := ⟨_, rfl⟩
  have hlen : row.length = l.length + 9 := by rw [← hrow]; simp
  have hall : ∀ x ∈ row, x.length = 2 := fun x hx => by
    rw [← hrow] at hx
    rcases List.mem_append.1 hx with h | h
    · obtain ⟨y, _, rfl⟩ := List.mem_map.1 h; rfl
    · obtain ⟨y, _, rfl⟩ := List.mem_map.1 h; rfl
  have hget : ∀ j, j < 9 → row[l.length + j]? = some (markNodes j) := fun j hj => by
    rw [← hrow, List.getElem?_append_right (by simp), List.length_map, Nat.add_sub_cancel_left, List.getElem?_map, List.getElem?_range hj]; rfl
  simp only [handV, hrow, vl, decide_true] at hs
  unfold handV
  rw [hrow]
  refine PCall_body Tryz.func73 rfl (by decide) Tryz.ntmps73 (by simp) Tryz.results73 ?_
  repeat' (first
    |refine AW_seq_k fun K hK=>?_|refine Step.by1 ?_|refine SBlock_exit_ne (by decide) ?_
    |((first|refine AW_region_AO ?_|refine AS_call1 (f:=144) rfl rfl (hs) rfl rfl rfl ?_);simp [vl, w9, t9, hz, hlen])
    |(refine Split.by2 (fun h=>?_) (fun h=>?_)<;>(simp [h, vl, w9, t9, hz, hlen]))
    |refine ct rfl ?_|refine cf rfl ?_|refine cnd rfl (fun h=>?_) (fun h=>?_)|refine cd rfl (fun h=>?_) (fun h=>?_)|refine cn rfl (fun h=>?_) (fun h=>?_)|refine cc rfl (fun h=>?_) (fun h=>?_)
    |refine And.intro hall ?_
    |(apply hK;clear hK K)|(refine AWh (by assumption) ?_))
  refine AW_loopL [1, 5] (fun j : Nat => [(6, .int .i64 (l.length + j : Nat))]) (fun _ => []) (fun j => j ≤ 9) (fun j => 9 - j) 0 (Nat.zero_le _) (by apply Weak.mk' <;> simp [vl]) (fun _ _ => rfl) ?_
  intro j hj
  by_cases hjt : j < 9
  · have hm := hget j hjt
    have hrl : l.length + j < row.length := by omega
    have hri : row[l.length + j] = markNodes j := by rw [List.getElem?_eq_getElem hrl] at hm; exact Option.some.inj hm
    have w1 : IntKind.i64.wrap (-700 - ((l.length : Int) + j)) = -700 - ((l.length : Int) + j) := wrap_i64 (by omega) (by omega)
    have w2 : IntKind.i64.wrap (-700 - ((l.length : Int) + j) + l.length) = -700 - (j : Int) := by rw [wrap_i64 (by omega) (by omega)]; omega
    have w3 : IntKind.i64.wrap ((l.length : Int) + j + 1) = (l.length : Int) + j + 1 := wrap_i64 (by omega) (by omega)
    have hjn : ((l.length : Int) + j).toNat = l.length + j := by omega
    have hj0 : (0 : Int) ≤ (l.length : Int) + j := by omega
    have hj1 : (l.length : Int) + j < (l.length : Int) + 9 := by omega
    have hjt' : (j : Int) < 9 := by omega
    repeat' (first
    |refine AW_seq_k fun K hK=>?_|refine Step.by1 ?_|refine SBlock_exit_ne (by decide) ?_
    |((first|refine AW_region_AO ?_);simp [vl, hrl, hri, hlen, w1, w2, w3, hjn, hj0, hj1, hjt', hjt, t9, markNodes])
    |(refine Split.by2 (fun h=>?_) (fun h=>?_)<;>(simp [h, vl, hrl, hri, hlen, w1, w2, w3, hjn, hj0, hj1, hjt', hjt, t9, markNodes]))
    |refine ct rfl ?_|refine cf rfl ?_|refine cnd rfl (fun h=>?_) (fun h=>?_)|refine cd rfl (fun h=>?_) (fun h=>?_)|refine cn rfl (fun h=>?_) (fun h=>?_)|refine cc rfl (fun h=>?_) (fun h=>?_)
    |(apply hK;clear hK K)|(refine AWh (by assumption) ?_))
    refine ⟨j + 1, by omega, by omega, ?_⟩
    apply Weak.mk' <;> simp [vl]
    omega
  · have hje : j = 9 := by omega
    subst hje
    repeat' (first
    |refine AW_seq_k fun K hK=>?_|refine Step.by1 ?_|refine SBlock_exit_ne (by decide) ?_
    |((first|refine AW_region_AO ?_);simp [vl, t9])
    |(refine Split.by2 (fun h=>?_) (fun h=>?_)<;>(simp [h, vl, t9]))
    |refine ct rfl ?_|refine cf rfl ?_|refine cnd rfl (fun h=>?_) (fun h=>?_)|refine cd rfl (fun h=>?_) (fun h=>?_)|refine cn rfl (fun h=>?_) (fun h=>?_)|refine cc rfl (fun h=>?_) (fun h=>?_)
    |(apply hK;clear hK K)|(refine AWh (by assumption) ?_))
    exact retq1 (conv_eq rfl rfl)

end Go.Proofs.YtgmlimipejcpgaaGreatDoor
end

section
set_option linter.unusedVariables false
set_option linter.unusedSimpArgs false
namespace Go.Proofs.YtgmlimipejcpgaaGreatDoor
open Go Go.AM Fx

theorem AtD_eq (x y : AtD) : x = y ↔ (x.auto = y.auto ∧ x.loc = y.loc) := by cases x; cases y; simp
set_option maxHeartbeats 2000000 in
theorem c_SameAts (a b : List AtD) (ha : a.length ≤ 1099511627776) : PC 156 [vl AtD.cells a, vl AtD.cells b] (.bool (decide (a = b))) := by
  refine PCall_body Tryz.func156 rfl (by decide) Tryz.ntmps156 (by simp) Tryz.results156 ?_
  by_cases hab : a.length = b.length
  · have hab' : (a.length : Int) = b.length := by omega
    repeat' (first
    |refine AW_seq_k fun K hK=>?_|refine Step.by1 ?_|refine SBlock_exit_ne (by decide) ?_
    |((first|refine AW_region_AO ?_);simp [vl, hab'])
    |(refine Split.by2 (fun h=>?_) (fun h=>?_)<;>(simp [h, vl, hab']))
    |refine ct rfl ?_|refine cf rfl ?_|refine cnd rfl (fun h=>?_) (fun h=>?_)|refine cd rfl (fun h=>?_) (fun h=>?_)|refine cn rfl (fun h=>?_) (fun h=>?_)|refine cc rfl (fun h=>?_) (fun h=>?_)
    |(apply hK;clear hK K)|(refine AWh (by assumption) ?_))
    refine AW_loopL [0, 1] (fun i : Nat => [(5, .int .i64 i)]) (fun _ => []) (fun i => i ≤ a.length ∧ a.take i = b.take i) (fun i => a.length - i) 0 ⟨Nat.zero_le _, rfl⟩ (by apply Weak.mk' <;> simp) (fun _ _ => rfl) ?_
    intro i hi
    by_cases hlt : i < a.length
    · have hlb : i < b.length := by omega
      have hne : a[i] ≠ b[i] → a ≠ b := fun h e => h (by subst e; rfl)
      have hsucc := fun h => take_same hi.2 hlt hlb h
      obtain ⟨x, hx⟩ : ∃ x, a[i] = x := ⟨_, rfl⟩
      obtain ⟨y, hy⟩ : ∃ y, b[i] = y := ⟨_, rfl⟩
      rw [hx, hy] at hne hsucc
      rw [ne_eq, AtD_eq] at hne
      rw [AtD_eq] at hsucc
      repeat' (first
    |refine AW_seq_k fun K hK=>?_|refine Step.by1 ?_|refine SBlock_exit_ne (by decide) ?_
    |((first|refine AW_region_AO ?_|refine AW_region_APx (id:=6) 9 mixed (by decide) ?_);simp [vl, hlt, hlb, hx, hy, AtD.cells, wrap_i64];try (simp (disch:=omega) only [wrap_i64];try simp [vl, hlt, hlb, hx, hy, AtD.cells, wrap_i64]))
    |(refine Split.by2 (fun h=>?_) (fun h=>?_)<;>(simp [h, vl, hlt, hlb, hx, hy, AtD.cells, wrap_i64];try (simp (disch:=omega) only [wrap_i64];try simp [vl, hlt, hlb, hx, hy, AtD.cells, wrap_i64])))
    |refine ct rfl ?_|refine cf rfl ?_|refine cnd rfl (fun h=>?_) (fun h=>?_)|refine cd rfl (fun h=>?_) (fun h=>?_)|refine cn rfl (fun h=>?_) (fun h=>?_)|refine cc rfl (fun h=>?_) (fun h=>?_)
    |(apply hK;clear hK K)|(refine AWh (by assumption) ?_))
      all_goals first
        | exact retq1 (conv_eq (by simp; exact hne (by first | exact h | (simp at h; intro he; simp [he] at h))) rfl)
        | (refine ⟨i + 1, ⟨by omega, hsucc (by first | exact h | (simp at h; simp [h]))⟩, by omega, ?_⟩; apply Weak.mk' <;> simp [vl])
    · have hie : i = a.length := by omega
      subst hie
      have he : a = b := take_end hi.2 hab
      repeat' (first
    |refine AW_seq_k fun K hK=>?_|refine Step.by1 ?_|refine SBlock_exit_ne (by decide) ?_
    |((first|refine AW_region_AO ?_);simp [vl, hlt])
    |(refine Split.by2 (fun h=>?_) (fun h=>?_)<;>(simp [h, vl, hlt]))
    |refine ct rfl ?_|refine cf rfl ?_|refine cnd rfl (fun h=>?_) (fun h=>?_)|refine cd rfl (fun h=>?_) (fun h=>?_)|refine cn rfl (fun h=>?_) (fun h=>?_)|refine cc rfl (fun h=>?_) (fun h=>?_)
    |(apply hK;clear hK K)|(refine AWh (by assumption) ?_))
      exact retq1 (conv_eq (by simp [he]) rfl)
  · have hab' : ¬ (a.length : Int) = b.length := by omega
    have he : ¬ a = b := fun h => hab (by rw [h])
    repeat' (first
    |refine AW_seq_k fun K hK=>?_|refine Step.by1 ?_|refine SBlock_exit_ne (by decide) ?_
    |((first|refine AW_region_AO ?_);simp [vl, hab'])
    |(refine Split.by2 (fun h=>?_) (fun h=>?_)<;>(simp [h, vl, hab']))
    |refine ct rfl ?_|refine cf rfl ?_|refine cnd rfl (fun h=>?_) (fun h=>?_)|refine cd rfl (fun h=>?_) (fun h=>?_)|refine cn rfl (fun h=>?_) (fun h=>?_)|refine cc rfl (fun h=>?_) (fun h=>?_)
    |(apply hK;clear hK K)|(refine AWh (by assumption) ?_))
    exact retq1 (conv_eq (by simp [he]) rfl)

def markAts (j : Nat) : List V := [.int .i64 (-700 - (j : Int)), .int .i64 0]
set_option maxHeartbeats 2000000 in
theorem c_HandAts (l : List AtD) (hl : l.length ≤ 1099511627776) : PC 74 [vl AtD.cells l] (handV AtD.cells markAts l) := by
  have w9 : IntKind.i64.wrap ((l.length : Int) + 9) = (l.length : Int) + 9 := wrap_i64 (by omega) (by omega)
  have t9 : ((l.length : Int) + 9).toNat = l.length + 9 := by omega
  have n9 : ((l.length : Int) + 9) * 16 ≤ 281474976710656 := by omega
  have hz : (0 : Int) ≤ (l.length : Int) + 9 := by omega
  refine PCall_body Tryz.func74 rfl (by decide) Tryz.ntmps74 (by simp) Tryz.results74 ?_
  repeat' (first
    |refine AW_seq_k fun K hK=>?_|refine Step.by1 ?_|refine SBlock_exit_ne (by decide) ?_
    |((first|refine AW_region_AO ?_);simp [vl, w9, n9, hz, t9])
    |(refine Split.by2 (fun h=>?_) (fun h=>?_)<;>(simp [h, vl, w9, n9, hz, t9]))
    |refine ct rfl ?_|refine cf rfl ?_|refine cnd rfl (fun h=>?_) (fun h=>?_)|refine cd rfl (fun h=>?_) (fun h=>?_)|refine cn rfl (fun h=>?_) (fun h=>?_)|refine cc rfl (fun h=>?_) (fun h=>?_)
    |(apply hK;clear hK K)|(refine AWh (by assumption) ?_))
  refine AW_loopL [0, 3] (fun i : Nat => [(4, .int .i64 i)]) (fun i => [.row 171 0 0 true (fillR (handF AtD.cells markAts l) [.int .i64 0, .int .i64 0] (l.length + 9) i)]) (fun i => i ≤ l.length) (fun i => l.length - i) 0 (Nat.zero_le _) (by apply Weak.mk' <;> simp [vl, fillR, t9]) (fun _ _ => rfl) ?_
  intro i hi
  by_cases hlt : i < l.length
  · have hlt9 : i < l.length + 9 := by omega
    have hlt8 : (i : Int) < l.length + 9 := by omega
    have hset := fillR_set (f := handF AtD.cells markAts l) (z := [.int .i64 0, .int .i64 0]) hlt9
    have hlen := fillR_len (f := handF AtD.cells markAts l) (z := [.int .i64 0, .int .i64 0]) (n := l.length + 9) (i := i) (by omega)
    have hget := fillR_get (f := handF AtD.cells markAts l) (z := [.int .i64 0, .int .i64 0]) hlt9
    rw [handF_in hlt] at hset
    obtain ⟨x, hx⟩ : ∃ x, l[i] = x := ⟨_, rfl⟩
    rw [hx] at hset
    generalize fillR (handF AtD.cells markAts l) [.int .i64 0, .int .i64 0] (l.length + 9) i = row at *
    have hrl : i < row.length := by omega
    have hri : row[i] = [.int .i64 0, .int .i64 0] := by rw [List.getElem?_eq_getElem hrl] at hget; exact Option.some.inj hget
    repeat' (first
    |refine AW_seq_k fun K hK=>?_|refine Step.by1 ?_|refine SBlock_exit_ne (by decide) ?_
    |((first|refine AW_region_AO ?_);simp [vl, hlt, hlt9, hlt8, t9, hrl, hri, hx, hlen, AtD.cells, wrap_i64];try (simp (disch:=omega) only [wrap_i64];try simp [vl, hlt, hlt9, hlt8, t9, hrl, hri, hx, hlen, AtD.cells, wrap_i64]))
    |(refine Split.by2 (fun h=>?_) (fun h=>?_)<;>(simp [h, vl, hlt, hlt9, hlt8, t9, hrl, hri, hx, hlen, AtD.cells, wrap_i64];try (simp (disch:=omega) only [wrap_i64];try simp [vl, hlt, hlt9, hlt8, t9, hrl, hri, hx, hlen, AtD.cells, wrap_i64])))
    |refine ct rfl ?_|refine cf rfl ?_|refine cnd rfl (fun h=>?_) (fun h=>?_)|refine cd rfl (fun h=>?_) (fun h=>?_)|refine cn rfl (fun h=>?_) (fun h=>?_)|refine cc rfl (fun h=>?_) (fun h=>?_)
    |(apply hK;clear hK K)|(refine AWh (by assumption) ?_))
    refine ⟨i + 1, by omega, by omega, ?_⟩
    apply Weak.mk' <;> simp [vl]
    simpa [AtD.cells] using hset
  · have hie : i = l.length := by omega
    subst hie
    repeat' (first
    |refine AW_seq_k fun K hK=>?_|refine Step.by1 ?_|refine SBlock_exit_ne (by decide) ?_
    |((first|refine AW_region_AO ?_);simp [vl, hlt])
    |(refine Split.by2 (fun h=>?_) (fun h=>?_)<;>(simp [h, vl, hlt]))
    |refine ct rfl ?_|refine cf rfl ?_|refine cnd rfl (fun h=>?_) (fun h=>?_)|refine cd rfl (fun h=>?_) (fun h=>?_)|refine cn rfl (fun h=>?_) (fun h=>?_)|refine cc rfl (fun h=>?_) (fun h=>?_)
    |(apply hK;clear hK K)|(refine AWh (by assumption) ?_))
    refine AW_loopL [0, 3] (fun j : Nat => [(5, .int .i64 (l.length + j : Nat))]) (fun j => [.row 171 0 0 true (fillR (handF AtD.cells markAts l) [.int .i64 0, .int .i64 0] (l.length + 9) (l.length + j))]) (fun j => j ≤ 9) (fun j => 9 - j) 0 (Nat.zero_le _) (by apply Weak.mk' <;> simp [vl]) (fun _ _ => rfl) ?_
    intro j hj
    by_cases hjt : j < 9
    · have hlt9 : l.length + j < l.length + 9 := by omega
      have hset := fillR_set (f := handF AtD.cells markAts l) (z := [.int .i64 0, .int .i64 0]) hlt9
      have hlen := fillR_len (f := handF AtD.cells markAts l) (z := [.int .i64 0, .int .i64 0]) (n := l.length + 9) (i := l.length + j) (by omega)
      have hget := fillR_get (f := handF AtD.cells markAts l) (z := [.int .i64 0, .int .i64 0]) hlt9
      rw [handF_out] at hset
      rw [show l.length + j + 1 = l.length + (j + 1) by omega] at hset
      generalize fillR (handF AtD.cells markAts l) [.int .i64 0, .int .i64 0] (l.length + 9) (l.length + j) = row at *
      have hrl : l.length + j < row.length := by omega
      have hri : row[l.length + j] = [.int .i64 0, .int .i64 0] := by rw [List.getElem?_eq_getElem hrl] at hget; exact Option.some.inj hget
      have hle : (l.length : Int) + j ≤ 1099511627785 := by omega
      have w1 : IntKind.i64.wrap (-700 - ((l.length : Int) + j)) = -700 - ((l.length : Int) + j) := wrap_i64 (by omega) (by omega)
      have w2 : IntKind.i64.wrap (-700 - ((l.length : Int) + j) + l.length) = -700 - (j : Int) := by rw [wrap_i64 (by omega) (by omega)]; omega
      have w3 : IntKind.i64.wrap ((l.length : Int) + j + 1) = (l.length : Int) + j + 1 := wrap_i64 (by omega) (by omega)
      have hjn : ((l.length : Int) + j).toNat = l.length + j := by omega
      have hj0 : (0 : Int) ≤ (l.length : Int) + j := by omega
      have hj1 : (l.length : Int) + j < (l.length : Int) + 9 := by omega
      have hjt' : (j : Int) < 9 := by omega
      repeat' (first
    |refine AW_seq_k fun K hK=>?_|refine Step.by1 ?_|refine SBlock_exit_ne (by decide) ?_
    |((first|refine AW_region_AO ?_);simp [vl, hlt9, hrl, hri, hlen, w1, w2, w3, hjn, hj0, hj1, hjt', hjt, t9])
    |(refine Split.by2 (fun h=>?_) (fun h=>?_)<;>(simp [h, vl, hlt9, hrl, hri, hlen, w1, w2, w3, hjn, hj0, hj1, hjt', hjt, t9]))
    |refine ct rfl ?_|refine cf rfl ?_|refine cnd rfl (fun h=>?_) (fun h=>?_)|refine cd rfl (fun h=>?_) (fun h=>?_)|refine cn rfl (fun h=>?_) (fun h=>?_)|refine cc rfl (fun h=>?_) (fun h=>?_)
    |(apply hK;clear hK K)|(refine AWh (by assumption) ?_))
      refine ⟨j + 1, by omega, by omega, ?_⟩
      apply Weak.mk' <;> simp [vl]
      · omega
      · simpa [markAts] using hset
    · have hje : j = 9 := by omega
      subst hje
      have hfin : fillR (handF AtD.cells markAts l) [.int .i64 0, .int .i64 0] (l.length + 9) (l.length + 9) = l.map AtD.cells ++ (List.range 9).map markAts := by unfold fillR; rw [range_hand]; simp
      rw [hfin]
      repeat' (first
    |refine AW_seq_k fun K hK=>?_|refine Step.by1 ?_|refine SBlock_exit_ne (by decide) ?_
    |((first|refine AW_region_AO ?_);simp [vl, t9])
    |(refine Split.by2 (fun h=>?_) (fun h=>?_)<;>(simp [h, vl, t9]))
    |refine ct rfl ?_|refine cf rfl ?_|refine cnd rfl (fun h=>?_) (fun h=>?_)|refine cd rfl (fun h=>?_) (fun h=>?_)|refine cn rfl (fun h=>?_) (fun h=>?_)|refine cc rfl (fun h=>?_) (fun h=>?_)
    |(apply hK;clear hK K)|(refine AWh (by assumption) ?_))
      exact retq1 (.inl ⟨1, by simp [handV], rfl⟩)

theorem trims_AtD (x : AtD) : V.trims (AtD.cells x) = AtD.cells x := trims_map _ (by simp [AtD.cells, V.trim])
theorem trim_handAts (l : List AtD) : (handV AtD.cells markAts l).trim = vl AtD.cells l := trim_pad _ fun x _ => trims_AtD x
theorem trim_vlAts (l : List AtD) : (vl AtD.cells l).trim = vl AtD.cells l := trim_vl fun x _ => trims_AtD x
set_option maxHeartbeats 2000000 in
theorem c_KeptAts (l : List AtD) (hl : l.length ≤ 1099511627776) : PC 78 [handV AtD.cells markAts l, vl AtD.cells l] (.bool true) := by
  have hs := (c_SameAts l l hl).trim (args := [handV AtD.cells markAts l, vl AtD.cells l]) (by simp only [V.trims, trim_handAts, trim_vlAts])
  have w9 : IntKind.i64.wrap ((l.length : Int) + 9) = (l.length : Int) + 9 := wrap_i64 (by omega) (by omega)
  have t9 : ((l.length : Int) + 9).toNat = l.length + 9 := by omega
  have hz : (0 : Int) ≤ (l.length : Int) + 9 := by omega
  obtain ⟨row, hrow⟩ : ∃ row, l.map AtD.cells ++ (List.range 9).map markAts = row := ⟨_, rfl⟩
  have hlen : row.length = l.length + 9 := by rw [← hrow]; simp
  have hall : ∀ x ∈ row, x.length = 2 := fun x hx => by
    rw [← hrow] at hx
    rcases List.mem_append.1 hx with h | h
    · obtain ⟨y, _, rfl⟩ := List.mem_map.1 h; rfl
    · obtain ⟨y, _, rfl⟩ := List.mem_map.1 h; rfl
  have hget : ∀ j, j < 9 → row[l.length + j]? = some (markAts j) := fun j hj => by
    rw [← hrow, List.getElem?_append_right (by simp), List.length_map, Nat.add_sub_cancel_left, List.getElem?_map, List.getElem?_range hj]; rfl
  simp only [handV, hrow, vl, decide_true] at hs
  unfold handV
  rw [hrow]
  refine PCall_body Tryz.func78 rfl (by decide) Tryz.ntmps78 (by simp) Tryz.results78 ?_
  repeat' (first
    |refine AW_seq_k fun K hK=>?_|refine Step.by1 ?_|refine SBlock_exit_ne (by decide) ?_
    |((first|refine AW_region_AO ?_|refine AS_call1 (f:=156) rfl rfl (hs) rfl rfl rfl ?_);simp [vl, w9, t9, hz, hlen])
    |(refine Split.by2 (fun h=>?_) (fun h=>?_)<;>(simp [h, vl, w9, t9, hz, hlen]))
    |refine ct rfl ?_|refine cf rfl ?_|refine cnd rfl (fun h=>?_) (fun h=>?_)|refine cd rfl (fun h=>?_) (fun h=>?_)|refine cn rfl (fun h=>?_) (fun h=>?_)|refine cc rfl (fun h=>?_) (fun h=>?_)
    |refine And.intro hall ?_
    |(apply hK;clear hK K)|(refine AWh (by assumption) ?_))
  refine AW_loopL [1, 5] (fun j : Nat => [(6, .int .i64 (l.length + j : Nat))]) (fun _ => []) (fun j => j ≤ 9) (fun j => 9 - j) 0 (Nat.zero_le _) (by apply Weak.mk' <;> simp [vl]) (fun _ _ => rfl) ?_
  intro j hj
  by_cases hjt : j < 9
  · have hm := hget j hjt
    have hrl : l.length + j < row.length := by omega
    have hri : row[l.length + j] = markAts j := by rw [List.getElem?_eq_getElem hrl] at hm; exact Option.some.inj hm
    have w1 : IntKind.i64.wrap (-700 - ((l.length : Int) + j)) = -700 - ((l.length : Int) + j) := wrap_i64 (by omega) (by omega)
    have w2 : IntKind.i64.wrap (-700 - ((l.length : Int) + j) + l.length) = -700 - (j : Int) := by rw [wrap_i64 (by omega) (by omega)]; omega
    have w3 : IntKind.i64.wrap ((l.length : Int) + j + 1) = (l.length : Int) + j + 1 := wrap_i64 (by omega) (by omega)
    have hjn : ((l.length : Int) + j).toNat = l.length + j := by omega
    have hj0 : (0 : Int) ≤ (l.length : Int) + j := by omega
    have hj1 : (l.length : Int) + j < (l.length : Int) + 9 := by omega
    have hjt' : (j : Int) < 9 := by omega
    repeat' (first
    |refine AW_seq_k fun K hK=>?_|refine Step.by1 ?_|refine SBlock_exit_ne (by decide) ?_
    |((first|refine AW_region_AO ?_);simp [vl, hrl, hri, hlen, w1, w2, w3, hjn, hj0, hj1, hjt', hjt, t9, markAts])
    |(refine Split.by2 (fun h=>?_) (fun h=>?_)<;>(simp [h, vl, hrl, hri, hlen, w1, w2, w3, hjn, hj0, hj1, hjt', hjt, t9, markAts]))
    |refine ct rfl ?_|refine cf rfl ?_|refine cnd rfl (fun h=>?_) (fun h=>?_)|refine cd rfl (fun h=>?_) (fun h=>?_)|refine cn rfl (fun h=>?_) (fun h=>?_)|refine cc rfl (fun h=>?_) (fun h=>?_)
    |(apply hK;clear hK K)|(refine AWh (by assumption) ?_))
    refine ⟨j + 1, by omega, by omega, ?_⟩
    apply Weak.mk' <;> simp [vl]
    omega
  · have hje : j = 9 := by omega
    subst hje
    repeat' (first
    |refine AW_seq_k fun K hK=>?_|refine Step.by1 ?_|refine SBlock_exit_ne (by decide) ?_
    |((first|refine AW_region_AO ?_);simp [vl, t9])
    |(refine Split.by2 (fun h=>?_) (fun h=>?_)<;>(simp [h, vl, t9]))
    |refine ct rfl ?_|refine cf rfl ?_|refine cnd rfl (fun h=>?_) (fun h=>?_)|refine cd rfl (fun h=>?_) (fun h=>?_)|refine cn rfl (fun h=>?_) (fun h=>?_)|refine cc rfl (fun h=>?_) (fun h=>?_)
    |(apply hK;clear hK K)|(refine AWh (by assumption) ?_))
    exact retq1 (conv_eq rfl rfl)

end Go.Proofs.YtgmlimipejcpgaaGreatDoor
end

section
set_option linter.unusedVariables false
set_option linter.unusedSimpArgs false
namespace Go.Proofs.YtgmlimipejcpgaaGreatDoor
open Go Go.AM Fx

def textB : Nat → ByteArray
  | 0 => ⟨#[109, 97, 114, 107, 32, 121, 97, 98]⟩
  | 1 => ⟨#[109, 97, 114, 107, 32, 122, 97, 98]⟩
  | 2 => ⟨#[109, 97, 114, 107, 32, 97, 98, 98]⟩
  | 3 => ⟨#[109, 97, 114, 107, 32, 98, 98, 98]⟩
  | 4 => ⟨#[109, 97, 114, 107, 32, 99, 98, 98]⟩
  | 5 => ⟨#[109, 97, 114, 107, 32, 100, 98, 98]⟩
  | 6 => ⟨#[109, 97, 114, 107, 32, 101, 98, 98]⟩
  | 7 => ⟨#[109, 97, 114, 107, 32, 102, 98, 98]⟩
  | 8 => ⟨#[109, 97, 114, 107, 32, 103, 98, 98]⟩
  | _ => ⟨#[]⟩
set_option maxHeartbeats 2000000 in
theorem c_text : ∀ j : Nat, j < 9 → PC 127 [.int .i64 (700 + (j : Int))] (.str (textB j))
  | 0, _ => by
    refine PCall_body Tryz.func127 rfl (by decide) Tryz.ntmps127 (by simp) Tryz.results127 ?_
    repeat' (first
    |refine AW_seq_k fun K hK=>?_|refine Step.by1 ?_|refine SBlock_exit_ne (by decide) ?_
    |((first|refine AW_region_AO ?_);simp [wrap_i64, wrap_u8, textB];try (simp (disch:=omega) only [wrap_i64, wrap_u8];try simp [wrap_i64, wrap_u8, textB]))
    |(refine Split.by2 (fun h=>?_) (fun h=>?_)<;>(simp [h, wrap_i64, wrap_u8, textB];try (simp (disch:=omega) only [wrap_i64, wrap_u8];try simp [wrap_i64, wrap_u8, textB])))
    |refine ct rfl ?_|refine cf rfl ?_|refine cnd rfl (fun h=>?_) (fun h=>?_)|refine cd rfl (fun h=>?_) (fun h=>?_)|refine cn rfl (fun h=>?_) (fun h=>?_)|refine cc rfl (fun h=>?_) (fun h=>?_)
    |refine And.intro (by decide) ?_
    |(apply hK;clear hK K)|(refine AWh (by assumption) ?_))
    exact retq1 (conv_eq (by first | rfl | decide) rfl)
  | 1, _ => by
    refine PCall_body Tryz.func127 rfl (by decide) Tryz.ntmps127 (by simp) Tryz.results127 ?_
    repeat' (first
    |refine AW_seq_k fun K hK=>?_|refine Step.by1 ?_|refine SBlock_exit_ne (by decide) ?_
    |((first|refine AW_region_AO ?_);simp [wrap_i64, wrap_u8, textB];try (simp (disch:=omega) only [wrap_i64, wrap_u8];try simp [wrap_i64, wrap_u8, textB]))
    |(refine Split.by2 (fun h=>?_) (fun h=>?_)<;>(simp [h, wrap_i64, wrap_u8, textB];try (simp (disch:=omega) only [wrap_i64, wrap_u8];try simp [wrap_i64, wrap_u8, textB])))
    |refine ct rfl ?_|refine cf rfl ?_|refine cnd rfl (fun h=>?_) (fun h=>?_)|refine cd rfl (fun h=>?_) (fun h=>?_)|refine cn rfl (fun h=>?_) (fun h=>?_)|refine cc rfl (fun h=>?_) (fun h=>?_)
    |refine And.intro (by decide) ?_
    |(apply hK;clear hK K)|(refine AWh (by assumption) ?_))
    exact retq1 (conv_eq (by first | rfl | decide) rfl)
  | 2, _ => by
    refine PCall_body Tryz.func127 rfl (by decide) Tryz.ntmps127 (by simp) Tryz.results127 ?_
    repeat' (first
    |refine AW_seq_k fun K hK=>?_|refine Step.by1 ?_|refine SBlock_exit_ne (by decide) ?_
    |((first|refine AW_region_AO ?_);simp [wrap_i64, wrap_u8, textB];try (simp (disch:=omega) only [wrap_i64, wrap_u8];try simp [wrap_i64, wrap_u8, textB]))
    |(refine Split.by2 (fun h=>?_) (fun h=>?_)<;>(simp [h, wrap_i64, wrap_u8, textB];try (simp (disch:=omega) only [wrap_i64, wrap_u8];try simp [wrap_i64, wrap_u8, textB])))
    |refine ct rfl ?_|refine cf rfl ?_|refine cnd rfl (fun h=>?_) (fun h=>?_)|refine cd rfl (fun h=>?_) (fun h=>?_)|refine cn rfl (fun h=>?_) (fun h=>?_)|refine cc rfl (fun h=>?_) (fun h=>?_)
    |refine And.intro (by decide) ?_
    |(apply hK;clear hK K)|(refine AWh (by assumption) ?_))
    exact retq1 (conv_eq (by first | rfl | decide) rfl)
  | 3, _ => by
    refine PCall_body Tryz.func127 rfl (by decide) Tryz.ntmps127 (by simp) Tryz.results127 ?_
    repeat' (first
    |refine AW_seq_k fun K hK=>?_|refine Step.by1 ?_|refine SBlock_exit_ne (by decide) ?_
    |((first|refine AW_region_AO ?_);simp [wrap_i64, wrap_u8, textB];try (simp (disch:=omega) only [wrap_i64, wrap_u8];try simp [wrap_i64, wrap_u8, textB]))
    |(refine Split.by2 (fun h=>?_) (fun h=>?_)<;>(simp [h, wrap_i64, wrap_u8, textB];try (simp (disch:=omega) only [wrap_i64, wrap_u8];try simp [wrap_i64, wrap_u8, textB])))
    |refine ct rfl ?_|refine cf rfl ?_|refine cnd rfl (fun h=>?_) (fun h=>?_)|refine cd rfl (fun h=>?_) (fun h=>?_)|refine cn rfl (fun h=>?_) (fun h=>?_)|refine cc rfl (fun h=>?_) (fun h=>?_)
    |refine And.intro (by decide) ?_
    |(apply hK;clear hK K)|(refine AWh (by assumption) ?_))
    exact retq1 (conv_eq (by first | rfl | decide) rfl)
  | 4, _ => by
    refine PCall_body Tryz.func127 rfl (by decide) Tryz.ntmps127 (by simp) Tryz.results127 ?_
    repeat' (first
    |refine AW_seq_k fun K hK=>?_|refine Step.by1 ?_|refine SBlock_exit_ne (by decide) ?_
    |((first|refine AW_region_AO ?_);simp [wrap_i64, wrap_u8, textB];try (simp (disch:=omega) only [wrap_i64, wrap_u8];try simp [wrap_i64, wrap_u8, textB]))
    |(refine Split.by2 (fun h=>?_) (fun h=>?_)<;>(simp [h, wrap_i64, wrap_u8, textB];try (simp (disch:=omega) only [wrap_i64, wrap_u8];try simp [wrap_i64, wrap_u8, textB])))
    |refine ct rfl ?_|refine cf rfl ?_|refine cnd rfl (fun h=>?_) (fun h=>?_)|refine cd rfl (fun h=>?_) (fun h=>?_)|refine cn rfl (fun h=>?_) (fun h=>?_)|refine cc rfl (fun h=>?_) (fun h=>?_)
    |refine And.intro (by decide) ?_
    |(apply hK;clear hK K)|(refine AWh (by assumption) ?_))
    exact retq1 (conv_eq (by first | rfl | decide) rfl)
  | 5, _ => by
    refine PCall_body Tryz.func127 rfl (by decide) Tryz.ntmps127 (by simp) Tryz.results127 ?_
    repeat' (first
    |refine AW_seq_k fun K hK=>?_|refine Step.by1 ?_|refine SBlock_exit_ne (by decide) ?_
    |((first|refine AW_region_AO ?_);simp [wrap_i64, wrap_u8, textB];try (simp (disch:=omega) only [wrap_i64, wrap_u8];try simp [wrap_i64, wrap_u8, textB]))
    |(refine Split.by2 (fun h=>?_) (fun h=>?_)<;>(simp [h, wrap_i64, wrap_u8, textB];try (simp (disch:=omega) only [wrap_i64, wrap_u8];try simp [wrap_i64, wrap_u8, textB])))
    |refine ct rfl ?_|refine cf rfl ?_|refine cnd rfl (fun h=>?_) (fun h=>?_)|refine cd rfl (fun h=>?_) (fun h=>?_)|refine cn rfl (fun h=>?_) (fun h=>?_)|refine cc rfl (fun h=>?_) (fun h=>?_)
    |refine And.intro (by decide) ?_
    |(apply hK;clear hK K)|(refine AWh (by assumption) ?_))
    exact retq1 (conv_eq (by first | rfl | decide) rfl)
  | 6, _ => by
    refine PCall_body Tryz.func127 rfl (by decide) Tryz.ntmps127 (by simp) Tryz.results127 ?_
    repeat' (first
    |refine AW_seq_k fun K hK=>?_|refine Step.by1 ?_|refine SBlock_exit_ne (by decide) ?_
    |((first|refine AW_region_AO ?_);simp [wrap_i64, wrap_u8, textB];try (simp (disch:=omega) only [wrap_i64, wrap_u8];try simp [wrap_i64, wrap_u8, textB]))
    |(refine Split.by2 (fun h=>?_) (fun h=>?_)<;>(simp [h, wrap_i64, wrap_u8, textB];try (simp (disch:=omega) only [wrap_i64, wrap_u8];try simp [wrap_i64, wrap_u8, textB])))
    |refine ct rfl ?_|refine cf rfl ?_|refine cnd rfl (fun h=>?_) (fun h=>?_)|refine cd rfl (fun h=>?_) (fun h=>?_)|refine cn rfl (fun h=>?_) (fun h=>?_)|refine cc rfl (fun h=>?_) (fun h=>?_)
    |refine And.intro (by decide) ?_
    |(apply hK;clear hK K)|(refine AWh (by assumption) ?_))
    exact retq1 (conv_eq (by first | rfl | decide) rfl)
  | 7, _ => by
    refine PCall_body Tryz.func127 rfl (by decide) Tryz.ntmps127 (by simp) Tryz.results127 ?_
    repeat' (first
    |refine AW_seq_k fun K hK=>?_|refine Step.by1 ?_|refine SBlock_exit_ne (by decide) ?_
    |((first|refine AW_region_AO ?_);simp [wrap_i64, wrap_u8, textB];try (simp (disch:=omega) only [wrap_i64, wrap_u8];try simp [wrap_i64, wrap_u8, textB]))
    |(refine Split.by2 (fun h=>?_) (fun h=>?_)<;>(simp [h, wrap_i64, wrap_u8, textB];try (simp (disch:=omega) only [wrap_i64, wrap_u8];try simp [wrap_i64, wrap_u8, textB])))
    |refine ct rfl ?_|refine cf rfl ?_|refine cnd rfl (fun h=>?_) (fun h=>?_)|refine cd rfl (fun h=>?_) (fun h=>?_)|refine cn rfl (fun h=>?_) (fun h=>?_)|refine cc rfl (fun h=>?_) (fun h=>?_)
    |refine And.intro (by decide) ?_
    |(apply hK;clear hK K)|(refine AWh (by assumption) ?_))
    exact retq1 (conv_eq (by first | rfl | decide) rfl)
  | 8, _ => by
    refine PCall_body Tryz.func127 rfl (by decide) Tryz.ntmps127 (by simp) Tryz.results127 ?_
    repeat' (first
    |refine AW_seq_k fun K hK=>?_|refine Step.by1 ?_|refine SBlock_exit_ne (by decide) ?_
    |((first|refine AW_region_AO ?_);simp [wrap_i64, wrap_u8, textB];try (simp (disch:=omega) only [wrap_i64, wrap_u8];try simp [wrap_i64, wrap_u8, textB]))
    |(refine Split.by2 (fun h=>?_) (fun h=>?_)<;>(simp [h, wrap_i64, wrap_u8, textB];try (simp (disch:=omega) only [wrap_i64, wrap_u8];try simp [wrap_i64, wrap_u8, textB])))
    |refine ct rfl ?_|refine cf rfl ?_|refine cnd rfl (fun h=>?_) (fun h=>?_)|refine cd rfl (fun h=>?_) (fun h=>?_)|refine cn rfl (fun h=>?_) (fun h=>?_)|refine cc rfl (fun h=>?_) (fun h=>?_)
    |refine And.intro (by decide) ?_
    |(apply hK;clear hK K)|(refine AWh (by assumption) ?_))
    exact retq1 (conv_eq (by first | rfl | decide) rfl)
  | j + 9, h => absurd h (by omega)

end Go.Proofs.YtgmlimipejcpgaaGreatDoor
end

section
set_option linter.unusedVariables false
set_option linter.unusedSimpArgs false
namespace Go.Proofs.YtgmlimipejcpgaaGreatDoor
open Go Go.AM Fx

theorem Texts_eq (x y : ByteArray) : x = y ↔ x = y := Iff.rfl
set_option maxHeartbeats 2000000 in
theorem c_SameTexts (a b : List ByteArray) (ha : a.length ≤ 1099511627776) : PC 141 [vl (fun s : ByteArray => [V.str s]) a, vl (fun s : ByteArray => [V.str s]) b] (.bool (decide (a = b))) := by
  refine PCall_body Tryz.func141 rfl (by decide) Tryz.ntmps141 (by simp) Tryz.results141 ?_
  by_cases hab : a.length = b.length
  · have hab' : (a.length : Int) = b.length := by omega
    repeat' (first
    |refine AW_seq_k fun K hK=>?_|refine Step.by1 ?_|refine SBlock_exit_ne (by decide) ?_
    |((first|refine AW_region_AO ?_);simp [vl, hab'])
    |(refine Split.by2 (fun h=>?_) (fun h=>?_)<;>(simp [h, vl, hab']))
    |refine ct rfl ?_|refine cf rfl ?_|refine cnd rfl (fun h=>?_) (fun h=>?_)|refine cd rfl (fun h=>?_) (fun h=>?_)|refine cn rfl (fun h=>?_) (fun h=>?_)|refine cc rfl (fun h=>?_) (fun h=>?_)
    |(apply hK;clear hK K)|(refine AWh (by assumption) ?_))
    refine AW_loopL [0, 1] (fun i : Nat => [(5, .int .i64 i)]) (fun _ => []) (fun i => i ≤ a.length ∧ a.take i = b.take i) (fun i => a.length - i) 0 ⟨Nat.zero_le _, rfl⟩ (by apply Weak.mk' <;> simp) (fun _ _ => rfl) ?_
    intro i hi
    by_cases hlt : i < a.length
    · have hlb : i < b.length := by omega
      have hne : a[i] ≠ b[i] → a ≠ b := fun h e => h (by subst e; rfl)
      have hsucc := fun h => take_same hi.2 hlt hlb h
      obtain ⟨x, hx⟩ : ∃ x, a[i] = x := ⟨_, rfl⟩
      obtain ⟨y, hy⟩ : ∃ y, b[i] = y := ⟨_, rfl⟩
      rw [hx, hy] at hne hsucc
      rw [ne_eq, Texts_eq] at hne
      rw [Texts_eq] at hsucc
      repeat' (first
    |refine AW_seq_k fun K hK=>?_|refine Step.by1 ?_|refine SBlock_exit_ne (by decide) ?_
    |((first|refine AW_region_AO ?_|refine AW_region_APx (id:=6) 9 mixed (by decide) ?_);simp [vl, hlt, hlb, hx, hy, ceqs, wrap_i64];try (simp (disch:=omega) only [wrap_i64];try simp [vl, hlt, hlb, hx, hy, ceqs, wrap_i64]))
    |(refine Split.by2 (fun h=>?_) (fun h=>?_)<;>(simp [h, vl, hlt, hlb, hx, hy, ceqs, wrap_i64];try (simp (disch:=omega) only [wrap_i64];try simp [vl, hlt, hlb, hx, hy, ceqs, wrap_i64])))
    |refine ct rfl ?_|refine cf rfl ?_|refine cnd rfl (fun h=>?_) (fun h=>?_)|refine cd rfl (fun h=>?_) (fun h=>?_)|refine cn rfl (fun h=>?_) (fun h=>?_)|refine cc rfl (fun h=>?_) (fun h=>?_)
    |(apply hK;clear hK K)|(refine AWh (by assumption) ?_))
      all_goals first
        | exact retq1 (conv_eq (by simp; exact hne (by first | exact h | (simp at h; intro he; simp [he] at h))) rfl)
        | (refine ⟨i + 1, ⟨by omega, hsucc (by first | exact h | (simp at h; simp [h]))⟩, by omega, ?_⟩; apply Weak.mk' <;> simp [vl])
    · have hie : i = a.length := by omega
      subst hie
      have he : a = b := take_end hi.2 hab
      repeat' (first
    |refine AW_seq_k fun K hK=>?_|refine Step.by1 ?_|refine SBlock_exit_ne (by decide) ?_
    |((first|refine AW_region_AO ?_);simp [vl, hlt])
    |(refine Split.by2 (fun h=>?_) (fun h=>?_)<;>(simp [h, vl, hlt]))
    |refine ct rfl ?_|refine cf rfl ?_|refine cnd rfl (fun h=>?_) (fun h=>?_)|refine cd rfl (fun h=>?_) (fun h=>?_)|refine cn rfl (fun h=>?_) (fun h=>?_)|refine cc rfl (fun h=>?_) (fun h=>?_)
    |(apply hK;clear hK K)|(refine AWh (by assumption) ?_))
      exact retq1 (conv_eq (by simp [he]) rfl)
  · have hab' : ¬ (a.length : Int) = b.length := by omega
    have he : ¬ a = b := fun h => hab (by rw [h])
    repeat' (first
    |refine AW_seq_k fun K hK=>?_|refine Step.by1 ?_|refine SBlock_exit_ne (by decide) ?_
    |((first|refine AW_region_AO ?_);simp [vl, hab'])
    |(refine Split.by2 (fun h=>?_) (fun h=>?_)<;>(simp [h, vl, hab']))
    |refine ct rfl ?_|refine cf rfl ?_|refine cnd rfl (fun h=>?_) (fun h=>?_)|refine cd rfl (fun h=>?_) (fun h=>?_)|refine cn rfl (fun h=>?_) (fun h=>?_)|refine cc rfl (fun h=>?_) (fun h=>?_)
    |(apply hK;clear hK K)|(refine AWh (by assumption) ?_))
    exact retq1 (conv_eq (by simp [he]) rfl)

def markTexts (j : Nat) : List V := [.str (textB j)]
set_option maxHeartbeats 2000000 in
theorem c_HandTexts (l : List ByteArray) (hl : l.length ≤ 1099511627776) : PC 55 [vl (fun s : ByteArray => [V.str s]) l] (handV (fun s : ByteArray => [V.str s]) markTexts l) := by
  have w9 : IntKind.i64.wrap ((l.length : Int) + 9) = (l.length : Int) + 9 := wrap_i64 (by omega) (by omega)
  have t9 : ((l.length : Int) + 9).toNat = l.length + 9 := by omega
  have n9 : ((l.length : Int) + 9) * 16 ≤ 281474976710656 := by omega
  have hz : (0 : Int) ≤ (l.length : Int) + 9 := by omega
  refine PCall_body Tryz.func55 rfl (by decide) Tryz.ntmps55 (by simp) Tryz.results55 ?_
  repeat' (first
    |refine AW_seq_k fun K hK=>?_|refine Step.by1 ?_|refine SBlock_exit_ne (by decide) ?_
    |((first|refine AW_region_AO ?_);simp [vl, w9, n9, hz, t9])
    |(refine Split.by2 (fun h=>?_) (fun h=>?_)<;>(simp [h, vl, w9, n9, hz, t9]))
    |refine ct rfl ?_|refine cf rfl ?_|refine cnd rfl (fun h=>?_) (fun h=>?_)|refine cd rfl (fun h=>?_) (fun h=>?_)|refine cn rfl (fun h=>?_) (fun h=>?_)|refine cc rfl (fun h=>?_) (fun h=>?_)
    |(apply hK;clear hK K)|(refine AWh (by assumption) ?_))
  refine AW_loopL [0, 3] (fun i : Nat => [(4, .int .i64 i)]) (fun i => [.row 9 0 0 true (fillR (handF (fun s : ByteArray => [V.str s]) markTexts l) [.str ⟨#[]⟩] (l.length + 9) i)]) (fun i => i ≤ l.length) (fun i => l.length - i) 0 (Nat.zero_le _) (by apply Weak.mk' <;> simp [vl, fillR, t9]) (fun _ _ => rfl) ?_
  intro i hi
  by_cases hlt : i < l.length
  · have hlt9 : i < l.length + 9 := by omega
    have hlt8 : (i : Int) < l.length + 9 := by omega
    have hset := fillR_set (f := handF (fun s : ByteArray => [V.str s]) markTexts l) (z := [.str ⟨#[]⟩]) hlt9
    have hlen := fillR_len (f := handF (fun s : ByteArray => [V.str s]) markTexts l) (z := [.str ⟨#[]⟩]) (n := l.length + 9) (i := i) (by omega)
    have hget := fillR_get (f := handF (fun s : ByteArray => [V.str s]) markTexts l) (z := [.str ⟨#[]⟩]) hlt9
    rw [handF_in hlt] at hset
    obtain ⟨x, hx⟩ : ∃ x, l[i] = x := ⟨_, rfl⟩
    rw [hx] at hset
    generalize fillR (handF (fun s : ByteArray => [V.str s]) markTexts l) [.str ⟨#[]⟩] (l.length + 9) i = row at *
    have hrl : i < row.length := by omega
    have hri : row[i] = [.str ⟨#[]⟩] := by rw [List.getElem?_eq_getElem hrl] at hget; exact Option.some.inj hget
    repeat' (first
    |refine AW_seq_k fun K hK=>?_|refine Step.by1 ?_|refine SBlock_exit_ne (by decide) ?_
    |((first|refine AW_region_AO ?_);simp [vl, hlt, hlt9, hlt8, t9, hrl, hri, hx, hlen, ceqs, wrap_i64];try (simp (disch:=omega) only [wrap_i64];try simp [vl, hlt, hlt9, hlt8, t9, hrl, hri, hx, hlen, ceqs, wrap_i64]))
    |(refine Split.by2 (fun h=>?_) (fun h=>?_)<;>(simp [h, vl, hlt, hlt9, hlt8, t9, hrl, hri, hx, hlen, ceqs, wrap_i64];try (simp (disch:=omega) only [wrap_i64];try simp [vl, hlt, hlt9, hlt8, t9, hrl, hri, hx, hlen, ceqs, wrap_i64])))
    |refine ct rfl ?_|refine cf rfl ?_|refine cnd rfl (fun h=>?_) (fun h=>?_)|refine cd rfl (fun h=>?_) (fun h=>?_)|refine cn rfl (fun h=>?_) (fun h=>?_)|refine cc rfl (fun h=>?_) (fun h=>?_)
    |(apply hK;clear hK K)|(refine AWh (by assumption) ?_))
    refine ⟨i + 1, by omega, by omega, ?_⟩
    apply Weak.mk' <;> simp [vl]
    simpa [ceqs] using hset
  · have hie : i = l.length := by omega
    subst hie
    repeat' (first
    |refine AW_seq_k fun K hK=>?_|refine Step.by1 ?_|refine SBlock_exit_ne (by decide) ?_
    |((first|refine AW_region_AO ?_);simp [vl, hlt])
    |(refine Split.by2 (fun h=>?_) (fun h=>?_)<;>(simp [h, vl, hlt]))
    |refine ct rfl ?_|refine cf rfl ?_|refine cnd rfl (fun h=>?_) (fun h=>?_)|refine cd rfl (fun h=>?_) (fun h=>?_)|refine cn rfl (fun h=>?_) (fun h=>?_)|refine cc rfl (fun h=>?_) (fun h=>?_)
    |(apply hK;clear hK K)|(refine AWh (by assumption) ?_))
    refine AW_loopL [0, 3] (fun j : Nat => [(5, .int .i64 (l.length + j : Nat))]) (fun j => [.row 9 0 0 true (fillR (handF (fun s : ByteArray => [V.str s]) markTexts l) [.str ⟨#[]⟩] (l.length + 9) (l.length + j))]) (fun j => j ≤ 9) (fun j => 9 - j) 0 (Nat.zero_le _) (by apply Weak.mk' <;> simp [vl]) (fun _ _ => rfl) ?_
    intro j hj
    by_cases hjt : j < 9
    · have hlt9 : l.length + j < l.length + 9 := by omega
      have hset := fillR_set (f := handF (fun s : ByteArray => [V.str s]) markTexts l) (z := [.str ⟨#[]⟩]) hlt9
      have hlen := fillR_len (f := handF (fun s : ByteArray => [V.str s]) markTexts l) (z := [.str ⟨#[]⟩]) (n := l.length + 9) (i := l.length + j) (by omega)
      have hget := fillR_get (f := handF (fun s : ByteArray => [V.str s]) markTexts l) (z := [.str ⟨#[]⟩]) hlt9
      rw [handF_out] at hset
      rw [show l.length + j + 1 = l.length + (j + 1) by omega] at hset
      generalize fillR (handF (fun s : ByteArray => [V.str s]) markTexts l) [.str ⟨#[]⟩] (l.length + 9) (l.length + j) = row at *
      have hrl : l.length + j < row.length := by omega
      have hri : row[l.length + j] = [.str ⟨#[]⟩] := by rw [List.getElem?_eq_getElem hrl] at hget; exact Option.some.inj hget
      have hle : (l.length : Int) + j ≤ 1099511627785 := by omega
      have w1 : IntKind.i64.wrap (700 + ((l.length : Int) + j)) = 700 + ((l.length : Int) + j) := wrap_i64 (by omega) (by omega)
      have w2 : IntKind.i64.wrap (700 + ((l.length : Int) + j) - l.length) = 700 + (j : Int) := by rw [wrap_i64 (by omega) (by omega)]; omega
      have hct := c_text j hjt
      have w3 : IntKind.i64.wrap ((l.length : Int) + j + 1) = (l.length : Int) + j + 1 := wrap_i64 (by omega) (by omega)
      have hjn : ((l.length : Int) + j).toNat = l.length + j := by omega
      have hj0 : (0 : Int) ≤ (l.length : Int) + j := by omega
      have hj1 : (l.length : Int) + j < (l.length : Int) + 9 := by omega
      have hjt' : (j : Int) < 9 := by omega
      repeat' (first
    |refine AW_seq_k fun K hK=>?_|refine Step.by1 ?_|refine SBlock_exit_ne (by decide) ?_
    |((first|refine AW_region_AO ?_|refine AW_region_APx (id:=7) 11 mixed (by decide) ?_|refine AS_call1 (f:=127) rfl rfl (hct) rfl rfl rfl ?_|refine AP_call1 (f:=127) rfl rfl (hct) rfl rfl rfl ?_);simp [vl, hlt9, hrl, hri, hlen, w1, w2, w3, hjn, hj0, hj1, hjt', hjt, t9])
    |(refine Split.by2 (fun h=>?_) (fun h=>?_)<;>(simp [h, vl, hlt9, hrl, hri, hlen, w1, w2, w3, hjn, hj0, hj1, hjt', hjt, t9]))
    |refine ct rfl ?_|refine cf rfl ?_|refine cnd rfl (fun h=>?_) (fun h=>?_)|refine cd rfl (fun h=>?_) (fun h=>?_)|refine cn rfl (fun h=>?_) (fun h=>?_)|refine cc rfl (fun h=>?_) (fun h=>?_)
    |(apply hK;clear hK K)|(refine AWh (by assumption) ?_))
      refine ⟨j + 1, by omega, by omega, ?_⟩
      apply Weak.mk' <;> simp [vl]
      · omega
      · simpa [markTexts] using hset
    · have hje : j = 9 := by omega
      subst hje
      have hfin : fillR (handF (fun s : ByteArray => [V.str s]) markTexts l) [.str ⟨#[]⟩] (l.length + 9) (l.length + 9) = l.map (fun s : ByteArray => [V.str s]) ++ (List.range 9).map markTexts := by unfold fillR; rw [range_hand]; simp
      rw [hfin]
      repeat' (first
    |refine AW_seq_k fun K hK=>?_|refine Step.by1 ?_|refine SBlock_exit_ne (by decide) ?_
    |((first|refine AW_region_AO ?_);simp [vl, t9])
    |(refine Split.by2 (fun h=>?_) (fun h=>?_)<;>(simp [h, vl, t9]))
    |refine ct rfl ?_|refine cf rfl ?_|refine cnd rfl (fun h=>?_) (fun h=>?_)|refine cd rfl (fun h=>?_) (fun h=>?_)|refine cn rfl (fun h=>?_) (fun h=>?_)|refine cc rfl (fun h=>?_) (fun h=>?_)
    |(apply hK;clear hK K)|(refine AWh (by assumption) ?_))
      exact retq1 (.inl ⟨1, by simp [handV], rfl⟩)

theorem trims_Texts (x : ByteArray) : V.trims ((fun s : ByteArray => [V.str s]) x) = (fun s : ByteArray => [V.str s]) x := trims_map _ (by simp [ceqs, V.trim])
theorem trim_handTexts (l : List ByteArray) : (handV (fun s : ByteArray => [V.str s]) markTexts l).trim = vl (fun s : ByteArray => [V.str s]) l := trim_pad _ fun x _ => trims_Texts x
theorem trim_vlTexts (l : List ByteArray) : (vl (fun s : ByteArray => [V.str s]) l).trim = vl (fun s : ByteArray => [V.str s]) l := trim_vl fun x _ => trims_Texts x
set_option maxHeartbeats 2000000 in
theorem c_KeptTexts (l : List ByteArray) (hl : l.length ≤ 1099511627776) : PC 71 [handV (fun s : ByteArray => [V.str s]) markTexts l, vl (fun s : ByteArray => [V.str s]) l] (.bool true) := by
  have hs := (c_SameTexts l l hl).trim (args := [handV (fun s : ByteArray => [V.str s]) markTexts l, vl (fun s : ByteArray => [V.str s]) l]) (by simp only [V.trims, trim_handTexts, trim_vlTexts])
  have w9 : IntKind.i64.wrap ((l.length : Int) + 9) = (l.length : Int) + 9 := wrap_i64 (by omega) (by omega)
  have t9 : ((l.length : Int) + 9).toNat = l.length + 9 := by omega
  have hz : (0 : Int) ≤ (l.length : Int) + 9 := by omega
  obtain ⟨row, hrow⟩ : ∃ row, l.map (fun s : ByteArray => [V.str s]) ++ (List.range 9).map markTexts = row := ⟨_, rfl⟩
  have hlen : row.length = l.length + 9 := by rw [← hrow]; simp
  have hall : ∀ x ∈ row, x.length = 1 := fun x hx => by
    rw [← hrow] at hx
    rcases List.mem_append.1 hx with h | h
    · obtain ⟨y, _, rfl⟩ := List.mem_map.1 h; rfl
    · obtain ⟨y, _, rfl⟩ := List.mem_map.1 h; rfl
  have hget : ∀ j, j < 9 → row[l.length + j]? = some (markTexts j) := fun j hj => by
    rw [← hrow, List.getElem?_append_right (by simp), List.length_map, Nat.add_sub_cancel_left, List.getElem?_map, List.getElem?_range hj]; rfl
  simp only [handV, hrow, vl, decide_true] at hs
  unfold handV
  rw [hrow]
  refine PCall_body Tryz.func71 rfl (by decide) Tryz.ntmps71 (by simp) Tryz.results71 ?_
  repeat' (first
    |refine AW_seq_k fun K hK=>?_|refine Step.by1 ?_|refine SBlock_exit_ne (by decide) ?_
    |((first|refine AW_region_AO ?_|refine AS_call1 (f:=141) rfl rfl (hs) rfl rfl rfl ?_);simp [vl, w9, t9, hz, hlen])
    |(refine Split.by2 (fun h=>?_) (fun h=>?_)<;>(simp [h, vl, w9, t9, hz, hlen]))
    |refine ct rfl ?_|refine cf rfl ?_|refine cnd rfl (fun h=>?_) (fun h=>?_)|refine cd rfl (fun h=>?_) (fun h=>?_)|refine cn rfl (fun h=>?_) (fun h=>?_)|refine cc rfl (fun h=>?_) (fun h=>?_)
    |refine And.intro hall ?_
    |(apply hK;clear hK K)|(refine AWh (by assumption) ?_))
  refine AW_loopL [1, 5] (fun j : Nat => [(6, .int .i64 (l.length + j : Nat))]) (fun _ => []) (fun j => j ≤ 9) (fun j => 9 - j) 0 (Nat.zero_le _) (by apply Weak.mk' <;> simp [vl]) (fun _ _ => rfl) ?_
  intro j hj
  by_cases hjt : j < 9
  · have hm := hget j hjt
    have hrl : l.length + j < row.length := by omega
    have hri : row[l.length + j] = markTexts j := by rw [List.getElem?_eq_getElem hrl] at hm; exact Option.some.inj hm
    have w1 : IntKind.i64.wrap (700 + ((l.length : Int) + j)) = 700 + ((l.length : Int) + j) := wrap_i64 (by omega) (by omega)
    have w2 : IntKind.i64.wrap (700 + ((l.length : Int) + j) - l.length) = 700 + (j : Int) := by rw [wrap_i64 (by omega) (by omega)]; omega
    have hct := c_text j hjt
    have w3 : IntKind.i64.wrap ((l.length : Int) + j + 1) = (l.length : Int) + j + 1 := wrap_i64 (by omega) (by omega)
    have hjn : ((l.length : Int) + j).toNat = l.length + j := by omega
    have hj0 : (0 : Int) ≤ (l.length : Int) + j := by omega
    have hj1 : (l.length : Int) + j < (l.length : Int) + 9 := by omega
    have hjt' : (j : Int) < 9 := by omega
    repeat' (first
    |refine AW_seq_k fun K hK=>?_|refine Step.by1 ?_|refine SBlock_exit_ne (by decide) ?_
    |((first|refine AW_region_AO ?_|refine AW_region_APx (id:=7) 11 mixed (by decide) ?_|refine AS_call1 (f:=127) rfl rfl (hct) rfl rfl rfl ?_|refine AP_call1 (f:=127) rfl rfl (hct) rfl rfl rfl ?_);simp [vl, hrl, hri, hlen, w1, w2, w3, hjn, hj0, hj1, hjt', hjt, t9, markTexts])
    |(refine Split.by2 (fun h=>?_) (fun h=>?_)<;>(simp [h, vl, hrl, hri, hlen, w1, w2, w3, hjn, hj0, hj1, hjt', hjt, t9, markTexts]))
    |refine ct rfl ?_|refine cf rfl ?_|refine cnd rfl (fun h=>?_) (fun h=>?_)|refine cd rfl (fun h=>?_) (fun h=>?_)|refine cn rfl (fun h=>?_) (fun h=>?_)|refine cc rfl (fun h=>?_) (fun h=>?_)
    |(apply hK;clear hK K)|(refine AWh (by assumption) ?_))
    refine ⟨j + 1, by omega, by omega, ?_⟩
    apply Weak.mk' <;> simp [vl]
    omega
  · have hje : j = 9 := by omega
    subst hje
    repeat' (first
    |refine AW_seq_k fun K hK=>?_|refine Step.by1 ?_|refine SBlock_exit_ne (by decide) ?_
    |((first|refine AW_region_AO ?_);simp [vl, t9])
    |(refine Split.by2 (fun h=>?_) (fun h=>?_)<;>(simp [h, vl, t9]))
    |refine ct rfl ?_|refine cf rfl ?_|refine cnd rfl (fun h=>?_) (fun h=>?_)|refine cd rfl (fun h=>?_) (fun h=>?_)|refine cn rfl (fun h=>?_) (fun h=>?_)|refine cc rfl (fun h=>?_) (fun h=>?_)
    |(apply hK;clear hK K)|(refine AWh (by assumption) ?_))
    exact retq1 (conv_eq rfl rfl)

end Go.Proofs.YtgmlimipejcpgaaGreatDoor
end

section
set_option linter.unusedVariables false
set_option linter.unusedSimpArgs false
namespace Go.Proofs.YtgmlimipejcpgaaGreatDoor
open Go Go.AM Fx
/-! Networks held against one another. -/
theorem SetD_eq (x y : SetD) : x = y ↔ (x.clock = y.clock ∧ x.n = y.n ∧ x.var = y.var ∧ x.expr = y.expr) := by cases x; cases y; simp
theorem LocD_eq (x y : LocD) : x = y ↔ (x.name = y.name ∧ x.kind = y.kind ∧ x.inv = y.inv) := by cases x; cases y; simp
theorem EdgeD_eq (x y : EdgeD) : x = y ↔ (x.frm = y.frm ∧ x.to = y.to ∧ x.chan = y.chan ∧ x.send = y.send ∧ x.guards = y.guards ∧ x.test = y.test ∧ x.sets = y.sets) := by
  cases x; cases y; simp only [EdgeD.mk.injEq]; constructor
  · rintro ⟨h1, h2, h3, h4, h5, h6, h7⟩; exact ⟨h1, h2, h5, h6, h3, h4, h7⟩
  · rintro ⟨h1, h2, h5, h6, h3, h4, h7⟩; exact ⟨h1, h2, h3, h4, h5, h6, h7⟩
theorem VarD_eq (x y : VarD) : x = y ↔ (x.name = y.name ∧ x.lo = y.lo ∧ x.hi = y.hi ∧ x.init = y.init) := by cases x; cases y; simp
theorem AutoD_eq (x y : AutoD) : x = y ↔ (x.name = y.name ∧ x.locs = y.locs ∧ x.edges = y.edges) := by cases x; cases y; simp
theorem NetD_eq (x y : NetD) : x = y ↔ (x.clocks = y.clocks ∧ x.chans = y.chans ∧ x.vars = y.vars ∧ x.autos = y.autos) := by
  cases x; cases y; simp only [NetD.mk.injEq]; constructor
  · rintro ⟨h1, h2, h3, h4⟩; exact ⟨h1, h3, h2, h4⟩
  · rintro ⟨h1, h3, h2, h4⟩; exact ⟨h1, h2, h3, h4⟩
theorem mem_at {α : Type} {l : List α} {i : Nat} {x : α} (h : i < l.length) (hx : l[i] = x) : x ∈ l := hx ▸ List.getElem_mem h

end Go.Proofs.YtgmlimipejcpgaaGreatDoor
end

section
set_option linter.unusedVariables false
set_option linter.unusedSimpArgs false
namespace Go.Proofs.YtgmlimipejcpgaaGreatDoor
open Go Go.AM Fx
set_option maxHeartbeats 4000000 in
theorem c_sameSets (a b : List SetD) (ha : a.length ≤ 1048576 ∧ ∀ x ∈ a, x.ok) : PC 199 [vl SetD.cells a, vl SetD.cells b] (.bool (decide (a = b))) := by
  have hal := ha.1
  refine PCall_body Tryz.func199 rfl (by decide) Tryz.ntmps199 (by simp) Tryz.results199 ?_
  by_cases hab : a.length = b.length
  · have hab' : (a.length : Int) = b.length := by omega
    repeat' (first
    |refine AW_seq_k fun K hK=>?_|refine Step.by1 ?_|refine SBlock_exit_ne (by decide) ?_
    |((first|refine AW_region_AO ?_);simp [vl, hab'])
    |(refine Split.by2 (fun h=>?_) (fun h=>?_)<;>(simp [h, vl, hab']))
    |refine ct rfl ?_|refine cf rfl ?_|refine cnd rfl (fun h=>?_) (fun h=>?_)|refine cd rfl (fun h=>?_) (fun h=>?_)|refine cn rfl (fun h=>?_) (fun h=>?_)|refine cc rfl (fun h=>?_) (fun h=>?_)
    |(apply hK;clear hK K)|(refine AWh (by assumption) ?_))
    refine AW_loopL [0, 1] (fun i : Nat => [(5, .int .i64 i)]) (fun _ => []) (fun i => i ≤ a.length ∧ a.take i = b.take i) (fun i => a.length - i) 0 ⟨Nat.zero_le _, rfl⟩ (by apply Weak.mk' <;> simp) (fun _ _ => rfl) ?_
    intro i hi
    by_cases hlt : i < a.length
    · have hlb : i < b.length := by omega
      have hne : a[i] ≠ b[i] → a ≠ b := fun h e => h (by subst e; rfl)
      have hsucc := fun h => take_same hi.2 hlt hlb h
      have hok := ha.2 a[i] (List.getElem_mem hlt)
      obtain ⟨x, hx⟩ : ∃ x, a[i] = x := ⟨_, rfl⟩
      obtain ⟨y, hy⟩ : ∃ y, b[i] = y := ⟨_, rfl⟩
      rw [hx] at hok
      rw [hx, hy] at hne hsucc
      rw [ne_eq, SetD_eq] at hne
      rw [SetD_eq] at hsucc
      have hcall := c_SameNodes x.expr y.expr (by have := hok.2.2.2.1; omega)
      repeat' (first
    |refine AW_seq_k fun K hK=>?_|refine Step.by1 ?_|refine SBlock_exit_ne (by decide) ?_
    |((first|refine AW_region_AO ?_|refine AW_region_APx (id:=6) 51 mixed (by decide) ?_|refine AP_call1 (f:=144) rfl rfl (hcall) rfl rfl rfl ?_);simp [vl, hlt, hlb, hx, hy, SetD.cells, wrap_i64];try (simp (disch:=omega) only [wrap_i64];try simp [vl, hlt, hlb, hx, hy, SetD.cells, wrap_i64]))
    |(refine Split.by2 (fun h=>?_) (fun h=>?_)<;>(simp [h, vl, hlt, hlb, hx, hy, SetD.cells, wrap_i64];try (simp (disch:=omega) only [wrap_i64];try simp [vl, hlt, hlb, hx, hy, SetD.cells, wrap_i64])))
    |refine ct rfl ?_|refine cf rfl ?_|refine cnd rfl (fun h=>?_) (fun h=>?_)|refine cd rfl (fun h=>?_) (fun h=>?_)|refine cn rfl (fun h=>?_) (fun h=>?_)|refine cc rfl (fun h=>?_) (fun h=>?_)
    |(apply hK;clear hK K)|(refine AWh (by assumption) ?_))
      all_goals first
        | exact retq1 (conv_eq (by simp; exact hne (by simp_all)) rfl)
        | (refine ⟨i + 1, ⟨by omega, hsucc (by simp_all)⟩, by omega, ?_⟩; apply Weak.mk' <;> simp [vl])
        | trace_state
    · have hie : i = a.length := by omega
      subst hie
      have he : a = b := take_end hi.2 hab
      repeat' (first
    |refine AW_seq_k fun K hK=>?_|refine Step.by1 ?_|refine SBlock_exit_ne (by decide) ?_
    |((first|refine AW_region_AO ?_);simp [vl, hlt])
    |(refine Split.by2 (fun h=>?_) (fun h=>?_)<;>(simp [h, vl, hlt]))
    |refine ct rfl ?_|refine cf rfl ?_|refine cnd rfl (fun h=>?_) (fun h=>?_)|refine cd rfl (fun h=>?_) (fun h=>?_)|refine cn rfl (fun h=>?_) (fun h=>?_)|refine cc rfl (fun h=>?_) (fun h=>?_)
    |(apply hK;clear hK K)|(refine AWh (by assumption) ?_))
      exact retq1 (conv_eq (by simp [he]) rfl)
  · have hab' : ¬ (a.length : Int) = b.length := by omega
    have he : ¬ a = b := fun h => hab (by rw [h])
    repeat' (first
    |refine AW_seq_k fun K hK=>?_|refine Step.by1 ?_|refine SBlock_exit_ne (by decide) ?_
    |((first|refine AW_region_AO ?_);simp [vl, hab'])
    |(refine Split.by2 (fun h=>?_) (fun h=>?_)<;>(simp [h, vl, hab']))
    |refine ct rfl ?_|refine cf rfl ?_|refine cnd rfl (fun h=>?_) (fun h=>?_)|refine cd rfl (fun h=>?_) (fun h=>?_)|refine cn rfl (fun h=>?_) (fun h=>?_)|refine cc rfl (fun h=>?_) (fun h=>?_)
    |(apply hK;clear hK K)|(refine AWh (by assumption) ?_))
    exact retq1 (conv_eq (by simp [he]) rfl)

end Go.Proofs.YtgmlimipejcpgaaGreatDoor
end

section
set_option linter.unusedVariables false
set_option linter.unusedSimpArgs false
namespace Go.Proofs.YtgmlimipejcpgaaGreatDoor
open Go Go.AM Fx
theorem beq_dec (a b : Bool) : (a == b) = decide (a = b) := by cases a <;> cases b <;> rfl
set_option maxRecDepth 40000 in
set_option maxHeartbeats 16000000 in
theorem c_sameAuto (a b : AutoD) (ha : a.ok) : PC 142 [.agg a.cells, .agg b.cells] (.bool (decide (a = b))) := by
  obtain ⟨ha1, ⟨ha2, ha3⟩, ha4, ha5⟩ := ha
  refine PCall_body Tryz.func142 rfl (by decide) Tryz.ntmps142 (by simp) Tryz.results142 ?_
  by_cases h0 : a.name = b.name ∧ a.locs.length = b.locs.length ∧ a.edges.length = b.edges.length
  · obtain ⟨e0, e1, e2⟩ := h0
    have e1' : (a.locs.length : Int) = b.locs.length := by omega
    have e2' : (a.edges.length : Int) = b.edges.length := by omega
    repeat' (first
    |refine AW_seq_k fun K hK=>?_|refine Step.by1 ?_|refine SBlock_exit_ne (by decide) ?_
    |((first|refine AW_region_AO ?_);simp [vl, AutoD.cells, e0, e1', e2'])
    |(refine Split.by2 (fun h=>?_) (fun h=>?_)<;>(simp [h, vl, AutoD.cells, e0, e1', e2']))
    |refine ct rfl ?_|refine cf rfl ?_|refine cnd rfl (fun h=>?_) (fun h=>?_)|refine cd rfl (fun h=>?_) (fun h=>?_)|refine cn rfl (fun h=>?_) (fun h=>?_)|refine cc rfl (fun h=>?_) (fun h=>?_)
    |(apply hK;clear hK K)|(refine AWh (by assumption) ?_))
    refine AW_loopL [2, 3] (fun i : Nat => [(5, .int .i64 i)]) (fun _ => [.var a.cells, .var b.cells]) (fun i => i ≤ a.locs.length ∧ a.locs.take i = b.locs.take i) (fun i => a.locs.length - i) 0 ⟨Nat.zero_le _, rfl⟩ (by apply Weak.mk' <;> simp [vl, AutoD.cells, e0]) (fun _ _ => rfl) ?_
    intro i hi
    by_cases hlt : i < a.locs.length
    · have hlb : i < b.locs.length := by omega
      have hne : a.locs[i] ≠ b.locs[i] → a ≠ b := fun h e => h (by subst e; rfl)
      have hsucc := fun h => take_same hi.2 hlt hlb h
      have hok := ha3 a.locs[i] (List.getElem_mem hlt)
      obtain ⟨x, hx⟩ : ∃ x, a.locs[i] = x := ⟨_, rfl⟩
      obtain ⟨y, hy⟩ : ∃ y, b.locs[i] = y := ⟨_, rfl⟩
      rw [hx] at hok
      rw [hx, hy] at hne hsucc
      rw [ne_eq, LocD_eq] at hne
      rw [LocD_eq] at hsucc
      have hcall := c_SameGuards x.inv y.inv (by have := hok.2.2.1; omega)
      repeat' (first
    |refine AW_seq_k fun K hK=>?_|refine Step.by1 ?_|refine SBlock_exit_ne (by decide) ?_
    |((first|refine AW_region_AO ?_|refine AW_region_APx (id:=6) 44 mixed (by decide) ?_|refine AP_call1 (f:=143) rfl rfl (hcall) rfl rfl rfl ?_);simp [vl, AutoD.cells, LocD.cells, hlt, hlb, hx, hy, wrap_i64];try (simp (disch:=omega) only [wrap_i64];try simp [vl, AutoD.cells, LocD.cells, hlt, hlb, hx, hy, wrap_i64]))
    |(refine Split.by2 (fun h=>?_) (fun h=>?_)<;>(simp [h, vl, AutoD.cells, LocD.cells, hlt, hlb, hx, hy, wrap_i64];try (simp (disch:=omega) only [wrap_i64];try simp [vl, AutoD.cells, LocD.cells, hlt, hlb, hx, hy, wrap_i64])))
    |refine ct rfl ?_|refine cf rfl ?_|refine cnd rfl (fun h=>?_) (fun h=>?_)|refine cd rfl (fun h=>?_) (fun h=>?_)|refine cn rfl (fun h=>?_) (fun h=>?_)|refine cc rfl (fun h=>?_) (fun h=>?_)
    |(apply hK;clear hK K)|(refine AWh (by assumption) ?_))
      all_goals first
        | exact retq1 (conv_eq (by simp; exact hne (fun hh => by first | exact h hh.1 | exact h hh.2.1 | exact h hh.2.2 | exact h hh.2.2.1 | exact h hh.2.2.2.1 | exact h hh.2.2.2.2.1 | exact h hh.2.2.2.2.2.1 | exact h hh.2.2.2.2.2.2 | simp_all)) rfl)
        | (refine ⟨i + 1, ⟨by omega, hsucc (by simp_all)⟩, by omega, ?_⟩; apply Weak.mk' <;> simp [vl, AutoD.cells])
        | trace_state
    · have hie : i = a.locs.length := by omega
      subst hie
      have hel : a.locs = b.locs := take_end hi.2 e1
      repeat' (first
    |refine AW_seq_k fun K hK=>?_|refine Step.by1 ?_|refine SBlock_exit_ne (by decide) ?_
    |((first|refine AW_region_AO ?_);simp [vl, AutoD.cells, hlt])
    |(refine Split.by2 (fun h=>?_) (fun h=>?_)<;>(simp [h, vl, AutoD.cells, hlt]))
    |refine ct rfl ?_|refine cf rfl ?_|refine cnd rfl (fun h=>?_) (fun h=>?_)|refine cd rfl (fun h=>?_) (fun h=>?_)|refine cn rfl (fun h=>?_) (fun h=>?_)|refine cc rfl (fun h=>?_) (fun h=>?_)
    |(apply hK;clear hK K)|(refine AWh (by assumption) ?_))
      refine AW_loopL [2, 3] (fun i : Nat => [(6, .int .i64 i)]) (fun _ => [.var a.cells, .var b.cells]) (fun i => i ≤ a.edges.length ∧ a.edges.take i = b.edges.take i) (fun i => a.edges.length - i) 0 ⟨Nat.zero_le _, rfl⟩ (by apply Weak.mk' <;> simp [vl, AutoD.cells, e0]) (fun _ _ => rfl) ?_
      intro i hi
      by_cases hlt : i < a.edges.length
      · have hlb : i < b.edges.length := by omega
        have hne : a.edges[i] ≠ b.edges[i] → a ≠ b := fun h e => h (by subst e; rfl)
        have hsucc := fun h => take_same hi.2 hlt hlb h
        have hok := ha5 a.edges[i] (List.getElem_mem hlt)
        obtain ⟨x, hx⟩ : ∃ x, a.edges[i] = x := ⟨_, rfl⟩
        obtain ⟨y, hy⟩ : ∃ y, b.edges[i] = y := ⟨_, rfl⟩
        rw [hx] at hok
        rw [hx, hy] at hne hsucc
        rw [ne_eq, EdgeD_eq] at hne
        rw [EdgeD_eq] at hsucc
        obtain ⟨_, _, ok3, ok4, _, _, ok7⟩ := hok
        have hc1 := c_SameGuards x.guards y.guards (by have := ok3.1; omega)
        have hc2 := c_SameNodes x.test y.test (by have := ok4.1; omega)
        have hc3 := c_sameSets x.sets y.sets ok7
        repeat' (first
    |refine AW_seq_k fun K hK=>?_|refine Step.by1 ?_|refine SBlock_exit_ne (by decide) ?_
    |((first|refine AW_region_AO ?_|refine AS_call1 (f:=143) rfl rfl (hc1) rfl rfl rfl ?_|refine AS_call1 (f:=144) rfl rfl (hc2) rfl rfl rfl ?_|refine AS_call1 (f:=199) rfl rfl (hc3) rfl rfl rfl ?_);simp [vl, AutoD.cells, EdgeD.cells, hlt, hlb, hx, hy, beq_dec, wrap_i64];try (simp (disch:=omega) only [wrap_i64];try simp [vl, AutoD.cells, EdgeD.cells, hlt, hlb, hx, hy, beq_dec, wrap_i64]))
    |(refine Split.by2 (fun h=>?_) (fun h=>?_)<;>(simp [h, vl, AutoD.cells, EdgeD.cells, hlt, hlb, hx, hy, beq_dec, wrap_i64];try (simp (disch:=omega) only [wrap_i64];try simp [vl, AutoD.cells, EdgeD.cells, hlt, hlb, hx, hy, beq_dec, wrap_i64])))
    |refine ct rfl ?_|refine cf rfl ?_|refine cnd rfl (fun h=>?_) (fun h=>?_)|refine cd rfl (fun h=>?_) (fun h=>?_)|refine cn rfl (fun h=>?_) (fun h=>?_)|refine cc rfl (fun h=>?_) (fun h=>?_)
    |(apply hK;clear hK K)|(refine AWh (by assumption) ?_))
        all_goals first
          | exact retq1 (conv_eq (by simp; exact hne (fun hh => by first | exact h hh.1 | exact h hh.2.1 | exact h hh.2.2 | exact h hh.2.2.1 | exact h hh.2.2.2.1 | exact h hh.2.2.2.2.1 | exact h hh.2.2.2.2.2.1 | exact h hh.2.2.2.2.2.2 | simp_all)) rfl)
          | (refine ⟨i + 1, ⟨by omega, hsucc (by simp_all)⟩, by omega, ?_⟩; apply Weak.mk' <;> simp [vl, AutoD.cells])
          | (exfalso; first | contradiction | (simp_all; done))
          | trace_state
      · have hie : i = a.edges.length := by omega
        subst hie
        have hee : a.edges = b.edges := take_end hi.2 e2
        have he : a = b := (AutoD_eq a b).2 ⟨e0, hel, hee⟩
        repeat' (first
    |refine AW_seq_k fun K hK=>?_|refine Step.by1 ?_|refine SBlock_exit_ne (by decide) ?_
    |((first|refine AW_region_AO ?_);simp [vl, AutoD.cells, hlt])
    |(refine Split.by2 (fun h=>?_) (fun h=>?_)<;>(simp [h, vl, AutoD.cells, hlt]))
    |refine ct rfl ?_|refine cf rfl ?_|refine cnd rfl (fun h=>?_) (fun h=>?_)|refine cd rfl (fun h=>?_) (fun h=>?_)|refine cn rfl (fun h=>?_) (fun h=>?_)|refine cc rfl (fun h=>?_) (fun h=>?_)
    |(apply hK;clear hK K)|(refine AWh (by assumption) ?_))
        exact retq1 (conv_eq (by simp [he]) rfl)
  · have he : ¬ a = b := fun h => h0 (by subst h; exact ⟨rfl, rfl, rfl⟩)
    repeat' (first
    |refine AW_seq_k fun K hK=>?_|refine Step.by1 ?_|refine SBlock_exit_ne (by decide) ?_
    |((first|refine AW_region_AO ?_);simp [vl, AutoD.cells])
    |(refine Split.by2 (fun h=>?_) (fun h=>?_)<;>(simp [h, vl, AutoD.cells]))
    |refine ct rfl ?_|refine cf rfl ?_|refine cnd rfl (fun h=>?_) (fun h=>?_)|refine cd rfl (fun h=>?_) (fun h=>?_)|refine cn rfl (fun h=>?_) (fun h=>?_)|refine cc rfl (fun h=>?_) (fun h=>?_)
    |(apply hK;clear hK K)|(refine AWh (by assumption) ?_))
    all_goals first
      | exact retq1 (conv_eq (by simp [he]) rfl)
      | (exfalso; exact h0 ⟨by assumption, by omega, by omega⟩)
      | trace_state
end Go.Proofs.YtgmlimipejcpgaaGreatDoor
end
