/-
  YtgmlimipejcpgaaGreatDoorPart12: steps of the proof of a law of the program: what these texts prove holds under the hypotheses that their theorems name, and no others.
-/
import Derived.Test.YtgmlimipejcpgaaGreatDoorPart11
import Derived.Test.YtgmlimipejcpgaaGreatDoorPart10
section
set_option linter.unusedVariables false
set_option linter.unusedSimpArgs false
namespace Go.Proofs.YtgmlimipejcpgaaGreatDoor
open Go Go.AM Fx
/-! Lists of ints: are they the same; Upper; which clocks are kept. -/
def isV (l : List Int) : V := .vec (l.map fun k => [V.int .i64 k]) l.length
set_option maxHeartbeats 4000000 in
theorem c_SameInts (a : List Int) (ha : a.length ≤ 1099511627776) : PC 26 [isV a, isV a] (.bool true) := by
  refine PCall_body Tryz.func26 rfl (by decide) Tryz.ntmps26 (by simp) Tryz.results26 ?_
  repeat' (first
 |refine AW_seq_k fun K hK=>?_|refine Step.by1 ?_|refine SBlock_exit_ne (by decide) ?_|refine cz rfl ?_|refine Fork.by2 (fun h=>?_) fun h=>?_
 |(refine AW_region_AO ?_;simp [isV])
 |(refine Split.by2 (fun h=>?_) (fun h=>?_)<;>(simp [h, isV]))
 |(apply hK;clear hK K)|refine AWh (by assumption) ?_)
  refine AW_loopL [0, 1] (fun i : Nat => [(5, .int .i64 i)]) (fun _ => []) (fun i => i ≤ a.length) (fun i => a.length - i) 0 (Nat.zero_le _) (by apply Weak.mk' <;> simp [isV]) (fun _ _ => rfl) ?_
  intro i hi
  by_cases hlt : i < a.length
  · have hlt' : (i : Int) < a.length := by omega
    have w1 : IntKind.i64.wrap ((i : Int) + 1) = i + 1 := wrap_i64 (by omega) (by omega)
    repeat' (first
 |refine AW_seq_k fun K hK=>?_|refine Step.by1 ?_|refine SBlock_exit_ne (by decide) ?_|refine cz rfl ?_|refine Fork.by2 (fun h=>?_) fun h=>?_
 |((first|refine AW_region_AO ?_|refine AW_region_APx (id:=6) 9 mixed (by decide) ?_);simp [isV, hlt, hlt', w1])
 |(refine Split.by2 (fun h=>?_) (fun h=>?_)<;>(simp [h, isV, hlt, hlt', w1]))
 |(apply hK;clear hK K)|refine AWh (by assumption) ?_)
    refine ⟨i + 1, by omega, by omega, ?_⟩
    apply Weak.mk' <;> simp [isV]
  · have hie : i = a.length := by omega
    subst hie
    repeat' (first
 |refine AW_seq_k fun K hK=>?_|refine Step.by1 ?_|refine SBlock_exit_ne (by decide) ?_|refine cz rfl ?_|refine Fork.by2 (fun h=>?_) fun h=>?_
 |(refine AW_region_AO ?_;simp [isV])
 |(refine Split.by2 (fun h=>?_) (fun h=>?_)<;>(simp [h, isV]))
 |(apply hK;clear hK K)|refine AWh (by assumption) ?_)
    exact retq1 (conv_eq rfl rfl)
theorem c_SameNils : PC 26 [.nils, .nils] (.bool true) := PCall.denil (args := [.nils, .nils]) (c_SameInts [] (by simp)) rfl
def upB (c : Int) : Bool := decide (c = 1 ∨ c = 2 ∨ c = 3)
theorem c_Upper1 (c : Int) : PC 82 [.int .u8 c] (.bool (upB c)) := by
  refine PCall_body Tryz.func82 rfl (by decide) Tryz.ntmps82 (by simp) Tryz.results82 ?_
  repeat' (first
 |refine AW_seq_k fun K hK=>?_|refine Step.by1 ?_|refine SBlock_exit_ne (by decide) ?_|refine cz rfl ?_|refine Fork.by2 (fun h=>?_) fun h=>?_
 |(refine AW_region_AO ?_;simp)
 |(refine Split.by2 (fun h=>?_) (fun h=>?_)<;>(simp [h]))
 |(apply hK;clear hK K)|refine AWh (by assumption) ?_)
  all_goals first
    | exact retq1 (conv_eq (by simp [upB, *]; done) rfl)
    | exact retq1 (conv_eq (by simp [upB, *]; omega) rfl)
    | trace_state
theorem c_Upper (n : NetD) (hn : n.ok) (gs : List (List PartD)) (hgl : gs.length ≤ 1048576) (hgs : ∀ g ∈ gs, okGoal g) : PC 24 [.agg n.cells, gsV gs] (numV (numbE n upB gs)) := by
  have hc := c_numbers n hn 82 upB c_Upper1 gs hgl hgs
  simp only [gsV, vl, NetD.cells] at hc
  cases h : numbE n upB gs with
  | none =>
    rw [h] at hc
    simp only [numV] at hc ⊢
    refine PCall_body Tryz.func24 rfl (by decide) Tryz.ntmps24 (by simp) Tryz.results24 ?_
    repeat' (first
 |refine AW_seq_k fun K hK=>?_|refine Step.by1 ?_|refine SBlock_exit_ne (by decide) ?_|refine cz rfl ?_|refine Fork.by2 (fun h=>?_) fun h=>?_
 |((first|refine AW_region_AO ?_|refine AS_call1 (f:=79) rfl rfl (hc) rfl rfl rfl ?_);simp [gsV, vl, NetD.cells])
 |(refine Split.by2 (fun h=>?_) (fun h=>?_)<;>(simp [h, gsV, vl, NetD.cells]))
 |(apply hK;clear hK K)|refine AWh (by assumption) ?_)
    exact retq1 (conv_eq rfl rfl)
  | some o =>
    rw [h] at hc
    simp only [numV] at hc ⊢
    refine PCall_body Tryz.func24 rfl (by decide) Tryz.ntmps24 (by simp) Tryz.results24 ?_
    repeat' (first
 |refine AW_seq_k fun K hK=>?_|refine Step.by1 ?_|refine SBlock_exit_ne (by decide) ?_|refine cz rfl ?_|refine Fork.by2 (fun h=>?_) fun h=>?_
 |((first|refine AW_region_AO ?_|refine AS_callO (f:=79) rfl rfl (hc) rfl rfl ?_);simp [gsV, vl, NetD.cells])
 |(refine Split.by2 (fun h=>?_) (fun h=>?_)<;>(simp [h, gsV, vl, NetD.cells]))
 |(apply hK;clear hK K)|refine AWh (by assumption) ?_)
    exact retq1 (.inr (.inl (conv1_own rfl (by simp))))
/-- The clocks that some number is held against. -/
def keptF : List Int → Nat × List Int → List Int
  | [], s => s.2
  | x :: r, s => keptF r (s.1 + 1, if 0 ≤ x then s.2 ++ [(s.1 : Int) + 1] else s.2)
theorem keptF_nil {s : Nat × List Int} : keptF [] s = s.2 := rfl
theorem keptF_cons {x : Int} {r : List Int} {s : Nat × List Int} : keptF (x :: r) s = keptF r (s.1 + 1, if 0 ≤ x then s.2 ++ [(s.1 : Int) + 1] else s.2) := rfl
def keptO : Option (List Int) → V
  | none => .own 3 []
  | some o => .own 3 ((keptF o (0, [])).map fun k => [V.int .i64 k])
theorem numb_len {n : NetD} {so : Int → Bool} {gs : List (List PartD)} {o : List Int} (h : numbE n so gs = some o) : o.length = n.clocks.length := by
  have key : ∀ (gs : List (List PartD)) (c o : List Int), numG n so gs c = some o → o.length = c.length := by
    intro gs
    induction gs with
    | nil => intro c o h; rw [numG_nil] at h; cases h; rfl
    | cons g r ih =>
      intro c o h
      rw [numG_cons] at h
      split at h
      · cases h
      · rw [ih _ _ h, raisePs_len]
  unfold numbE at h
  split at h
  · cases h
  · rw [key _ _ _ h, raiseL_len]; simp
set_option maxRecDepth 20000 in
set_option maxHeartbeats 8000000 in
theorem c_Kept (n : NetD) (hn : n.ok) (gs : List (List PartD)) (hgl : gs.length ≤ 1048576) (hgs : ∀ g ∈ gs, okGoal g) : PC 25 [.agg n.cells, gsV gs] (keptO (numbE n (fun _ => true) gs)) := by
  have hc := c_Max n hn gs hgl hgs
  simp only [gsV, vl, NetD.cells] at hc
  cases h : numbE n (fun _ => true) gs with
  | none =>
    rw [h] at hc
    simp only [numV, keptO] at hc ⊢
    refine PCall_body Tryz.func25 rfl (by decide) Tryz.ntmps25 (by simp) Tryz.results25 ?_
    repeat' (first
 |refine AW_seq_k fun K hK=>?_|refine Step.by1 ?_|refine SBlock_exit_ne (by decide) ?_|refine cz rfl ?_|refine Fork.by2 (fun h=>?_) fun h=>?_
 |((first|refine AW_region_AO ?_|refine AS_call1 (f:=22) rfl rfl (hc) rfl rfl rfl ?_);simp [gsV, vl, NetD.cells])
 |(refine Split.by2 (fun h=>?_) (fun h=>?_)<;>(simp [h, gsV, vl, NetD.cells]))
 |(apply hK;clear hK K)|refine AWh (by assumption) ?_)
    refine AW_nilrow 5 3 rfl (by simp) ?_
    refine AW_loop0 ?_
    repeat' (first
 |refine AW_seq_k fun K hK=>?_|refine Step.by1 ?_|refine SBlock_exit_ne (by decide) ?_|refine cz rfl ?_|refine Fork.by2 (fun h=>?_) fun h=>?_
 |(refine AW_region_AO ?_;simp [gsV, vl, NetD.cells])
 |(refine Split.by2 (fun h=>?_) (fun h=>?_)<;>(simp [h, gsV, vl, NetD.cells]))
 |(apply hK;clear hK K)|refine AWh (by assumption) ?_)
    exact retq1 (.inr (.inl (conv1_own (xs := []) rfl (by simp))))
  | some o =>
    rw [h] at hc
    have hol := numb_len h
    have hnl := hn.1.1
    obtain ⟨r, hr⟩ : ∃ r, keptF o (0, []) = r := ⟨_, rfl⟩
    simp only [numV, keptO, hr] at hc ⊢
    refine PCall_body Tryz.func25 rfl (by decide) Tryz.ntmps25 (by simp) Tryz.results25 ?_
    repeat' (first
 |refine AW_seq_k fun K hK=>?_|refine Step.by1 ?_|refine SBlock_exit_ne (by decide) ?_|refine cz rfl ?_|refine Fork.by2 (fun h=>?_) fun h=>?_
 |((first|refine AW_region_AO ?_|refine AS_callO (f:=22) rfl rfl (hc) rfl rfl ?_);simp [gsV, vl, NetD.cells])
 |(refine Split.by2 (fun h=>?_) (fun h=>?_)<;>(simp [h, gsV, vl, NetD.cells]))
 |(apply hK;clear hK K)|refine AWh (by assumption) ?_)
    refine AW_nilrow 5 3 rfl (by simp) ?_
    refine AW_range (r := r) o 12 [10, 11] (fun s : Nat × List Int => [(5, .ref 2 s.2.length 0 s.2.length)]) (fun s => [.var n.cells, .row 3 0 0 true (o.map fun k => [V.int .i64 k]), .row 3 s.2.length 0 true (s.2.map fun k => [V.int .i64 k])]) (fun i s => s.1 = i ∧ s.2.length ≤ i) keptF (0, [])
      hr ⟨rfl, Nat.le_refl _⟩ (by apply Weak.mk' <;> simp [vl, NetD.cells]) (fun _ _ _ => by simp) ?_ ?_
    · rintro i ⟨q, a⟩ x _ hlt hx ⟨hq, hal⟩ hF
      simp only at hq hal
      subst hq
      rw [keptF_cons] at hF
      simp only at hF
      have hlt' : (q : Int) < o.length := by omega
      have w1 : IntKind.i64.wrap ((q : Int) + 1) = q + 1 := wrap_i64 (by omega) (by omega)
      have hby : (a.length + 1) * 8 ≤ 140737488355328 := by omega
      by_cases hx0 : 0 ≤ x
      · rw [if_pos hx0] at hF
        repeat' (first
 |refine AW_seq_k fun K hK=>?_|refine Step.by1 ?_|refine SBlock_exit_ne (by decide) ?_|refine cz rfl ?_|refine Fork.by2 (fun h=>?_) fun h=>?_
 |(refine AW_region_AO ?_;simp [gsV, vl, NetD.cells, hlt, hlt', hx, w1, hx0, hby])
 |(refine Split.by2 (fun h=>?_) (fun h=>?_)<;>(simp [h, gsV, vl, NetD.cells, hlt, hlt', hx, w1, hx0, hby]))
 |(apply hK;clear hK K)|refine AWh (by assumption) ?_)
        refine ⟨q + 1, a ++ [(q : Int) + 1], hF, ⟨rfl, by simp; omega⟩, ?_⟩
        apply Weak.mk' <;> simp [vl, NetD.cells]
      · rw [if_neg hx0] at hF
        repeat' (first
 |refine AW_seq_k fun K hK=>?_|refine Step.by1 ?_|refine SBlock_exit_ne (by decide) ?_|refine cz rfl ?_|refine Fork.by2 (fun h=>?_) fun h=>?_
 |(refine AW_region_AO ?_;simp [gsV, vl, NetD.cells, hlt, hlt', hx, w1, hx0])
 |(refine Split.by2 (fun h=>?_) (fun h=>?_)<;>(simp [h, gsV, vl, NetD.cells, hlt, hlt', hx, w1, hx0]))
 |(apply hK;clear hK K)|refine AWh (by assumption) ?_)
        refine ⟨q + 1, a, hF, ⟨rfl, by show a.length ≤ q + 1; omega⟩, ?_⟩
        apply Weak.mk' <;> simp [vl, NetD.cells]
    · rintro ⟨q, a⟩ ⟨hq, hal⟩ hF
      rw [keptF_nil] at hF
      simp only at hq hal hF
      subst hF
      repeat' (first
 |refine AW_seq_k fun K hK=>?_|refine Step.by1 ?_|refine SBlock_exit_ne (by decide) ?_|refine cz rfl ?_|refine Fork.by2 (fun h=>?_) fun h=>?_
 |(refine AW_region_AO ?_;simp [gsV, vl, NetD.cells])
 |(refine Split.by2 (fun h=>?_) (fun h=>?_)<;>(simp [h, gsV, vl, NetD.cells]))
 |(apply hK;clear hK K)|refine AWh (by assumption) ?_)
      exact retq1 (.inr (.inl (conv1_own rfl (by simp))))
end Go.Proofs.YtgmlimipejcpgaaGreatDoor
end

section
set_option linter.unusedVariables false
set_option linter.unusedSimpArgs false
namespace Go.Proofs.YtgmlimipejcpgaaGreatDoor
open Go Go.AM Fx
/-! The reference's numbers. -/
theorem r_Above (g : GuardD) : PC 204 [.agg g.cells] (.bool (upB g.cmp)) := by
  refine PCall_body Tryz.func204 rfl (by decide) Tryz.ntmps204 (by simp) Tryz.results204 ?_
  repeat' (first
 |refine AW_seq_k fun K hK=>?_|refine Step.by1 ?_|refine SBlock_exit_ne (by decide) ?_|refine cz rfl ?_|refine Fork.by2 (fun h=>?_) fun h=>?_
 |(refine AW_region_AO ?_;simp [GuardD.cells])
 |(refine Split.by2 (fun h=>?_) (fun h=>?_)<;>(simp [h, GuardD.cells]))
 |(apply hK;clear hK K)|refine AWh (by assumption) ?_)
  all_goals first
    | exact retq1 (conv_eq (by simp [upB, *]; done) rfl)
    | exact retq1 (conv_eq (by simp [upB, *]; omega) rfl)
    | trace_state
theorem r_Below (g : GuardD) : PC 205 [.agg g.cells] (.bool (lowB g.cmp)) := by
  refine PCall_body Tryz.func205 rfl (by decide) Tryz.ntmps205 (by simp) Tryz.results205 ?_
  repeat' (first
 |refine AW_seq_k fun K hK=>?_|refine Step.by1 ?_|refine SBlock_exit_ne (by decide) ?_|refine cz rfl ?_|refine Fork.by2 (fun h=>?_) fun h=>?_
 |(refine AW_region_AO ?_;simp [GuardD.cells])
 |(refine Split.by2 (fun h=>?_) (fun h=>?_)<;>(simp [h, GuardD.cells]))
 |(apply hK;clear hK K)|refine AWh (by assumption) ?_)
  all_goals first
    | exact retq1 (conv_eq (by simp [lowB, *]; done) rfl)
    | exact retq1 (conv_eq (by simp [lowB, *]; omega) rfl)
    | trace_state
set_option maxHeartbeats 4000000 in
theorem r_None (n : NetD) (hn : n.clocks.length ≤ 1048576) : PC 160 [.agg n.cells] (.own 3 (List.replicate n.clocks.length [V.int .i64 (-1)])) := by
  refine PCall_body Tryz.func160 rfl (by decide) Tryz.ntmps160 (by simp) Tryz.results160 ?_
  repeat' (first
 |refine AW_seq_k fun K hK=>?_|refine Step.by1 ?_|refine SBlock_exit_ne (by decide) ?_|refine cz rfl ?_|refine Fork.by2 (fun h=>?_) fun h=>?_
 |(refine AW_region_AO ?_;simp [vl, NetD.cells])
 |(refine Split.by2 (fun h=>?_) (fun h=>?_)<;>(simp [h, vl, NetD.cells]))
 |(apply hK;clear hK K)|refine AWh (by assumption) ?_)
  refine AW_nilrow 3 3 rfl (by simp) ?_
  refine AW_loopL [1] (fun i : Nat => [(4, .int .i64 i), (3, .ref 1 i 0 i)]) (fun i => [.var n.cells, .row 3 i 0 true (List.replicate i [V.int .i64 (-1)])]) (fun i => i ≤ n.clocks.length) (fun i => n.clocks.length - i) 0 (Nat.zero_le _) (by apply Weak.mk' <;> simp [vl, NetD.cells]) (fun _ _ => rfl) ?_
  intro i hi
  by_cases hlt : i < n.clocks.length
  · have hlt' : (i : Int) < n.clocks.length := by omega
    have hby : (i + 1) * 8 ≤ 140737488355328 := by omega
    have w1 : IntKind.i64.wrap ((i : Int) + 1) = i + 1 := wrap_i64 (by omega) (by omega)
    repeat' (first
 |refine AW_seq_k fun K hK=>?_|refine Step.by1 ?_|refine SBlock_exit_ne (by decide) ?_|refine cz rfl ?_|refine Fork.by2 (fun h=>?_) fun h=>?_
 |(refine AW_region_AO ?_;simp [vl, NetD.cells, hlt, hlt', hby, w1])
 |(refine Split.by2 (fun h=>?_) (fun h=>?_)<;>(simp [h, vl, NetD.cells, hlt, hlt', hby, w1]))
 |(apply hK;clear hK K)|refine AWh (by assumption) ?_)
    refine ⟨i + 1, by omega, by omega, ?_⟩
    apply Weak.mk' <;> simp [vl, NetD.cells, List.replicate_succ']
  · have hie : i = n.clocks.length := by omega
    subst hie
    repeat' (first
 |refine AW_seq_k fun K hK=>?_|refine Step.by1 ?_|refine SBlock_exit_ne (by decide) ?_|refine cz rfl ?_|refine Fork.by2 (fun h=>?_) fun h=>?_
 |(refine AW_region_AO ?_;simp [vl, NetD.cells])
 |(refine Split.by2 (fun h=>?_) (fun h=>?_)<;>(simp [h, vl, NetD.cells]))
 |(apply hK;clear hK K)|refine AWh (by assumption) ?_)
    exact retq1 (.inr (.inl (conv1_own rfl (by simp))))
def H3 (n : NetD) (lo up : List Int) : List B := [.var n.cells, .row 3 0 0 true (lo.map fun k => [V.int .i64 k]), .row 3 0 0 true (up.map fun k => [V.int .i64 k])]
/-- Both rows are raised. -/
def raise2 (l : List GuardD) (s : List Int × List Int) : List Int × List Int := (raiseL lowB l s.1, raiseL upB l s.2)
theorem raise2_nil {s : List Int × List Int} : raise2 [] s = s := rfl
theorem raise2_cons {g : GuardD} {l : List GuardD} {s : List Int × List Int} : raise2 (g :: l) s = raise2 l (raise1 lowB s.1 g, raise1 upB s.2 g) := rfl
theorem raise1_eq {so : Int → Bool} {c : List Int} {g : GuardD} {p : Nat} (hp : (g.clock - 1).toNat = p) (hlt : p < c.length) :
    raise1 so c g = if so g.cmp = true ∧ c[p] < g.n then c.set p g.n else c := by
  unfold raise1
  rw [hp]
  by_cases h1 : so g.cmp = true
  · by_cases h2 : c[p] < g.n
    · simp [h1, hlt, h2]
    · simp [h1, hlt, h2]
  · simp [h1]
set_option maxRecDepth 20000 in
set_option maxHeartbeats 8000000 in
theorem r_Raise (n : NetD) (l : List GuardD) (lo up : List Int) (hl : l.length ≤ 1048576) (hll : lo.length = n.clocks.length) (hul : up.length = n.clocks.length) (hN : n.clocks.length ≤ 1048576) (hg : ∀ g ∈ l, okG n.clocks.length g) :
    GCall Tryz.prog GV 161 [.ref 1 0 0 n.clocks.length, .ref 2 0 0 n.clocks.length, vl GuardD.cells l] (H3 n lo up) (fun v h' => v = .tup [] ∧ h' = H3 n (raiseL lowB l lo) (raiseL upB l up)) := by
  refine GCall_body Tryz.func161 rfl (by decide) Tryz.ntmps161 (by simp) Tryz.results161 ?_
  repeat' (first
 |refine AW_seq_k fun K hK=>?_|refine Step.by1 ?_|refine SBlock_exit_ne (by decide) ?_|refine cz rfl ?_|refine Fork.by2 (fun h=>?_) fun h=>?_
 |(refine AW_region_AO ?_;simp [vl])
 |(refine Split.by2 (fun h=>?_) (fun h=>?_)<;>(simp [h, vl]))
 |(apply hK;clear hK K)|refine AWh (by assumption) ?_)
  refine AW_range (r := (raiseL lowB l lo, raiseL upB l up)) l 6 [0, 1, 2] (fun s : List Int × List Int => []) (fun s => H3 n s.1 s.2) (fun i s => s.1.length = n.clocks.length ∧ s.2.length = n.clocks.length) raise2 (lo, up)
    rfl ⟨hll, hul⟩ (by apply Weak.mk' <;> simp [vl, NetD.cells, H3]) (fun _ _ _ => rfl) ?_ ?_
  · rintro i ⟨a, b⟩ x _ hlt hx ⟨ha, hb⟩ hF
    simp only at ha hb
    rw [raise2_cons] at hF
    obtain ⟨g1, g2⟩ := hg x (hx ▸ List.getElem_mem hlt)
    have hlt' : (i : Int) < l.length := by omega
    have w1 : IntKind.i64.wrap ((i : Int) + 1) = i + 1 := wrap_i64 (by omega) (by omega)
    have w2 : IntKind.i64.wrap (x.clock - 1) = x.clock - 1 := wrap_i64 (by omega) (by omega)
    obtain ⟨p, hp⟩ := Int.eq_ofNat_of_zero_le (show 0 ≤ x.clock - 1 by omega)
    have hpn : p < n.clocks.length := by omega
    have hpa : p < a.length := by omega
    have hpb : p < b.length := by omega
    have hpn' : (p : Int) < n.clocks.length := by omega
    have e1 : raise1 lowB a x = if lowB x.cmp = true ∧ a[p] < x.n then a.set p x.n else a := raise1_eq (by omega) hpa
    have e2 : raise1 upB b x = if upB x.cmp = true ∧ b[p] < x.n then b.set p x.n else b := raise1_eq (by omega) hpb
    rw [e1, e2] at hF
    obtain ⟨y, hy⟩ : ∃ y, a[p] = y := ⟨_, rfl⟩
    obtain ⟨z, hz⟩ : ∃ z, b[p] = z := ⟨_, rfl⟩
    rw [hy, hz] at hF
    rw [hp] at w2
    have hc1 := r_Above x
    have hc2 := r_Below x
    simp only [GuardD.cells] at hc1 hc2
    clear e1 e2
    cases hs : upB x.cmp <;> cases ht : lowB x.cmp <;> rw [hs] at hc1 hF <;> rw [ht] at hc2 hF <;> by_cases q1 : y < x.n <;> by_cases q2 : z < x.n <;> simp only [q1, q2, and_true, and_false, true_and, false_and, if_true, if_false, Bool.false_eq_true] at hF
    all_goals
      repeat' (first
 |refine AW_seq_k fun K hK=>?_|refine Step.by1 ?_|refine SBlock_exit_ne (by decide) ?_|refine cz rfl ?_|refine Fork.by2 (fun h=>?_) fun h=>?_
 |((first|refine AW_region_AO ?_|refine AW_region_APx (id:=4) 17 mixed (by decide) ?_|refine AW_region_APx (id:=6) 17 mixed (by decide) ?_|refine AP_call1 (f:=204) rfl rfl (hc1) rfl rfl rfl ?_|refine AP_call1 (f:=205) rfl rfl (hc2) rfl rfl rfl ?_);simp [vl, H3, GuardD.cells, NetD.cells, hlt, hlt', hx, w1, hp, w2, hpn, hpn', hpa, hpb, ha, hb, hy, hz, q1, q2])
 |(refine Split.by2 (fun h=>?_) (fun h=>?_)<;>(simp [h, vl, H3, GuardD.cells, NetD.cells, hlt, hlt', hx, w1, hp, w2, hpn, hpn', hpa, hpb, ha, hb, hy, hz, q1, q2]))
 |(apply hK;clear hK K)|refine AWh (by assumption) ?_)
    all_goals
      refine ⟨_, _, hF, ⟨by simp [ha], by simp [hb]⟩, ?_⟩
      apply Weak.mk' <;> simp [vl, NetD.cells, H3]
  · rintro ⟨a, b⟩ ⟨ha, hb⟩ hF
    rw [raise2_nil] at hF
    cases hF
    repeat' (first
 |refine AW_seq_k fun K hK=>?_|refine Step.by1 ?_|refine SBlock_exit_ne (by decide) ?_|refine cz rfl ?_|refine Fork.by2 (fun h=>?_) fun h=>?_
 |(refine AW_region_AO ?_;simp [vl])
 |(refine Split.by2 (fun h=>?_) (fun h=>?_)<;>(simp [h, vl]))
 |(apply hK;clear hK K)|refine AWh (by assumption) ?_)
    refine ⟨.inl rfl, _, _, ⟨[], rfl, trivial⟩, ⟨rfl, rfl⟩, rfl, ?_⟩
    have := Go.AM.Leaves.tail (a := H3 n lo up) (a' := H3 n (raiseL lowB l lo) (raiseL upB l up)) (e := []) (x := []) rfl (by simp [H3, NetD.cells, vl])
    simpa using this
end Go.Proofs.YtgmlimipejcpgaaGreatDoor
end

section
set_option linter.unusedVariables false
set_option linter.unusedSimpArgs false
namespace Go.Proofs.YtgmlimipejcpgaaGreatDoor
open Go Go.AM Fx
/-! What is wrong with a goal, by the reference. -/
def goX (f : PartD → Int) (X : Int) : List PartD → Int
  | [] => X
  | p :: r => if f p ≠ 0 then f p else goX f X r
theorem goX_nil {f : PartD → Int} {X : Int} : goX f X [] = X := rfl
theorem goX_cons {f : PartD → Int} {X : Int} {p : PartD} {r : List PartD} : goX f X (p :: r) = if f p ≠ 0 then f p else goX f X r := rfl
theorem goX_eq {f : PartD → Int} {rest : List Int} : ∀ {g : List PartD}, firstE (goF f g :: rest) = goX f (firstE rest) g
  | [] => by rw [goF_nil, firstE_cons, if_neg (by simp), goX_nil]
  | p :: r => by
    rw [goF_cons, goX_cons]
    by_cases h : f p = 0
    · rw [if_neg (by simp [h]), if_neg (by simp [h]), goX_eq]
    · rw [if_pos h, if_pos h, firstE_cons, if_pos h]
theorem clkE_eq (n : NetD) (l : List GuardD) : clkE n l = if anyL (wayG n 12) l = true then 12 else 0 := by
  have h1 : wayG n 12 = clkG n := funext fun g => by simp [wayG]
  rw [h1]; rfl
theorem cmpE_eq (n : NetD) (l : List GuardD) : cmpE l = if anyL (wayG n 7) l = true then 7 else 0 := by
  have h1 : wayG n 7 = cmpG := funext fun g => by simp [wayG]
  rw [h1]; rfl
set_option maxRecDepth 20000 in
set_option maxHeartbeats 16000000 in
theorem r_WholeGoal (n : NetD) (hn : n.ok) (g : List PartD) (hg : okGoal g) : PC 76 [.agg n.cells, vl PartD.cells g] (.int .i64 (wholeGoalE n g)) := by
  have h0 := r_Whole n hn
  obtain ⟨hg1, hg2⟩ := hg
  have hnl := hn.2.2.2.1
  obtain ⟨r, hr⟩ : ∃ r, wholeGoalE n g = r := ⟨_, rfl⟩
  rw [hr]
  unfold wholeGoalE at hr
  rw [firstE_cons, firstE_cons, goX_eq, goX_eq, goX_eq, goX_eq, goX_eq, firstE_nil] at hr
  generalize wholeE n = e0 at *
  simp only [vl, NetD.cells] at h0
  refine PCall_body Tryz.func76 rfl (by decide) Tryz.ntmps76 (by simp) Tryz.results76 ?_
  by_cases hz : e0 = 0
  · rw [if_neg (by simp [hz])] at hr
    rw [hz] at h0
    by_cases hlong : 16 < g.length
    · rw [if_pos hlong, if_pos (by decide)] at hr
      have hl' : (16 : Int) < g.length := by omega
      repeat' (first
 |refine AW_seq_k fun K hK=>?_|refine Step.by1 ?_|refine SBlock_exit_ne (by decide) ?_|refine cz rfl ?_|refine Fork.by2 (fun h=>?_) fun h=>?_
 |((first|refine AW_region_AO ?_|refine AS_call1 (f:=67) rfl rfl (h0) rfl rfl rfl ?_);simp [vl, NetD.cells, hlong, hl'])
 |(refine Split.by2 (fun h=>?_) (fun h=>?_)<;>(simp [h, vl, NetD.cells, hlong, hl']))
 |(apply hK;clear hK K)|refine AWh (by assumption) ?_)
      exact retq1 (conv_eq (by rw [← hr]; rfl) rfl)
    · rw [if_neg hlong, if_neg (by decide)] at hr
      have hl' : ¬ (16 : Int) < g.length := by omega
      obtain ⟨x5, hx5⟩ : ∃ x, goX (fun p => truthE n p.test) 0 g = x := ⟨_, rfl⟩
      rw [hx5] at hr
      obtain ⟨x4, hx4⟩ : ∃ x, goX (fun p => cmpE p.guards) x5 g = x := ⟨_, rfl⟩
      rw [hx4] at hr
      obtain ⟨x3, hx3⟩ : ∃ x, goX (fun p => clkE n p.guards) x4 g = x := ⟨_, rfl⟩
      rw [hx3] at hr
      obtain ⟨x2, hx2⟩ : ∃ x, goX (g2E n) x3 g = x := ⟨_, rfl⟩
      rw [hx2] at hr
      repeat' (first
 |refine AW_seq_k fun K hK=>?_|refine Step.by1 ?_|refine SBlock_exit_ne (by decide) ?_|refine cz rfl ?_|refine Fork.by2 (fun h=>?_) fun h=>?_
 |((first|refine AW_region_AO ?_|refine AS_call1 (f:=67) rfl rfl (h0) rfl rfl rfl ?_);simp [vl, NetD.cells, hlong, hl'])
 |(refine Split.by2 (fun h=>?_) (fun h=>?_)<;>(simp [h, vl, NetD.cells, hlong, hl']))
 |(apply hK;clear hK K)|refine AWh (by assumption) ?_)
      -- sizes
      refine AW_scan (r := r) g 6 [1, 2] (goX g1E x2) hr (by apply Weak.mk' <;> simp [vl, NetD.cells]) ?_ ?_
      · intro i p _ hlt hp hF
        rw [goX_cons] at hF
        have hlt' : (i : Int) < g.length := by omega
        have w1 : IntKind.i64.wrap ((i : Int) + 1) = i + 1 := wrap_i64 (by omega) (by omega)
        have hg1E : g1E p = if 16 < p.locs.length ∨ 16 < p.guards.length ∨ 64 < p.test.length then 6 else 0 := by simp [g1E, longP]
        by_cases hq : 16 < p.locs.length ∨ 16 < p.guards.length ∨ 64 < p.test.length
        · rw [hg1E, if_pos hq, if_pos (by decide)] at hF
          repeat' (first
 |refine AW_seq_k fun K hK=>?_|refine Step.by1 ?_|refine SBlock_exit_ne (by decide) ?_|refine cz rfl ?_|refine Fork.by2 (fun h=>?_) fun h=>?_
 |(refine AW_region_AO ?_;simp [vl, NetD.cells, PartD.cells, hlt, hlt', hp, w1])
 |(refine Split.by2 (fun h=>?_) (fun h=>?_)<;>(simp [h, vl, NetD.cells, PartD.cells, hlt, hlt', hp, w1]))
 |(apply hK;clear hK K)|refine AWh (by assumption) ?_)
          all_goals first
            | exact retq1 (conv_eq (by rw [← hF]; rfl) rfl)
            | (exfalso; omega)
            | trace_state
        · rw [hg1E, if_neg hq, if_neg (by decide)] at hF
          have q1 : ¬ (16 : Int) < p.locs.length := by omega
          have q2 : ¬ (16 : Int) < p.guards.length := by omega
          have q3 : ¬ (64 : Int) < p.test.length := by omega
          repeat' (first
 |refine AW_seq_k fun K hK=>?_|refine Step.by1 ?_|refine SBlock_exit_ne (by decide) ?_|refine cz rfl ?_|refine Fork.by2 (fun h=>?_) fun h=>?_
 |(refine AW_region_AO ?_;simp [vl, NetD.cells, PartD.cells, hlt, hlt', hp, w1, q1, q2, q3])
 |(refine Split.by2 (fun h=>?_) (fun h=>?_)<;>(simp [h, vl, NetD.cells, PartD.cells, hlt, hlt', hp, w1, q1, q2, q3]))
 |(apply hK;clear hK K)|refine AWh (by assumption) ?_)
          refine ⟨hF, ?_⟩; apply Weak.mk' <;> simp [vl, NetD.cells]
      · intro hF
        rw [goX_nil] at hF
        subst hF
        clear hr
        repeat' (first
 |refine AW_seq_k fun K hK=>?_|refine Step.by1 ?_|refine SBlock_exit_ne (by decide) ?_|refine cz rfl ?_|refine Fork.by2 (fun h=>?_) fun h=>?_
 |(refine AW_region_AO ?_;simp [vl, NetD.cells])
 |(refine Split.by2 (fun h=>?_) (fun h=>?_)<;>(simp [h, vl, NetD.cells]))
 |(apply hK;clear hK K)|refine AWh (by assumption) ?_)
        -- locations
        refine AW_scan (r := x2) g 7 [1, 2] (goX (g2E n) x3) hx2 (by apply Weak.mk' <;> simp [vl, NetD.cells]) ?_ ?_
        · intro i p _ hlt hp hF
          rw [goX_cons] at hF
          have hpo := hg2 p (hp ▸ List.getElem_mem hlt)
          have hpl := hpo.1.1
          have hlt' : (i : Int) < g.length := by omega
          have w0 : IntKind.i64.wrap ((i : Int) + 1) = i + 1 := wrap_i64 (by omega) (by omega)
          obtain ⟨E, hE⟩ : ∃ E : List AtD → Int, E = fun l => if anyL (atB n) l = true then 122 else goX (g2E n) x3 (g.drop (i + 1)) := ⟨_, rfl⟩
          have hEc : ∀ a l, E (a :: l) = if atB n a = true then 122 else E l := fun a l => by subst hE; by_cases h : atB n a = true <;> simp [anyL_cons, h]
          have hEn : E p.locs = x2 := by
            have hg2e : g2E n p = if anyL (atB n) p.locs = true then 122 else 0 := rfl
            rw [hg2e] at hF
            subst hE; rw [← hF]
            show (if anyL (atB n) p.locs = true then 122 else goX (g2E n) x3 (g.drop (i + 1))) = _
            cases anyL (atB n) p.locs <;> simp
          have hE0 : E [] = goX (g2E n) x3 (g.drop (i + 1)) := by subst hE; rfl
          clear hF hE
          repeat' (first
 |refine AW_seq_k fun K hK=>?_|refine Step.by1 ?_|refine SBlock_exit_ne (by decide) ?_|refine cz rfl ?_|refine Fork.by2 (fun h=>?_) fun h=>?_
 |(refine AW_region_AO ?_;simp [vl, NetD.cells, PartD.cells, hlt, hlt', hp])
 |(refine Split.by2 (fun h=>?_) (fun h=>?_)<;>(simp [h, vl, NetD.cells, PartD.cells, hlt, hlt', hp]))
 |(apply hK;clear hK K)|refine AWh (by assumption) ?_)
          refine AW_scan (r := x2) p.locs 8 [1, 2, 7] E hEn (by apply Weak.mk' <;> simp [vl, NetD.cells]) ?_ ?_
          · intro k x _ hkt hx hG
            rw [hEc] at hG
            have hkt' : (k : Int) < p.locs.length := by omega
            have w1 : IntKind.i64.wrap ((k : Int) + 1) = k + 1 := wrap_i64 (by omega) (by omega)
            have ha : atB n x = decide (x.auto < 0 ∨ (n.autos.length : Int) ≤ x.auto ∨ x.loc < 0 ∨ ((n.autos.getD x.auto.toNat default).locs.length : Int) ≤ x.loc) := rfl
            by_cases q : 0 ≤ x.auto ∧ x.auto < n.autos.length
            · obtain ⟨k2, hk⟩ := Int.eq_ofNat_of_zero_le q.1
              have hkl : k2 < n.autos.length := by omega
              have hkl' : (k2 : Int) < n.autos.length := by omega
              obtain ⟨a, haa⟩ : ∃ a, n.autos[k2] = a := ⟨_, rfl⟩
              have hgg : n.autos.getD x.auto.toNat default = a := by rw [hk]; simp [List.getD, hkl, haa]
              rw [hgg] at ha
              have hk0 : ¬ (k2 : Int) < 0 := by omega
              have hk1 : ¬ (n.autos.length : Int) ≤ k2 := by omega
              rw [hk] at ha
              repeat' (first
 |refine AW_seq_k fun K hK=>?_|refine Step.by1 ?_|refine SBlock_exit_ne (by decide) ?_|refine cz rfl ?_|refine Fork.by2 (fun h=>?_) fun h=>?_
 |((first|refine AW_region_AO ?_|refine AW_region_APx (id:=18) 29 mixed (by decide) ?_);simp [vl, PartD.cells, NetD.cells, AtD.cells, AutoD.cells, hlt, hlt', hp, hkt, hkt', hx, w1, hk, hkl, hkl', haa, hk0, hk1])
 |(refine Split.by2 (fun h=>?_) (fun h=>?_)<;>(simp [h, vl, PartD.cells, NetD.cells, AtD.cells, AutoD.cells, hlt, hlt', hp, hkt, hkt', hx, w1, hk, hkl, hkl', haa, hk0, hk1]))
 |(apply hK;clear hK K)|refine AWh (by assumption) ?_)
              all_goals first
                | (rw [if_pos (by rw [ha]; simp; omega)] at hG
                   exact retq1 (conv_eq (by rw [← hG]; rfl) rfl))
                | (rw [if_neg (by rw [ha]; simp; omega)] at hG
                   refine ⟨hG, ?_⟩; apply Weak.mk' <;> simp [vl, NetD.cells])
                | trace_state
            · rw [if_pos (by rw [ha]; simp; omega)] at hG
              repeat' (first
 |refine AW_seq_k fun K hK=>?_|refine Step.by1 ?_|refine SBlock_exit_ne (by decide) ?_|refine cz rfl ?_|refine Fork.by2 (fun h=>?_) fun h=>?_
 |((first|refine AW_region_AO ?_|refine AW_region_APx (id:=18) 29 mixed (by decide) ?_);simp [vl, PartD.cells, NetD.cells, AtD.cells, hlt, hlt', hp, hkt, hkt', hx, w1])
 |(refine Split.by2 (fun h=>?_) (fun h=>?_)<;>(simp [h, vl, PartD.cells, NetD.cells, AtD.cells, hlt, hlt', hp, hkt, hkt', hx, w1]))
 |(apply hK;clear hK K)|refine AWh (by assumption) ?_)
              all_goals first
                | (exfalso; omega)
                | exact retq1 (conv_eq (by rw [← hG]; rfl) rfl)
                | trace_state
          · intro hG
            rw [hE0] at hG
            repeat' (first
 |refine AW_seq_k fun K hK=>?_|refine Step.by1 ?_|refine SBlock_exit_ne (by decide) ?_|refine cz rfl ?_|refine Fork.by2 (fun h=>?_) fun h=>?_
 |(refine AW_region_AO ?_;simp [vl, PartD.cells, NetD.cells, hlt, hlt', hp, w0])
 |(refine Split.by2 (fun h=>?_) (fun h=>?_)<;>(simp [h, vl, PartD.cells, NetD.cells, hlt, hlt', hp, w0]))
 |(apply hK;clear hK K)|refine AWh (by assumption) ?_)
            refine ⟨hG, ?_⟩; apply Weak.mk' <;> simp [vl, NetD.cells]
        · intro hF
          rw [goX_nil] at hF
          subst hF
          clear hx2
          repeat' (first
 |refine AW_seq_k fun K hK=>?_|refine Step.by1 ?_|refine SBlock_exit_ne (by decide) ?_|refine cz rfl ?_|refine Fork.by2 (fun h=>?_) fun h=>?_
 |(refine AW_region_AO ?_;simp [vl, NetD.cells])
 |(refine Split.by2 (fun h=>?_) (fun h=>?_)<;>(simp [h, vl, NetD.cells]))
 |(apply hK;clear hK K)|refine AWh (by assumption) ?_)
          -- guards, in two ways
          refine AW_loopL [1, 2, 10] (fun i : Nat => [(11, .int .i64 i)]) (fun _ => [.var n.cells, .row 30 0 0 true [[.int .i64 12], [.int .i64 7]]]) (fun i => i ≤ 2 ∧ ([x3, x4, x5] : List Int)[i]? = some x3) (fun i => 2 - i) 0 ⟨Nat.zero_le _, rfl⟩ (by apply Weak.mk' <;> simp [vl, NetD.cells]) (fun _ _ => rfl) ?_
          rintro i ⟨hi, hv⟩
          rcases i with _ | _ | _ | i
          · skip
            repeat' (first
 |refine AW_seq_k fun K hK=>?_|refine Step.by1 ?_|refine SBlock_exit_ne (by decide) ?_|refine cz rfl ?_|refine Fork.by2 (fun h=>?_) fun h=>?_
 |(refine AW_region_AO ?_;simp [vl, NetD.cells, wrap_i64];try (simp (disch:=omega) only [wrap_i64];try simp [vl, NetD.cells, wrap_i64]))
 |(refine Split.by2 (fun h=>?_) (fun h=>?_)<;>(simp [h, vl, NetD.cells, wrap_i64];try (simp (disch:=omega) only [wrap_i64];try simp [vl, NetD.cells, wrap_i64])))
 |(apply hK;clear hK K)|refine AWh (by assumption) ?_)
            refine AW_scan (r := x3) g 12 [1, 2, 10, 11] (goX (fun p => clkE n p.guards) x4) hx3 (by apply Weak.mk' <;> simp [vl, NetD.cells]) ?_ ?_
            · intro m p _ hlt hp hG
              rw [goX_cons] at hG
              have hpo := hg2 p (hp ▸ List.getElem_mem hlt)
              have hc := r_guards n p.guards 12 (by have := hpo.2.1.1; omega)
              have heq := clkE_eq n p.guards
              have hlt' : (m : Int) < g.length := by omega
              have w1 : IntKind.i64.wrap ((m : Int) + 1) = m + 1 := wrap_i64 (by omega) (by omega)
              simp only [NetD.cells, vl] at hc
              simp only [heq] at hG
              clear heq
              generalize anyL (wayG n 12) p.guards = kb at *
              cases kb
              · rw [if_neg (by simp)] at hG
                repeat' (first
 |refine AW_seq_k fun K hK=>?_|refine Step.by1 ?_|refine SBlock_exit_ne (by decide) ?_|refine cz rfl ?_|refine Fork.by2 (fun h=>?_) fun h=>?_
 |((first|refine AW_region_AO ?_|refine AW_region_APx (id:=27) 11 mixed (by decide) ?_|refine AP_call1 (f:=153) rfl rfl (hc) rfl rfl rfl ?_);simp [vl, NetD.cells, PartD.cells, hlt, hlt', hp, w1])
 |(refine Split.by2 (fun h=>?_) (fun h=>?_)<;>(simp [h, vl, NetD.cells, PartD.cells, hlt, hlt', hp, w1]))
 |(apply hK;clear hK K)|refine AWh (by assumption) ?_)
                refine ⟨hG, ?_⟩; apply Weak.mk' <;> simp [vl, NetD.cells]
              · rw [if_pos (by simp)] at hG
                repeat' (first
 |refine AW_seq_k fun K hK=>?_|refine Step.by1 ?_|refine SBlock_exit_ne (by decide) ?_|refine cz rfl ?_|refine Fork.by2 (fun h=>?_) fun h=>?_
 |((first|refine AW_region_AO ?_|refine AW_region_APx (id:=27) 11 mixed (by decide) ?_|refine AP_call1 (f:=153) rfl rfl (hc) rfl rfl rfl ?_);simp [vl, NetD.cells, PartD.cells, hlt, hlt', hp, w1])
 |(refine Split.by2 (fun h=>?_) (fun h=>?_)<;>(simp [h, vl, NetD.cells, PartD.cells, hlt, hlt', hp, w1]))
 |(apply hK;clear hK K)|refine AWh (by assumption) ?_)
                exact retq1 (conv_eq (by rw [← hG]; rfl) rfl)
            · intro hG
              rw [goX_nil] at hG
              repeat' (first
 |refine AW_seq_k fun K hK=>?_|refine Step.by1 ?_|refine SBlock_exit_ne (by decide) ?_|refine cz rfl ?_|refine Fork.by2 (fun h=>?_) fun h=>?_
 |(refine AW_region_AO ?_;simp [vl, NetD.cells, wrap_i64];try (simp (disch:=omega) only [wrap_i64];try simp [vl, NetD.cells, wrap_i64]))
 |(refine Split.by2 (fun h=>?_) (fun h=>?_)<;>(simp [h, vl, NetD.cells, wrap_i64];try (simp (disch:=omega) only [wrap_i64];try simp [vl, NetD.cells, wrap_i64])))
 |(apply hK;clear hK K)|refine AWh (by assumption) ?_)
              refine ⟨1, ⟨by omega, by rw [← hG]; rfl⟩, by omega, ?_⟩; apply Weak.mk' <;> simp [vl, NetD.cells]
          · have hv4 : x4 = x3 := by simpa using hv
            repeat' (first
 |refine AW_seq_k fun K hK=>?_|refine Step.by1 ?_|refine SBlock_exit_ne (by decide) ?_|refine cz rfl ?_|refine Fork.by2 (fun h=>?_) fun h=>?_
 |(refine AW_region_AO ?_;simp [vl, NetD.cells, wrap_i64];try (simp (disch:=omega) only [wrap_i64];try simp [vl, NetD.cells, wrap_i64]))
 |(refine Split.by2 (fun h=>?_) (fun h=>?_)<;>(simp [h, vl, NetD.cells, wrap_i64];try (simp (disch:=omega) only [wrap_i64];try simp [vl, NetD.cells, wrap_i64])))
 |(apply hK;clear hK K)|refine AWh (by assumption) ?_)
            refine AW_scan (r := x3) g 12 [1, 2, 10, 11] (goX (fun p => cmpE p.guards) x5) (by rw [hx4]; exact hv4) (by apply Weak.mk' <;> simp [vl, NetD.cells]) ?_ ?_
            · intro m p _ hlt hp hG
              rw [goX_cons] at hG
              have hpo := hg2 p (hp ▸ List.getElem_mem hlt)
              have hc := r_guards n p.guards 7 (by have := hpo.2.1.1; omega)
              have heq := cmpE_eq n p.guards
              have hlt' : (m : Int) < g.length := by omega
              have w1 : IntKind.i64.wrap ((m : Int) + 1) = m + 1 := wrap_i64 (by omega) (by omega)
              simp only [NetD.cells, vl] at hc
              simp only [heq] at hG
              clear heq
              generalize anyL (wayG n 7) p.guards = kb at *
              cases kb
              · rw [if_neg (by simp)] at hG
                repeat' (first
 |refine AW_seq_k fun K hK=>?_|refine Step.by1 ?_|refine SBlock_exit_ne (by decide) ?_|refine cz rfl ?_|refine Fork.by2 (fun h=>?_) fun h=>?_
 |((first|refine AW_region_AO ?_|refine AW_region_APx (id:=27) 11 mixed (by decide) ?_|refine AP_call1 (f:=153) rfl rfl (hc) rfl rfl rfl ?_);simp [vl, NetD.cells, PartD.cells, hlt, hlt', hp, w1])
 |(refine Split.by2 (fun h=>?_) (fun h=>?_)<;>(simp [h, vl, NetD.cells, PartD.cells, hlt, hlt', hp, w1]))
 |(apply hK;clear hK K)|refine AWh (by assumption) ?_)
                refine ⟨hG, ?_⟩; apply Weak.mk' <;> simp [vl, NetD.cells]
              · rw [if_pos (by simp)] at hG
                repeat' (first
 |refine AW_seq_k fun K hK=>?_|refine Step.by1 ?_|refine SBlock_exit_ne (by decide) ?_|refine cz rfl ?_|refine Fork.by2 (fun h=>?_) fun h=>?_
 |((first|refine AW_region_AO ?_|refine AW_region_APx (id:=27) 11 mixed (by decide) ?_|refine AP_call1 (f:=153) rfl rfl (hc) rfl rfl rfl ?_);simp [vl, NetD.cells, PartD.cells, hlt, hlt', hp, w1])
 |(refine Split.by2 (fun h=>?_) (fun h=>?_)<;>(simp [h, vl, NetD.cells, PartD.cells, hlt, hlt', hp, w1]))
 |(apply hK;clear hK K)|refine AWh (by assumption) ?_)
                exact retq1 (conv_eq (by rw [← hG]; rfl) rfl)
            · intro hG
              rw [goX_nil] at hG
              repeat' (first
 |refine AW_seq_k fun K hK=>?_|refine Step.by1 ?_|refine SBlock_exit_ne (by decide) ?_|refine cz rfl ?_|refine Fork.by2 (fun h=>?_) fun h=>?_
 |(refine AW_region_AO ?_;simp [vl, NetD.cells, wrap_i64];try (simp (disch:=omega) only [wrap_i64];try simp [vl, NetD.cells, wrap_i64]))
 |(refine Split.by2 (fun h=>?_) (fun h=>?_)<;>(simp [h, vl, NetD.cells, wrap_i64];try (simp (disch:=omega) only [wrap_i64];try simp [vl, NetD.cells, wrap_i64])))
 |(apply hK;clear hK K)|refine AWh (by assumption) ?_)
              refine ⟨2, ⟨by omega, by rw [← hG]; rfl⟩, by omega, ?_⟩; apply Weak.mk' <;> simp [vl, NetD.cells]
          · have hv5 : x5 = x3 := by simpa using hv
            repeat' (first
 |refine AW_seq_k fun K hK=>?_|refine Step.by1 ?_|refine SBlock_exit_ne (by decide) ?_|refine cz rfl ?_|refine Fork.by2 (fun h=>?_) fun h=>?_
 |(refine AW_region_AO ?_;simp [vl, NetD.cells])
 |(refine Split.by2 (fun h=>?_) (fun h=>?_)<;>(simp [h, vl, NetD.cells]))
 |(apply hK;clear hK K)|refine AWh (by assumption) ?_)
            refine AW_scan (r := x3) g 13 [1, 2] (goX (fun p => truthE n p.test) 0) (by rw [hx5]; exact hv5) (by apply Weak.mk' <;> simp [vl, NetD.cells]) ?_ ?_
            · intro m p _ hlt hp hG
              rw [goX_cons] at hG
              have hpo := hg2 p (hp ▸ List.getElem_mem hlt)
              have hc := r_testless n p.test hpo.2.2.1
              have heq : truthE n p.test = if truthBad n p.test = true then 121 else 0 := rfl
              have hlt' : (m : Int) < g.length := by omega
              have w1 : IntKind.i64.wrap ((m : Int) + 1) = m + 1 := wrap_i64 (by omega) (by omega)
              simp only [NetD.cells, vl] at hc
              simp only [heq] at hG
              clear heq
              generalize truthBad n p.test = kb at *
              cases kb
              · rw [if_neg (by simp)] at hG
                repeat' (first
 |refine AW_seq_k fun K hK=>?_|refine Step.by1 ?_|refine SBlock_exit_ne (by decide) ?_|refine cz rfl ?_|refine Fork.by2 (fun h=>?_) fun h=>?_
 |((first|refine AW_region_AO ?_|refine AW_region_APx (id:=32) 7 mixed (by decide) ?_|refine AP_call1 (f:=154) rfl rfl (hc) rfl rfl rfl ?_);simp [vl, NetD.cells, PartD.cells, hlt, hlt', hp, w1])
 |(refine Split.by2 (fun h=>?_) (fun h=>?_)<;>(simp [h, vl, NetD.cells, PartD.cells, hlt, hlt', hp, w1]))
 |(apply hK;clear hK K)|refine AWh (by assumption) ?_)
                refine ⟨hG, ?_⟩; apply Weak.mk' <;> simp [vl, NetD.cells]
              · rw [if_pos (by simp)] at hG
                repeat' (first
 |refine AW_seq_k fun K hK=>?_|refine Step.by1 ?_|refine SBlock_exit_ne (by decide) ?_|refine cz rfl ?_|refine Fork.by2 (fun h=>?_) fun h=>?_
 |((first|refine AW_region_AO ?_|refine AW_region_APx (id:=32) 7 mixed (by decide) ?_|refine AP_call1 (f:=154) rfl rfl (hc) rfl rfl rfl ?_);simp [vl, NetD.cells, PartD.cells, hlt, hlt', hp, w1])
 |(refine Split.by2 (fun h=>?_) (fun h=>?_)<;>(simp [h, vl, NetD.cells, PartD.cells, hlt, hlt', hp, w1]))
 |(apply hK;clear hK K)|refine AWh (by assumption) ?_)
                exact retq1 (conv_eq (by rw [← hG]; rfl) rfl)
            · intro hG
              rw [goX_nil] at hG
              repeat' (first
 |refine AW_seq_k fun K hK=>?_|refine Step.by1 ?_|refine SBlock_exit_ne (by decide) ?_|refine cz rfl ?_|refine Fork.by2 (fun h=>?_) fun h=>?_
 |(refine AW_region_AO ?_;simp [vl, NetD.cells])
 |(refine Split.by2 (fun h=>?_) (fun h=>?_)<;>(simp [h, vl, NetD.cells]))
 |(apply hK;clear hK K)|refine AWh (by assumption) ?_)
              exact retq1 (conv_eq (by rw [← hG]; rfl) rfl)
          · omega
  · rw [if_pos hz] at hr
    subst hr
    repeat' (first
 |refine AW_seq_k fun K hK=>?_|refine Step.by1 ?_|refine SBlock_exit_ne (by decide) ?_|refine cz rfl ?_|refine Fork.by2 (fun h=>?_) fun h=>?_
 |((first|refine AW_region_AO ?_|refine AS_call1 (f:=67) rfl rfl (h0) rfl rfl rfl ?_);simp [vl, NetD.cells, hz])
 |(refine Split.by2 (fun h=>?_) (fun h=>?_)<;>(simp [h, vl, NetD.cells, hz]))
 |(apply hK;clear hK K)|refine AWh (by assumption) ?_)
    exact retq1 (conv_eq rfl rfl)
theorem diagE_eq (l : List GuardD) : diagE l = if anyL (badG 120) l = true then 120 else 0 := by
  have : badG 120 = diagG := funext fun g => by simp [badG]
  rw [this]; rfl
theorem greatE_eq (l : List GuardD) : greatE l = if anyL (badG 13) l = true then 13 else 0 := by
  have : badG 13 = greatG := funext fun g => by simp [badG]
  rw [this]; rfl
set_option maxRecDepth 20000 in
set_option maxHeartbeats 16000000 in
theorem r_Goal (n : NetD) (hn : n.ok) (g : List PartD) (hg : okGoal g) : PC 20 [.agg n.cells, vl PartD.cells g] (.int .i64 (goalE n g)) := by
  have h0 := r_Net n hn
  have h1 := r_WholeGoal n hn g hg
  obtain ⟨hg1, hg2⟩ := hg
  obtain ⟨r, hr⟩ : ∃ r, goalE n g = r := ⟨_, rfl⟩
  rw [hr]
  unfold goalE at hr
  rw [firstE_cons, firstE_cons, goX_eq, goX_eq, firstE_nil] at hr
  generalize netE n = e0 at *
  generalize wholeGoalE n g = e9 at *
  simp only [vl, NetD.cells] at h0 h1
  refine PCall_body Tryz.func20 rfl (by decide) Tryz.ntmps20 (by simp) Tryz.results20 ?_
  by_cases hz : e0 = 0
  · rw [if_neg (by simp [hz])] at hr
    rw [hz] at h0
    by_cases hz9 : e9 = 0
    · rw [if_neg (by simp [hz9])] at hr
      rw [hz9] at h1
      obtain ⟨x4, hx4⟩ : ∃ x, goX (fun p => greatE p.guards) 0 g = x := ⟨_, rfl⟩
      rw [hx4] at hr
      repeat' (first
 |refine AW_seq_k fun K hK=>?_|refine Step.by1 ?_|refine SBlock_exit_ne (by decide) ?_|refine cz rfl ?_|refine Fork.by2 (fun h=>?_) fun h=>?_
 |((first|refine AW_region_AO ?_|refine AS_call1 (f:=16) rfl rfl (h0) rfl rfl rfl ?_|refine AS_call1 (f:=76) rfl rfl (h1) rfl rfl rfl ?_);simp [vl, NetD.cells])
 |(refine Split.by2 (fun h=>?_) (fun h=>?_)<;>(simp [h, vl, NetD.cells]))
 |(apply hK;clear hK K)|refine AWh (by assumption) ?_)
      refine AW_loopL [1, 6] (fun i : Nat => [(7, .int .i64 i)]) (fun _ => [.var n.cells, .row 30 0 0 true [[.int .i64 120], [.int .i64 13]]]) (fun i => i ≤ 2 ∧ ([r, x4, 0] : List Int)[i]? = some r) (fun i => 2 - i) 0 ⟨Nat.zero_le _, rfl⟩ (by apply Weak.mk' <;> simp [vl, NetD.cells]) (fun _ _ => rfl) ?_
      rintro i ⟨hi, hv⟩
      rcases i with _ | _ | _ | i
      · skip
        repeat' (first
 |refine AW_seq_k fun K hK=>?_|refine Step.by1 ?_|refine SBlock_exit_ne (by decide) ?_|refine cz rfl ?_|refine Fork.by2 (fun h=>?_) fun h=>?_
 |(refine AW_region_AO ?_;simp [vl, NetD.cells, wrap_i64];try (simp (disch:=omega) only [wrap_i64];try simp [vl, NetD.cells, wrap_i64]))
 |(refine Split.by2 (fun h=>?_) (fun h=>?_)<;>(simp [h, vl, NetD.cells, wrap_i64];try (simp (disch:=omega) only [wrap_i64];try simp [vl, NetD.cells, wrap_i64])))
 |(apply hK;clear hK K)|refine AWh (by assumption) ?_)
        refine AW_scan (r := r) g 8 [1, 6, 7] (goX (fun p => diagE p.guards) x4) hr (by apply Weak.mk' <;> simp [vl, NetD.cells]) ?_ ?_
        · intro m p _ hlt hp hG
          rw [goX_cons] at hG
          have hpo := hg2 p (hp ▸ List.getElem_mem hlt)
          have hc0 := r_bad p.guards [] 120 (by have := hpo.2.1.1; omega) (by simp)
          have hc := PCall.denil (args := [vl GuardD.cells p.guards, .nils, .int .i64 120]) hc0 rfl
          rw [show (anyL (badG 120) p.guards || anyL (badS 120) []) = anyL (badG 120) p.guards by rw [anyL_nil, Bool.or_false]] at hc
          clear hc0
          have heq := diagE_eq p.guards
          have hlt' : (m : Int) < g.length := by omega
          have w1 : IntKind.i64.wrap ((m : Int) + 1) = m + 1 := wrap_i64 (by omega) (by omega)
          simp only [vl] at hc
          simp only [heq] at hG
          clear heq
          generalize anyL (badG 120) p.guards = kb at *
          cases kb
          · rw [if_neg (by simp)] at hG
            repeat' (first
 |refine AW_seq_k fun K hK=>?_|refine Step.by1 ?_|refine SBlock_exit_ne (by decide) ?_|refine cz rfl ?_|refine Fork.by2 (fun h=>?_) fun h=>?_
 |((first|refine AW_region_AO ?_|refine AW_region_APx (id:=13) 10 mixed (by decide) ?_|refine AP_call1 (f:=77) rfl rfl (hc) rfl rfl rfl ?_);simp [vl, NetD.cells, PartD.cells, hlt, hlt', hp, w1])
 |(refine Split.by2 (fun h=>?_) (fun h=>?_)<;>(simp [h, vl, NetD.cells, PartD.cells, hlt, hlt', hp, w1]))
 |(apply hK;clear hK K)|refine AWh (by assumption) ?_)
            refine ⟨hG, ?_⟩; apply Weak.mk' <;> simp [vl, NetD.cells]
          · rw [if_pos (by simp)] at hG
            repeat' (first
 |refine AW_seq_k fun K hK=>?_|refine Step.by1 ?_|refine SBlock_exit_ne (by decide) ?_|refine cz rfl ?_|refine Fork.by2 (fun h=>?_) fun h=>?_
 |((first|refine AW_region_AO ?_|refine AW_region_APx (id:=13) 10 mixed (by decide) ?_|refine AP_call1 (f:=77) rfl rfl (hc) rfl rfl rfl ?_);simp [vl, NetD.cells, PartD.cells, hlt, hlt', hp, w1])
 |(refine Split.by2 (fun h=>?_) (fun h=>?_)<;>(simp [h, vl, NetD.cells, PartD.cells, hlt, hlt', hp, w1]))
 |(apply hK;clear hK K)|refine AWh (by assumption) ?_)
            exact retq1 (conv_eq (by rw [← hG]; rfl) rfl)
        · intro hG
          rw [goX_nil] at hG
          repeat' (first
 |refine AW_seq_k fun K hK=>?_|refine Step.by1 ?_|refine SBlock_exit_ne (by decide) ?_|refine cz rfl ?_|refine Fork.by2 (fun h=>?_) fun h=>?_
 |(refine AW_region_AO ?_;simp [vl, NetD.cells, wrap_i64];try (simp (disch:=omega) only [wrap_i64];try simp [vl, NetD.cells, wrap_i64]))
 |(refine Split.by2 (fun h=>?_) (fun h=>?_)<;>(simp [h, vl, NetD.cells, wrap_i64];try (simp (disch:=omega) only [wrap_i64];try simp [vl, NetD.cells, wrap_i64])))
 |(apply hK;clear hK K)|refine AWh (by assumption) ?_)
          refine ⟨1, ⟨by omega, by rw [← hG]; rfl⟩, by omega, ?_⟩; apply Weak.mk' <;> simp [vl, NetD.cells]
      · have hv4 : x4 = r := by simpa using hv
        repeat' (first
 |refine AW_seq_k fun K hK=>?_|refine Step.by1 ?_|refine SBlock_exit_ne (by decide) ?_|refine cz rfl ?_|refine Fork.by2 (fun h=>?_) fun h=>?_
 |(refine AW_region_AO ?_;simp [vl, NetD.cells, wrap_i64];try (simp (disch:=omega) only [wrap_i64];try simp [vl, NetD.cells, wrap_i64]))
 |(refine Split.by2 (fun h=>?_) (fun h=>?_)<;>(simp [h, vl, NetD.cells, wrap_i64];try (simp (disch:=omega) only [wrap_i64];try simp [vl, NetD.cells, wrap_i64])))
 |(apply hK;clear hK K)|refine AWh (by assumption) ?_)
        refine AW_scan (r := r) g 8 [1, 6, 7] (goX (fun p => greatE p.guards) 0) (by rw [hx4]; exact hv4) (by apply Weak.mk' <;> simp [vl, NetD.cells]) ?_ ?_
        · intro m p _ hlt hp hG
          rw [goX_cons] at hG
          have hpo := hg2 p (hp ▸ List.getElem_mem hlt)
          have hc0 := r_bad p.guards [] 13 (by have := hpo.2.1.1; omega) (by simp)
          have hc := PCall.denil (args := [vl GuardD.cells p.guards, .nils, .int .i64 13]) hc0 rfl
          rw [show (anyL (badG 13) p.guards || anyL (badS 13) []) = anyL (badG 13) p.guards by rw [anyL_nil, Bool.or_false]] at hc
          clear hc0
          have heq := greatE_eq p.guards
          have hlt' : (m : Int) < g.length := by omega
          have w1 : IntKind.i64.wrap ((m : Int) + 1) = m + 1 := wrap_i64 (by omega) (by omega)
          simp only [vl] at hc
          simp only [heq] at hG
          clear heq
          generalize anyL (badG 13) p.guards = kb at *
          cases kb
          · rw [if_neg (by simp)] at hG
            repeat' (first
 |refine AW_seq_k fun K hK=>?_|refine Step.by1 ?_|refine SBlock_exit_ne (by decide) ?_|refine cz rfl ?_|refine Fork.by2 (fun h=>?_) fun h=>?_
 |((first|refine AW_region_AO ?_|refine AW_region_APx (id:=13) 10 mixed (by decide) ?_|refine AP_call1 (f:=77) rfl rfl (hc) rfl rfl rfl ?_);simp [vl, NetD.cells, PartD.cells, hlt, hlt', hp, w1])
 |(refine Split.by2 (fun h=>?_) (fun h=>?_)<;>(simp [h, vl, NetD.cells, PartD.cells, hlt, hlt', hp, w1]))
 |(apply hK;clear hK K)|refine AWh (by assumption) ?_)
            refine ⟨hG, ?_⟩; apply Weak.mk' <;> simp [vl, NetD.cells]
          · rw [if_pos (by simp)] at hG
            repeat' (first
 |refine AW_seq_k fun K hK=>?_|refine Step.by1 ?_|refine SBlock_exit_ne (by decide) ?_|refine cz rfl ?_|refine Fork.by2 (fun h=>?_) fun h=>?_
 |((first|refine AW_region_AO ?_|refine AW_region_APx (id:=13) 10 mixed (by decide) ?_|refine AP_call1 (f:=77) rfl rfl (hc) rfl rfl rfl ?_);simp [vl, NetD.cells, PartD.cells, hlt, hlt', hp, w1])
 |(refine Split.by2 (fun h=>?_) (fun h=>?_)<;>(simp [h, vl, NetD.cells, PartD.cells, hlt, hlt', hp, w1]))
 |(apply hK;clear hK K)|refine AWh (by assumption) ?_)
            exact retq1 (conv_eq (by rw [← hG]; rfl) rfl)
        · intro hG
          rw [goX_nil] at hG
          repeat' (first
 |refine AW_seq_k fun K hK=>?_|refine Step.by1 ?_|refine SBlock_exit_ne (by decide) ?_|refine cz rfl ?_|refine Fork.by2 (fun h=>?_) fun h=>?_
 |(refine AW_region_AO ?_;simp [vl, NetD.cells, wrap_i64];try (simp (disch:=omega) only [wrap_i64];try simp [vl, NetD.cells, wrap_i64]))
 |(refine Split.by2 (fun h=>?_) (fun h=>?_)<;>(simp [h, vl, NetD.cells, wrap_i64];try (simp (disch:=omega) only [wrap_i64];try simp [vl, NetD.cells, wrap_i64])))
 |(apply hK;clear hK K)|refine AWh (by assumption) ?_)
          refine ⟨2, ⟨by omega, by rw [← hG]; rfl⟩, by omega, ?_⟩; apply Weak.mk' <;> simp [vl, NetD.cells]
      · have hv5 : 0 = r := by simpa using hv
        repeat' (first
 |refine AW_seq_k fun K hK=>?_|refine Step.by1 ?_|refine SBlock_exit_ne (by decide) ?_|refine cz rfl ?_|refine Fork.by2 (fun h=>?_) fun h=>?_
 |(refine AW_region_AO ?_;simp [vl, NetD.cells])
 |(refine Split.by2 (fun h=>?_) (fun h=>?_)<;>(simp [h, vl, NetD.cells]))
 |(apply hK;clear hK K)|refine AWh (by assumption) ?_)
        exact retq1 (conv_eq (by rw [← hv5]; rfl) rfl)
      · omega
    · rw [if_pos hz9] at hr
      subst hr
      repeat' (first
 |refine AW_seq_k fun K hK=>?_|refine Step.by1 ?_|refine SBlock_exit_ne (by decide) ?_|refine cz rfl ?_|refine Fork.by2 (fun h=>?_) fun h=>?_
 |((first|refine AW_region_AO ?_|refine AS_call1 (f:=16) rfl rfl (h0) rfl rfl rfl ?_|refine AS_call1 (f:=76) rfl rfl (h1) rfl rfl rfl ?_);simp [vl, NetD.cells, hz9])
 |(refine Split.by2 (fun h=>?_) (fun h=>?_)<;>(simp [h, vl, NetD.cells, hz9]))
 |(apply hK;clear hK K)|refine AWh (by assumption) ?_)
      exact retq1 (conv_eq rfl rfl)
  · rw [if_pos hz] at hr
    subst hr
    repeat' (first
 |refine AW_seq_k fun K hK=>?_|refine Step.by1 ?_|refine SBlock_exit_ne (by decide) ?_|refine cz rfl ?_|refine Fork.by2 (fun h=>?_) fun h=>?_
 |((first|refine AW_region_AO ?_|refine AS_call1 (f:=16) rfl rfl (h0) rfl rfl rfl ?_);simp [vl, NetD.cells, hz])
 |(refine Split.by2 (fun h=>?_) (fun h=>?_)<;>(simp [h, vl, NetD.cells, hz]))
 |(apply hK;clear hK K)|refine AWh (by assumption) ?_)
    exact retq1 (conv_eq rfl rfl)
end Go.Proofs.YtgmlimipejcpgaaGreatDoor
end

section
set_option linter.unusedVariables false
set_option linter.unusedSimpArgs false
namespace Go.Proofs.YtgmlimipejcpgaaGreatDoor
open Go Go.AM Fx
/-! The reference's numbers, whole. -/
theorem raise2_append {l m : List GuardD} {s : List Int × List Int} : raise2 (l ++ m) s = raise2 m (raise2 l s) := by simp only [raise2, raiseL_append]
theorem raise2_len {l : List GuardD} {s : List Int × List Int} : (raise2 l s).1.length = s.1.length ∧ (raise2 l s).2.length = s.2.length := ⟨raiseL_len, raiseL_len⟩
def r2Ls (l : List LocD) (s : List Int × List Int) : List Int × List Int := raise2 (l.flatMap (·.inv)) s
def r2Es (l : List EdgeD) (s : List Int × List Int) : List Int × List Int := raise2 (l.flatMap (·.guards)) s
def r2As (l : List AutoD) (s : List Int × List Int) : List Int × List Int := raise2 (l.flatMap guardsA) s
def r2Ps (l : List PartD) (s : List Int × List Int) : List Int × List Int := raise2 (l.flatMap (·.guards)) s
theorem r2Ls_nil {s : List Int × List Int} : r2Ls [] s = s := rfl
theorem r2Es_nil {s : List Int × List Int} : r2Es [] s = s := rfl
theorem r2As_nil {s : List Int × List Int} : r2As [] s = s := rfl
theorem r2Ps_nil {s : List Int × List Int} : r2Ps [] s = s := rfl
theorem r2Ls_cons {x : LocD} {l : List LocD} {s : List Int × List Int} : r2Ls (x :: l) s = r2Ls l (raise2 x.inv s) := by simp only [r2Ls, List.flatMap_cons, raise2_append]
theorem r2Es_cons {x : EdgeD} {l : List EdgeD} {s : List Int × List Int} : r2Es (x :: l) s = r2Es l (raise2 x.guards s) := by simp only [r2Es, List.flatMap_cons, raise2_append]
theorem r2Ps_cons {x : PartD} {l : List PartD} {s : List Int × List Int} : r2Ps (x :: l) s = r2Ps l (raise2 x.guards s) := by simp only [r2Ps, List.flatMap_cons, raise2_append]
theorem r2As_cons {a : AutoD} {l : List AutoD} {s : List Int × List Int} : r2As (a :: l) s = r2As l (r2Es a.edges (r2Ls a.locs s)) := by simp only [r2As, r2Es, r2Ls, List.flatMap_cons, raise2_append, guardsA]
def numR (n : NetD) : List (List PartD) → List Int × List Int → Option (List Int × List Int)
  | [], s => some s
  | g :: r, s => if goalE n g ≠ 0 then none else numR n r (r2Ps g s)
theorem numR_nil {n : NetD} {s : List Int × List Int} : numR n [] s = some s := rfl
theorem numR_cons {n : NetD} {g : List PartD} {r : List (List PartD)} {s : List Int × List Int} : numR n (g :: r) s = if goalE n g ≠ 0 then none else numR n r (r2Ps g s) := rfl
def numbR (n : NetD) (gs : List (List PartD)) : Option (List Int × List Int) :=
  if netE n ≠ 0 then none else numR n gs (r2As n.autos (List.replicate n.clocks.length (-1), List.replicate n.clocks.length (-1)))
def refV : Option (List Int × List Int) → V
  | none => .tup [.nils, .nils, .bool false]
  | some s => .tup [.own 3 (s.1.map fun k => [V.int .i64 k]), .own 3 (s.2.map fun k => [V.int .i64 k]), .bool true]
theorem refBlk_F {v : V} (h : v.isF = true) : v.refBlk = none := by cases v <;> first | rfl | (simp [V.isF] at h)
theorem conv_own2b {h : List B} {b c g g' m m' : Nat} {T T' : TypeId} {xs ys : List (List V)} {v : V} (hb : h[b]? = some (.row T g 0 true xs)) (hc : h[c]? = some (.row T' g' 0 true ys)) (hm : m = xs.length) (hm' : m' = ys.length) (hne : b ≠ c) (hv : v.isF = true) :
    Conv h (.tup [.ref b g 0 m, .ref c g' 0 m', v]) (.tup [.own T xs, .own T' ys, v]) := by
  subst hm; subst hm'
  refine .inr (.inr ⟨_, _, rfl, rfl, rfl, fun i u s hu hs => ?_, fun i j u u' q hu hu' e e' => ?_⟩)
  · rcases i with _ | _ | _ | i
    · cases hu; cases hs; exact .inr ⟨b, g, T, xs, rfl, hb, rfl⟩
    · cases hu; cases hs; exact .inr ⟨c, g', T', ys, rfl, hc, rfl⟩
    · cases hu; cases hs; exact .inl ⟨hv, rfl⟩
    · simp at hu
  · have hn := refBlk_F hv
    rcases i with _ | _ | _ | i <;> rcases j with _ | _ | _ | j <;> simp at hu hu' <;> subst hu <;> subst hu' <;> simp_all [V.refBlk]
set_option maxRecDepth 20000 in
set_option maxHeartbeats 16000000 in
theorem r_nums (n : NetD) (hn : n.ok) (gs : List (List PartD)) (hgl : gs.length ≤ 1048576) (hgs : ∀ g ∈ gs, okGoal g) : PC 83 [.agg n.cells, gsV gs] (refV (numbR n gs)) := by
  have hN := r_Net n hn
  have hcl : n.clocks.length ≤ 1048576 := hn.1.1
  have h0 := r_None n hcl
  obtain ⟨r, hr⟩ : ∃ r, numbR n gs = r := ⟨_, rfl⟩
  rw [hr]
  unfold numbR at hr
  simp only [vl, NetD.cells] at hN h0
  refine PCall_body Tryz.func83 rfl (by decide) Tryz.ntmps83 (by simp) Tryz.results83 ?_
  by_cases hz : netE n = 0
  · rw [if_neg (by simp [hz])] at hr
    rw [hz] at hN
    have hgd := whole_guards (netE_whole hz)
    have hgdl : ∀ a ∈ n.autos, ∀ x ∈ a.locs, ∀ g ∈ x.inv, okG n.clocks.length g := fun a ha x hx g h => hgd g (by
      unfold guardsL guardsA
      simp only [List.mem_flatMap, List.mem_append]
      exact ⟨a, ha, .inl ⟨x, hx, h⟩⟩)
    have hgde : ∀ a ∈ n.autos, ∀ x ∈ a.edges, ∀ g ∈ x.guards, okG n.clocks.length g := fun a ha x hx g h => hgd g (by
      unfold guardsL guardsA
      simp only [List.mem_flatMap, List.mem_append]
      exact ⟨a, ha, .inr ⟨x, hx, h⟩⟩)
    clear hgd
    obtain ⟨_, _, _, hal, hao⟩ := hn
    obtain ⟨s1, hs1⟩ : ∃ s1, r2As n.autos (List.replicate n.clocks.length (-1), List.replicate n.clocks.length (-1)) = s1 := ⟨_, rfl⟩
    rw [hs1] at hr
    repeat' (first
 |refine AW_seq_k fun K hK=>?_|refine Step.by1 ?_|refine SBlock_exit_ne (by decide) ?_|refine cz rfl ?_|refine Fork.by2 (fun h=>?_) fun h=>?_
 |((first|refine AW_region_AO ?_|refine AS_call1 (f:=16) rfl rfl (hN) rfl rfl rfl ?_|refine AS_callO (f:=160) rfl rfl (h0) rfl rfl ?_);simp [gsV, vl, NetD.cells])
 |(refine Split.by2 (fun h=>?_) (fun h=>?_)<;>(simp [h, gsV, vl, NetD.cells]))
 |(apply hK;clear hK K)|refine AWh (by assumption) ?_)
    refine AW_range (r := s1) n.autos 9 [1, 2, 7, 8] (fun s : List Int × List Int => []) (fun s => H3 n s.1 s.2) (fun i s => s.1.length = n.clocks.length ∧ s.2.length = n.clocks.length) r2As (List.replicate n.clocks.length (-1), List.replicate n.clocks.length (-1))
      hs1 (by simp) (by apply Weak.mk' <;> simp [vl, NetD.cells, H3]) (fun _ _ _ => rfl) ?_ ?_
    · rintro i ⟨a1, b1⟩ x _ hlt hx ⟨ha, hb⟩ hF
      simp only at ha hb
      rw [r2As_cons] at hF
      have hxm : x ∈ n.autos := hx ▸ List.getElem_mem hlt
      obtain ⟨_, hxl, hxe⟩ := hao x hxm
      have hlt' : (i : Int) < n.autos.length := by omega
      have w1 : IntKind.i64.wrap ((i : Int) + 1) = i + 1 := wrap_i64 (by omega) (by omega)
      obtain ⟨s2, hs2⟩ : ∃ s2, r2Ls x.locs (a1, b1) = s2 := ⟨_, rfl⟩
      rw [hs2] at hF
      repeat' (first
 |refine AW_seq_k fun K hK=>?_|refine Step.by1 ?_|refine SBlock_exit_ne (by decide) ?_|refine cz rfl ?_|refine Fork.by2 (fun h=>?_) fun h=>?_
 |(refine AW_region_AO ?_;simp [gsV, vl, NetD.cells, AutoD.cells, H3, hlt, hlt', hx])
 |(refine Split.by2 (fun h=>?_) (fun h=>?_)<;>(simp [h, gsV, vl, NetD.cells, AutoD.cells, H3, hlt, hlt', hx]))
 |(apply hK;clear hK K)|refine AWh (by assumption) ?_)
      refine AW_range (r := s2) x.locs 10 [1, 2, 7, 8, 9] (fun s : List Int × List Int => []) (fun s => H3 n s.1 s.2) (fun i s => s.1.length = n.clocks.length ∧ s.2.length = n.clocks.length) r2Ls (a1, b1)
        hs2 ⟨ha, hb⟩ (by apply Weak.mk' <;> simp [vl, NetD.cells, H3]) (fun _ _ _ => rfl) ?_ ?_
      · rintro k ⟨a2, b2⟩ y _ hkt hy ⟨ha2, hb2⟩ hG
        simp only at ha2 hb2
        rw [r2Ls_cons] at hG
        have hym : y ∈ x.locs := hy ▸ List.getElem_mem hkt
        have hR := r_Raise n y.inv a2 b2 (hxl.2 y hym).2.2.1 ha2 hb2 hcl (hgdl x hxm y hym)
        have hl1 : (raiseL lowB y.inv a2).length = n.clocks.length := by rw [raiseL_len, ha2]
        have hl2 : (raiseL upB y.inv b2).length = n.clocks.length := by rw [raiseL_len, hb2]
        unfold raise2 at hG
        simp only at hG
        generalize raiseL lowB y.inv a2 = a3 at *
        generalize raiseL upB y.inv b2 = b3 at *
        have hkt' : (k : Int) < x.locs.length := by omega
        have w2 : IntKind.i64.wrap ((k : Int) + 1) = k + 1 := wrap_i64 (by omega) (by omega)
        repeat' (first
 |refine AW_seq_k fun K hK=>?_|refine Step.by1 ?_|refine SBlock_exit_ne (by decide) ?_|refine cz rfl ?_|refine Fork.by2 (fun h=>?_) fun h=>?_
 |(refine AW_region_AO ?_;simp [gsV, vl, NetD.cells, AutoD.cells, LocD.cells, H3, hlt, hlt', hx, hkt, hkt', hy, w2])
 |(refine Split.by2 (fun h=>?_) (fun h=>?_)<;>(simp [h, gsV, vl, NetD.cells, AutoD.cells, LocD.cells, H3, hlt, hlt', hx, hkt, hkt', hy, w2]))
 |(refine AS_callG (f:=161) rfl rfl (hR.imp (by simp [vl]) (by simp [H3, NetD.cells, vl])) rfl (fun v h' hq=>?_);obtain ⟨rfl,rfl⟩:=hq;simp [gsV, vl, NetD.cells, AutoD.cells, LocD.cells, H3, hlt, hlt', hx, hkt, hkt', hy, w2])
 |(apply hK;clear hK K)|refine AWh (by assumption) ?_)
        refine ⟨a3, b3, hG, ⟨hl1, hl2⟩, ?_⟩
        apply Weak.mk' <;> simp [vl, NetD.cells, H3]
      · rintro ⟨a2, b2⟩ ⟨ha2, hb2⟩ hG
        simp only at ha2 hb2
        rw [r2Ls_nil] at hG
        subst hG
        obtain ⟨s3, hs3⟩ : ∃ s3, r2Es x.edges (a2, b2) = s3 := ⟨_, rfl⟩
        rw [hs3] at hF
        clear hs2
        repeat' (first
 |refine AW_seq_k fun K hK=>?_|refine Step.by1 ?_|refine SBlock_exit_ne (by decide) ?_|refine cz rfl ?_|refine Fork.by2 (fun h=>?_) fun h=>?_
 |(refine AW_region_AO ?_;simp [gsV, vl, NetD.cells, AutoD.cells, H3, hlt, hlt', hx])
 |(refine Split.by2 (fun h=>?_) (fun h=>?_)<;>(simp [h, gsV, vl, NetD.cells, AutoD.cells, H3, hlt, hlt', hx]))
 |(apply hK;clear hK K)|refine AWh (by assumption) ?_)
        refine AW_range (r := s3) x.edges 11 [1, 2, 7, 8, 9] (fun s : List Int × List Int => []) (fun s => H3 n s.1 s.2) (fun i s => s.1.length = n.clocks.length ∧ s.2.length = n.clocks.length) r2Es (a2, b2)
          hs3 ⟨ha2, hb2⟩ (by apply Weak.mk' <;> simp [vl, NetD.cells, H3]) (fun _ _ _ => rfl) ?_ ?_
        · rintro k ⟨a4, b4⟩ y _ hkt hy ⟨ha4, hb4⟩ hG
          simp only at ha4 hb4
          rw [r2Es_cons] at hG
          have hym : y ∈ x.edges := hy ▸ List.getElem_mem hkt
          have hR := r_Raise n y.guards a4 b4 (hxe.2 y hym).2.2.1.1 ha4 hb4 hcl (hgde x hxm y hym)
          have hl1 : (raiseL lowB y.guards a4).length = n.clocks.length := by rw [raiseL_len, ha4]
          have hl2 : (raiseL upB y.guards b4).length = n.clocks.length := by rw [raiseL_len, hb4]
          unfold raise2 at hG
          simp only at hG
          generalize raiseL lowB y.guards a4 = a3 at *
          generalize raiseL upB y.guards b4 = b3 at *
          have hkt' : (k : Int) < x.edges.length := by omega
          have w2 : IntKind.i64.wrap ((k : Int) + 1) = k + 1 := wrap_i64 (by omega) (by omega)
          repeat' (first
 |refine AW_seq_k fun K hK=>?_|refine Step.by1 ?_|refine SBlock_exit_ne (by decide) ?_|refine cz rfl ?_|refine Fork.by2 (fun h=>?_) fun h=>?_
 |(refine AW_region_AO ?_;simp [gsV, vl, NetD.cells, AutoD.cells, EdgeD.cells, H3, hlt, hlt', hx, hkt, hkt', hy, w2])
 |(refine Split.by2 (fun h=>?_) (fun h=>?_)<;>(simp [h, gsV, vl, NetD.cells, AutoD.cells, EdgeD.cells, H3, hlt, hlt', hx, hkt, hkt', hy, w2]))
 |(refine AS_callG (f:=161) rfl rfl (hR.imp (by simp [vl]) (by simp [H3, NetD.cells, vl])) rfl (fun v h' hq=>?_);obtain ⟨rfl,rfl⟩:=hq;simp [gsV, vl, NetD.cells, AutoD.cells, EdgeD.cells, H3, hlt, hlt', hx, hkt, hkt', hy, w2])
 |(apply hK;clear hK K)|refine AWh (by assumption) ?_)
          refine ⟨a3, b3, hG, ⟨hl1, hl2⟩, ?_⟩
          apply Weak.mk' <;> simp [vl, NetD.cells, H3]
        · rintro ⟨a4, b4⟩ ⟨ha4, hb4⟩ hG
          simp only at ha4 hb4
          rw [r2Es_nil] at hG
          subst hG
          repeat' (first
 |refine AW_seq_k fun K hK=>?_|refine Step.by1 ?_|refine SBlock_exit_ne (by decide) ?_|refine cz rfl ?_|refine Fork.by2 (fun h=>?_) fun h=>?_
 |(refine AW_region_AO ?_;simp [gsV, vl, NetD.cells, AutoD.cells, H3, hlt, hlt', hx, w1])
 |(refine Split.by2 (fun h=>?_) (fun h=>?_)<;>(simp [h, gsV, vl, NetD.cells, AutoD.cells, H3, hlt, hlt', hx, w1]))
 |(apply hK;clear hK K)|refine AWh (by assumption) ?_)
          refine ⟨a4, b4, hF, ⟨ha4, hb4⟩, ?_⟩
          apply Weak.mk' <;> simp [vl, NetD.cells, H3]
    · rintro ⟨a1, b1⟩ ⟨ha, hb⟩ hF
      simp only at ha hb
      rw [r2As_nil] at hF
      subst hF
      clear hs1
      repeat' (first
 |refine AW_seq_k fun K hK=>?_|refine Step.by1 ?_|refine SBlock_exit_ne (by decide) ?_|refine cz rfl ?_|refine Fork.by2 (fun h=>?_) fun h=>?_
 |(refine AW_region_AO ?_;simp [gsV, vl, NetD.cells, H3])
 |(refine Split.by2 (fun h=>?_) (fun h=>?_)<;>(simp [h, gsV, vl, NetD.cells, H3]))
 |(apply hK;clear hK K)|refine AWh (by assumption) ?_)
      refine AW_range (r := r) gs 12 [1, 2, 7, 8] (fun s : List Int × List Int => []) (fun s => H3 n s.1 s.2) (fun i s => s.1.length = n.clocks.length ∧ s.2.length = n.clocks.length) (numR n) (a1, b1)
        hr ⟨ha, hb⟩ (by apply Weak.mk' <;> simp [vl, NetD.cells, H3]) (fun _ _ _ => rfl) ?_ ?_
      · rintro k ⟨a2, b2⟩ g _ hkt hg ⟨ha2, hb2⟩ hF
        simp only at ha2 hb2
        rw [numR_cons] at hF
        have hgo := hgs g (hg ▸ List.getElem_mem hkt)
        have hc := r_Goal n ⟨by assumption, by assumption, by assumption, hal, hao⟩ g hgo
        obtain ⟨hg1, hg2⟩ := hgo
        have hgg := goal_guards (n := n) (g := g)
        have hkt' : (k : Int) < gs.length := by omega
        have w1 : IntKind.i64.wrap ((k : Int) + 1) = k + 1 := wrap_i64 (by omega) (by omega)
        simp only [vl, NetD.cells] at hc
        generalize goalE n g = ge at *
        by_cases hge : ge = 0
        · rw [if_neg (by simp [hge])] at hF
          rw [hge] at hc
          have hgg := hgg hge
          obtain ⟨s2, hs2⟩ : ∃ s2, r2Ps g (a2, b2) = s2 := ⟨_, rfl⟩
          rw [hs2] at hF
          repeat' (first
 |refine AW_seq_k fun K hK=>?_|refine Step.by1 ?_|refine SBlock_exit_ne (by decide) ?_|refine cz rfl ?_|refine Fork.by2 (fun h=>?_) fun h=>?_
 |((first|refine AW_region_AO ?_|refine AW_region_APx (id:=19) 7 mixed (by decide) ?_|refine AP_call1 (f:=20) rfl rfl (hc) rfl rfl rfl ?_);simp [gsV, vl, NetD.cells, H3, hkt, hkt', hg])
 |(refine Split.by2 (fun h=>?_) (fun h=>?_)<;>(simp [h, gsV, vl, NetD.cells, H3, hkt, hkt', hg]))
 |(apply hK;clear hK K)|refine AWh (by assumption) ?_)
          refine AW_range (r := s2) g 13 [1, 2, 7, 8, 12] (fun s : List Int × List Int => []) (fun s => H3 n s.1 s.2) (fun i s => s.1.length = n.clocks.length ∧ s.2.length = n.clocks.length) r2Ps (a2, b2)
            hs2 ⟨ha2, hb2⟩ (by apply Weak.mk' <;> simp [vl, NetD.cells, H3]) (fun _ _ _ => rfl) ?_ ?_
          · rintro m ⟨a4, b4⟩ y _ hmt hy ⟨ha4, hb4⟩ hG
            simp only at ha4 hb4
            rw [r2Ps_cons] at hG
            have hym : y ∈ g := hy ▸ List.getElem_mem hmt
            have hR := r_Raise n y.guards a4 b4 (hg2 y hym).2.1.1 ha4 hb4 hcl (hgg y hym)
            have hl1 : (raiseL lowB y.guards a4).length = n.clocks.length := by rw [raiseL_len, ha4]
            have hl2 : (raiseL upB y.guards b4).length = n.clocks.length := by rw [raiseL_len, hb4]
            unfold raise2 at hG
            simp only at hG
            generalize raiseL lowB y.guards a4 = a3 at *
            generalize raiseL upB y.guards b4 = b3 at *
            have hmt' : (m : Int) < g.length := by omega
            have w2 : IntKind.i64.wrap ((m : Int) + 1) = m + 1 := wrap_i64 (by omega) (by omega)
            repeat' (first
 |refine AW_seq_k fun K hK=>?_|refine Step.by1 ?_|refine SBlock_exit_ne (by decide) ?_|refine cz rfl ?_|refine Fork.by2 (fun h=>?_) fun h=>?_
 |(refine AW_region_AO ?_;simp [gsV, vl, NetD.cells, PartD.cells, H3, hkt, hkt', hg, hmt, hmt', hy, w2])
 |(refine Split.by2 (fun h=>?_) (fun h=>?_)<;>(simp [h, gsV, vl, NetD.cells, PartD.cells, H3, hkt, hkt', hg, hmt, hmt', hy, w2]))
 |(refine AS_callG (f:=161) rfl rfl (hR.imp (by simp [vl]) (by simp [H3, NetD.cells, vl])) rfl (fun v h' hq=>?_);obtain ⟨rfl,rfl⟩:=hq;simp [gsV, vl, NetD.cells, PartD.cells, H3, hkt, hkt', hg, hmt, hmt', hy, w2])
 |(apply hK;clear hK K)|refine AWh (by assumption) ?_)
            refine ⟨a3, b3, hG, ⟨hl1, hl2⟩, ?_⟩
            apply Weak.mk' <;> simp [vl, NetD.cells, H3]
          · rintro ⟨a4, b4⟩ ⟨ha4, hb4⟩ hG
            simp only at ha4 hb4
            rw [r2Ps_nil] at hG
            subst hG
            repeat' (first
 |refine AW_seq_k fun K hK=>?_|refine Step.by1 ?_|refine SBlock_exit_ne (by decide) ?_|refine cz rfl ?_|refine Fork.by2 (fun h=>?_) fun h=>?_
 |(refine AW_region_AO ?_;simp [gsV, vl, NetD.cells, H3, hkt, hkt', hg, w1])
 |(refine Split.by2 (fun h=>?_) (fun h=>?_)<;>(simp [h, gsV, vl, NetD.cells, H3, hkt, hkt', hg, w1]))
 |(apply hK;clear hK K)|refine AWh (by assumption) ?_)
            refine ⟨a4, b4, hF, ⟨ha4, hb4⟩, ?_⟩
            apply Weak.mk' <;> simp [vl, NetD.cells, H3]
        · rw [if_pos hge] at hF
          subst hF
          repeat' (first
 |refine AW_seq_k fun K hK=>?_|refine Step.by1 ?_|refine SBlock_exit_ne (by decide) ?_|refine cz rfl ?_|refine Fork.by2 (fun h=>?_) fun h=>?_
 |((first|refine AW_region_AO ?_|refine AW_region_APx (id:=19) 7 mixed (by decide) ?_|refine AP_call1 (f:=20) rfl rfl (hc) rfl rfl rfl ?_);simp [gsV, vl, NetD.cells, H3, hkt, hkt', hg, hge])
 |(refine Split.by2 (fun h=>?_) (fun h=>?_)<;>(simp [h, gsV, vl, NetD.cells, H3, hkt, hkt', hg, hge]))
 |(apply hK;clear hK K)|refine AWh (by assumption) ?_)
          exact retq3 (conv_eq rfl rfl)
      · rintro ⟨a2, b2⟩ ⟨ha2, hb2⟩ hF
        simp only at ha2 hb2
        rw [numR_nil] at hF
        subst hF
        repeat' (first
 |refine AW_seq_k fun K hK=>?_|refine Step.by1 ?_|refine SBlock_exit_ne (by decide) ?_|refine cz rfl ?_|refine Fork.by2 (fun h=>?_) fun h=>?_
 |(refine AW_region_AO ?_;simp [gsV, vl, NetD.cells, H3, refV])
 |(refine Split.by2 (fun h=>?_) (fun h=>?_)<;>(simp [h, gsV, vl, NetD.cells, H3, refV]))
 |(apply hK;clear hK K)|refine AWh (by assumption) ?_)
        exact retq3 (conv_own2b rfl rfl (by simp [ha2]) (by simp [hb2]) (by decide) rfl)
  · rw [if_pos hz] at hr
    subst hr
    repeat' (first
 |refine AW_seq_k fun K hK=>?_|refine Step.by1 ?_|refine SBlock_exit_ne (by decide) ?_|refine cz rfl ?_|refine Fork.by2 (fun h=>?_) fun h=>?_
 |((first|refine AW_region_AO ?_|refine AS_call1 (f:=16) rfl rfl (hN) rfl rfl rfl ?_);simp [gsV, vl, NetD.cells, hz])
 |(refine Split.by2 (fun h=>?_) (fun h=>?_)<;>(simp [h, gsV, vl, NetD.cells, hz]))
 |(apply hK;clear hK K)|refine AWh (by assumption) ?_)
    exact retq3 (conv_eq rfl rfl)
end Go.Proofs.YtgmlimipejcpgaaGreatDoor
end

section
set_option linter.unusedVariables false
set_option linter.unusedSimpArgs false
namespace Go.Proofs.YtgmlimipejcpgaaGreatDoor
open Go Go.AM Fx
/-! The numbers, by program and by reference: a plain law. -/
theorem cmpE_zero {l : List GuardD} (h : cmpE l = 0) : ∀ g ∈ l, 1 ≤ g.cmp ∧ g.cmp ≤ 5 := by
  unfold cmpE at h
  intro g hg
  cases hc : cmpG g
  · unfold cmpG at hc
    have := of_decide_eq_false hc
    omega
  · rw [if_pos (List.any_eq_true.2 ⟨g, hg, hc⟩)] at h; cases h
theorem whole_cmps {n : NetD} (h : wholeE n = 0) : ∀ g ∈ guardsL n, 1 ≤ g.cmp ∧ g.cmp ≤ 5 := by
  unfold wholeE at h
  have h1 := (firstE_zero (firstE_zero (firstE_zero (firstE_zero (firstE_zero (firstE_zero (firstE_zero (firstE_zero h).2).2).2).2).2).2).2).1
  unfold formsE at h1
  by_cases hc : cmpE (guardsL n) = 0
  · exact cmpE_zero hc
  · rw [if_pos hc] at h1; exact absurd h1 hc
theorem goal_cmps {n : NetD} {g : List PartD} (h : goalE n g = 0) : ∀ p ∈ g, ∀ x ∈ p.guards, 1 ≤ x.cmp ∧ x.cmp ≤ 5 := by
  unfold goalE at h
  have h1 := (firstE_zero (firstE_zero h).2).1
  unfold wholeGoalE at h1
  have h2 := (firstE_zero (firstE_zero (firstE_zero (firstE_zero (firstE_zero (firstE_zero h1).2).2).2).2).2).1
  exact fun p hp => cmpE_zero (goF_zero h2 p hp)
theorem raise2_eq {l : List GuardD} {a b : List Int} : raise2 l (a, b) = (raiseL lowB l a, raiseL upB l b) := rfl
theorem numR_eq (n : NetD) : ∀ (gs : List (List PartD)) (a b : List Int), numR n gs (a, b) = (numG n lowB gs a).bind fun x => (numG n upB gs b).map fun y => (x, y)
  | [], a, b => rfl
  | g :: r, a, b => by
    rw [numR_cons, numG_cons, numG_cons]
    by_cases h : goalE n g = 0
    · rw [if_neg (by simp [h]), if_neg (by simp [h]), if_neg (by simp [h])]
      exact numR_eq n r _ _
    · rw [if_pos h, if_pos h, if_pos h]; rfl
theorem numbR_eq (n : NetD) (gs : List (List PartD)) : numbR n gs = (numbE n lowB gs).bind fun x => (numbE n upB gs).map fun y => (x, y) := by
  unfold numbR numbE
  by_cases h : netE n = 0
  · rw [if_neg (by simp [h]), if_neg (by simp [h]), if_neg (by simp [h])]
    exact numR_eq n gs _ _
  · rw [if_pos h, if_pos h, if_pos h]; rfl
def maxL (a b : List Int) : List Int := List.zipWith max a b
theorem maxL_len {a b : List Int} (h : a.length = b.length) : (maxL a b).length = a.length := by simp [maxL, h]
theorem maxL_getD {a b : List Int} (h : a.length = b.length) {i : Nat} (hi : i < a.length) : (maxL a b).getD i 0 = max (a.getD i 0) (b.getD i 0) := by
  have hb : i < b.length := by omega
  have hm : i < (maxL a b).length := by rw [maxL_len h]; exact hi
  simp only [List.getD, List.getElem?_eq_getElem hi, List.getElem?_eq_getElem hb, List.getElem?_eq_getElem hm, Option.getD_some]
  simp only [maxL, List.getElem_zipWith]
theorem ext_getD {a b : List Int} (h : a.length = b.length) (he : ∀ i, i < a.length → a.getD i 0 = b.getD i 0) : a = b := by
  refine List.ext_getElem h fun i h1 h2 => ?_
  have := he i h1
  simpa only [List.getD, List.getElem?_eq_getElem h1, List.getElem?_eq_getElem h2, Option.getD_some] using this
theorem raise1_getD {so : Int → Bool} {c : List Int} {g : GuardD} {i : Nat} (hi : i < c.length) (h1 : 1 ≤ g.clock) : (raise1 so c g).getD i 0 = if (g.clock - 1).toNat = i ∧ so g.cmp = true then max (c.getD i 0) g.n else c.getD i 0 := by
  unfold raise1
  by_cases hs : so g.cmp = true
  · rw [if_pos hs]
    by_cases hp : (g.clock - 1).toNat = i
    · rw [if_pos (show (g.clock - 1).toNat = i ∧ so g.cmp = true from ⟨hp, hs⟩), hp]
      have e : (if g.n > c.getD i 0 then g.n else c.getD i 0) = max (c.getD i 0) g.n := by split <;> omega
      rw [e]
      simp only [List.getD, List.getElem?_set, if_true, if_pos hi, Option.getD_some]
    · rw [if_neg (show ¬ ((g.clock - 1).toNat = i ∧ so g.cmp = true) from fun h => hp h.1)]
      simp only [List.getD, List.getElem?_set, if_neg hp]
  · rw [if_neg hs, if_neg (show ¬ ((g.clock - 1).toNat = i ∧ so g.cmp = true) from fun h => hs h.2)]
theorem low_or_up {c : Int} (h : 1 ≤ c ∧ c ≤ 5) : lowB c = true ∨ upB c = true := by
  simp only [lowB, upB, decide_eq_true_eq]; omega
theorem raise1_max {a b : List Int} {x : GuardD} (hl : a.length = b.length) (hx : 1 ≤ x.clock) (hc : 1 ≤ x.cmp ∧ x.cmp ≤ 5) :
    raise1 (fun _ => true) (maxL a b) x = maxL (raise1 lowB a x) (raise1 upB b x) := by
  have h1 : (raise1 lowB a x).length = (raise1 upB b x).length := by rw [raise1_len, raise1_len, hl]
  refine ext_getD (by rw [raise1_len, maxL_len hl, maxL_len h1, raise1_len]) fun i hi => ?_
  rw [raise1_len, maxL_len hl] at hi
  rw [raise1_getD (by rw [maxL_len hl]; exact hi) hx, maxL_getD hl hi, maxL_getD h1 (by rw [raise1_len]; exact hi), raise1_getD hi hx, raise1_getD (by omega) hx]
  generalize a.getD i 0 = y
  generalize b.getD i 0 = z
  have := low_or_up hc
  by_cases hp : (x.clock - 1).toNat = i
  · cases hs : lowB x.cmp <;> cases ht : upB x.cmp <;> rw [hs, ht] at this <;> simp only [hp, and_self, if_true, if_false, true_and, and_true, and_false, Bool.false_eq_true] <;> first | omega | simp at this
  · simp only [hp, false_and, if_false]
theorem raiseL_max : ∀ {l : List GuardD} {a b : List Int}, a.length = b.length → (∀ x ∈ l, okG a.length x) → (∀ x ∈ l, 1 ≤ x.cmp ∧ x.cmp ≤ 5) → raiseL (fun _ => true) l (maxL a b) = maxL (raiseL lowB l a) (raiseL upB l b)
  | [], a, b, _, _, _ => rfl
  | x :: l, a, b, hl, h1, h2 => by
    rw [raiseL_cons, raiseL_cons, raiseL_cons, raise1_max hl (h1 x (by simp)).1 (h2 x (by simp))]
    exact raiseL_max (by rw [raise1_len, raise1_len, hl]) (fun y hy => by rw [raise1_len]; exact h1 y (by simp [hy])) (fun y hy => h2 y (by simp [hy]))
theorem raiseL_lens {l : List GuardD} {a b : List Int} (h : a.length = b.length) : (raiseL lowB l a).length = (raiseL upB l b).length := by rw [raiseL_len, raiseL_len, h]
theorem numG_max (n : NetD) : ∀ (gs : List (List PartD)) (a b : List Int), a.length = b.length → a.length = n.clocks.length → numG n (fun _ => true) gs (maxL a b) = (numR n gs (a, b)).map fun s => maxL s.1 s.2
  | [], a, b, _, _ => rfl
  | g :: r, a, b, hl, hn => by
    rw [numR_cons, numG_cons]
    by_cases h : goalE n g = 0
    · rw [if_neg (by simp [h]), if_neg (by simp [h])]
      have h1 := goal_guards h
      have h2 := goal_cmps h
      have : raisePs (fun _ => true) g (maxL a b) = maxL (raisePs lowB g a) (raisePs upB g b) := raiseL_max hl
        (fun x hx => by obtain ⟨p, hp, hx⟩ := List.mem_flatMap.1 hx; rw [hn]; exact h1 p hp x hx) (fun x hx => by obtain ⟨p, hp, hx⟩ := List.mem_flatMap.1 hx; exact h2 p hp x hx)
      rw [this]
      exact numG_max n r _ _ (by rw [raisePs_len, raisePs_len, hl]) (by rw [raisePs_len, hn])
    · rw [if_pos h, if_pos h]; rfl
theorem maxL_same (N : Nat) : maxL (List.replicate N (-1)) (List.replicate N (-1)) = List.replicate N (-1) := by simp [maxL]
/-- What the program tells at once is the greater of what the reference tells in two. -/
theorem numb_max (n : NetD) (gs : List (List PartD)) : numbE n (fun _ => true) gs = (numbR n gs).map fun s => maxL s.1 s.2 := by
  unfold numbE numbR
  by_cases h : netE n = 0
  · rw [if_neg (by simp [h]), if_neg (by simp [h])]
    have h1 := whole_guards (netE_whole h)
    have h2 := whole_cmps (netE_whole h)
    have h3 := raiseL_max (l := guardsL n) (a := List.replicate n.clocks.length (-1)) (b := List.replicate n.clocks.length (-1)) rfl (by simpa using h1) h2
    rw [maxL_same] at h3
    rw [h3]
    exact numG_max n gs _ _ (raiseL_lens rfl) (by rw [raiseL_len]; simp)
  · rw [if_pos h, if_pos h]; rfl
end Go.Proofs.YtgmlimipejcpgaaGreatDoor
end

section
set_option linter.unusedVariables false
set_option linter.unusedSimpArgs false
namespace Go.Proofs.YtgmlimipejcpgaaGreatDoor
open Go Go.AM Fx
/-! The reference's Max, Lower, Upper, Kept. -/
theorem maxL_step {a b c : List Int} {N i : Nat} (hi : i < N) (ha : a.length = N) (hb : b.length = N) (hc : c.length = N) (h1 : ∀ j, j < i → c.getD j 0 = max (a.getD j 0) (b.getD j 0)) (h2 : ∀ j, i ≤ j → c.getD j 0 = a.getD j 0) {y : Int}
    (hy : y = max (a.getD i 0) (b.getD i 0)) : (c.set i y).length = N ∧ (∀ j, j < i + 1 → (c.set i y).getD j 0 = max (a.getD j 0) (b.getD j 0)) ∧ ∀ j, i + 1 ≤ j → (c.set i y).getD j 0 = a.getD j 0 := by
  have hg : ∀ j, (c.set i y).getD j 0 = if i = j then y else c.getD j 0 := fun j => by
    simp only [List.getD, List.getElem?_set]
    by_cases e : i = j
    · subst e; simp [show i < c.length by omega]
    · simp [e]
  refine ⟨by simp [hc], fun j hj => ?_, fun j hj => ?_⟩
  · rw [hg]
    by_cases e : i = j
    · subst e; simp [hy]
    · rw [if_neg e]; exact h1 j (by omega)
  · rw [hg, if_neg (by omega)]; exact h2 j (by omega)
theorem maxL_end {a b c : List Int} {N : Nat} (ha : a.length = N) (hb : b.length = N) (hc : c.length = N) (h1 : ∀ j, j < N → c.getD j 0 = max (a.getD j 0) (b.getD j 0)) : c = maxL a b :=
  ext_getD (by rw [maxL_len (by omega)]; omega) fun i hi => by rw [h1 i (by omega), maxL_getD (by omega) (by omega)]
theorem numR_lens {n : NetD} : ∀ {gs : List (List PartD)} {a b x y : List Int}, numR n gs (a, b) = some (x, y) → x.length = a.length ∧ y.length = b.length
  | [], a, b, x, y, h => by rw [numR_nil] at h; cases h; exact ⟨rfl, rfl⟩
  | g :: r, a, b, x, y, h => by
    rw [numR_cons] at h
    split at h
    · cases h
    · have := numR_lens (gs := r) (a := raisePs lowB g a) (b := raisePs upB g b) h
      rw [raisePs_len, raisePs_len] at this; exact this
theorem numbR_lens {n : NetD} {gs : List (List PartD)} {x y : List Int} (h : numbR n gs = some (x, y)) : x.length = n.clocks.length ∧ y.length = n.clocks.length := by
  unfold numbR at h
  split at h
  · cases h
  · have := numR_lens (gs := gs) (a := raiseL lowB (guardsL n) _) (b := raiseL upB (guardsL n) _) h
    rw [raiseL_len, raiseL_len] at this; simpa using this
def refMax : Option (List Int × List Int) → V
  | none => .nils
  | some s => .own 3 ((maxL s.1 s.2).map fun k => [V.int .i64 k])
def refLow : Option (List Int × List Int) → V
  | none => .nils
  | some s => .own 3 (s.1.map fun k => [V.int .i64 k])
def refUp : Option (List Int × List Int) → V
  | none => .nils
  | some s => .own 3 (s.2.map fun k => [V.int .i64 k])
def refKept : Option (List Int × List Int) → V
  | none => .own 3 []
  | some s => .own 3 ((keptF (maxL s.1 s.2) (0, [])).map fun k => [V.int .i64 k])
set_option maxRecDepth 20000 in
set_option maxHeartbeats 8000000 in
theorem r_Max (n : NetD) (hn : n.ok) (gs : List (List PartD)) (hgl : gs.length ≤ 1048576) (hgs : ∀ g ∈ gs, okGoal g) : PC 27 [.agg n.cells, gsV gs] (refMax (numbR n gs)) := by
  have hc := r_nums n hn gs hgl hgs
  simp only [gsV, vl, NetD.cells] at hc
  cases h : numbR n gs with
  | none =>
    rw [h] at hc
    simp only [refV, refMax] at hc ⊢
    refine PCall_body Tryz.func27 rfl (by decide) Tryz.ntmps27 (by simp) Tryz.results27 ?_
    repeat' (first
 |refine AW_seq_k fun K hK=>?_|refine Step.by1 ?_|refine SBlock_exit_ne (by decide) ?_|refine cz rfl ?_|refine Fork.by2 (fun h=>?_) fun h=>?_
 |((first|refine AW_region_AO ?_|refine AS_call1 (f:=83) rfl rfl (hc) rfl rfl rfl ?_);simp [gsV, vl, NetD.cells])
 |(refine Split.by2 (fun h=>?_) (fun h=>?_)<;>(simp [h, gsV, vl, NetD.cells]))
 |(apply hK;clear hK K)|refine AWh (by assumption) ?_)
    refine AW_loop0 ?_
    repeat' (first
 |refine AW_seq_k fun K hK=>?_|refine Step.by1 ?_|refine SBlock_exit_ne (by decide) ?_|refine cz rfl ?_|refine Fork.by2 (fun h=>?_) fun h=>?_
 |(refine AW_region_AO ?_;simp [gsV, vl, NetD.cells])
 |(refine Split.by2 (fun h=>?_) (fun h=>?_)<;>(simp [h, gsV, vl, NetD.cells]))
 |(apply hK;clear hK K)|refine AWh (by assumption) ?_)
    exact retq1 (conv_eq rfl rfl)
  | some s =>
    obtain ⟨a, b⟩ := s
    rw [h] at hc
    obtain ⟨ha, hb⟩ := numbR_lens h
    have hnl := hn.1.1
    simp only [refV, refMax] at hc ⊢
    refine PCall_body Tryz.func27 rfl (by decide) Tryz.ntmps27 (by simp) Tryz.results27 ?_
    repeat' (first
 |refine AW_seq_k fun K hK=>?_|refine Step.by1 ?_|refine SBlock_exit_ne (by decide) ?_|refine cz rfl ?_|refine Fork.by2 (fun h=>?_) fun h=>?_
 |((first|refine AW_region_AO ?_|refine AS_callT (f:=83) rfl rfl (hc) rfl rfl ?_);simp [gsV, vl, NetD.cells])
 |(refine Split.by2 (fun h=>?_) (fun h=>?_)<;>(simp [h, gsV, vl, NetD.cells]))
 |(apply hK;clear hK K)|refine AWh (by assumption) ?_)
    refine AW_loopL [5, 6] (fun s : Nat × List Int => [(8, .int .i64 s.1)]) (fun s => [.var n.cells, .row 3 0 0 true (s.2.map fun k => [V.int .i64 k]), .row 3 0 0 true (b.map fun k => [V.int .i64 k])])
      (fun s => s.1 ≤ a.length ∧ s.2.length = a.length ∧ (∀ j, j < s.1 → s.2.getD j 0 = max (a.getD j 0) (b.getD j 0)) ∧ ∀ j, s.1 ≤ j → s.2.getD j 0 = a.getD j 0) (fun s => a.length - s.1) (0, a) ⟨Nat.zero_le _, rfl, fun j hj => by omega, fun j _ => rfl⟩ (by apply Weak.mk' <;> simp [vl, NetD.cells]) (fun _ _ => rfl) ?_
    rintro ⟨i, c⟩ ⟨hi, hcl, hc1, hc2⟩
    simp only at hi hcl hc1 hc2
    by_cases hlt : i < a.length
    · have hib : i < b.length := by omega
      have hic : i < c.length := by omega
      have hlt' : (i : Int) < a.length := by omega
      have hib' : (i : Int) < b.length := by omega
      have w1 : IntKind.i64.wrap ((i : Int) + 1) = i + 1 := wrap_i64 (by omega) (by omega)
      obtain ⟨y, hy⟩ : ∃ y, b[i] = y := ⟨_, rfl⟩
      obtain ⟨z, hz⟩ : ∃ z, c[i] = z := ⟨_, rfl⟩
      have hzz : a.getD i 0 = z := by rw [← hc2 i (Nat.le_refl _), ← hz]; simp [List.getD, hic]
      have hyy : b.getD i 0 = y := by rw [← hy]; simp [List.getD, hib]
      by_cases hgt : z < y
      · have hst := maxL_step (y := y) hlt rfl (by omega) hcl hc1 hc2 (by rw [hzz, hyy]; omega)
        repeat' (first
 |refine AW_seq_k fun K hK=>?_|refine Step.by1 ?_|refine SBlock_exit_ne (by decide) ?_|refine cz rfl ?_|refine Fork.by2 (fun h=>?_) fun h=>?_
 |((first|refine AW_region_AO ?_|refine AW_region_APx (id:=5) 9 mixed (by decide) ?_);simp [gsV, vl, NetD.cells, hlt, hlt', hib, hib', hic, hcl, hy, hz, hgt, w1])
 |(refine Split.by2 (fun h=>?_) (fun h=>?_)<;>(simp [h, gsV, vl, NetD.cells, hlt, hlt', hib, hib', hic, hcl, hy, hz, hgt, w1]))
 |(apply hK;clear hK K)|refine AWh (by assumption) ?_)
        refine ⟨i + 1, c.set i y, ⟨by omega, hst⟩, by omega, ?_⟩
        apply Weak.mk' <;> simp [vl, NetD.cells]
      · have hst := maxL_step (y := z) hlt rfl (by omega) hcl hc1 hc2 (by rw [hzz, hyy]; omega)
        have hcc : c.set i z = c := by rw [← hz]; simp
        rw [hcc] at hst
        repeat' (first
 |refine AW_seq_k fun K hK=>?_|refine Step.by1 ?_|refine SBlock_exit_ne (by decide) ?_|refine cz rfl ?_|refine Fork.by2 (fun h=>?_) fun h=>?_
 |((first|refine AW_region_AO ?_|refine AW_region_APx (id:=5) 9 mixed (by decide) ?_);simp [gsV, vl, NetD.cells, hlt, hlt', hib, hib', hic, hcl, hy, hz, hgt, w1])
 |(refine Split.by2 (fun h=>?_) (fun h=>?_)<;>(simp [h, gsV, vl, NetD.cells, hlt, hlt', hib, hib', hic, hcl, hy, hz, hgt, w1]))
 |(apply hK;clear hK K)|refine AWh (by assumption) ?_)
        refine ⟨i + 1, c, ⟨by omega, hst⟩, by omega, ?_⟩
        apply Weak.mk' <;> simp [vl, NetD.cells]
    · have hce : c = maxL a b := maxL_end (N := a.length) rfl (by omega) hcl (fun j hj => hc1 j (by omega))
      have hlt' : ¬ (i : Int) < a.length := by omega
      clear hc1 hc2
      subst hce
      repeat' (first
 |refine AW_seq_k fun K hK=>?_|refine Step.by1 ?_|refine SBlock_exit_ne (by decide) ?_|refine cz rfl ?_|refine Fork.by2 (fun h=>?_) fun h=>?_
 |(refine AW_region_AO ?_;simp [gsV, vl, NetD.cells, hlt, hlt', hcl])
 |(refine Split.by2 (fun h=>?_) (fun h=>?_)<;>(simp [h, gsV, vl, NetD.cells, hlt, hlt', hcl]))
 |(apply hK;clear hK K)|refine AWh (by assumption) ?_)
      exact retq1 (.inr (.inl (conv1_own rfl (by simp [hcl]))))
theorem r_Lower (n : NetD) (hn : n.ok) (gs : List (List PartD)) (hgl : gs.length ≤ 1048576) (hgs : ∀ g ∈ gs, okGoal g) : PC 28 [.agg n.cells, gsV gs] (refLow (numbR n gs)) := by
  have hc := r_nums n hn gs hgl hgs
  simp only [gsV, vl, NetD.cells] at hc
  cases h : numbR n gs with
  | none =>
    rw [h] at hc
    simp only [refV, refLow] at hc ⊢
    refine PCall_body Tryz.func28 rfl (by decide) Tryz.ntmps28 (by simp) Tryz.results28 ?_
    repeat' (first
 |refine AW_seq_k fun K hK=>?_|refine Step.by1 ?_|refine SBlock_exit_ne (by decide) ?_|refine cz rfl ?_|refine Fork.by2 (fun h=>?_) fun h=>?_
 |((first|refine AW_region_AO ?_|refine AS_call1 (f:=83) rfl rfl (hc) rfl rfl rfl ?_);simp [gsV, vl, NetD.cells])
 |(refine Split.by2 (fun h=>?_) (fun h=>?_)<;>(simp [h, gsV, vl, NetD.cells]))
 |(apply hK;clear hK K)|refine AWh (by assumption) ?_)
    exact retq1 (conv_eq rfl rfl)
  | some s =>
    obtain ⟨a, b⟩ := s
    rw [h] at hc
    simp only [refV, refLow] at hc ⊢
    refine PCall_body Tryz.func28 rfl (by decide) Tryz.ntmps28 (by simp) Tryz.results28 ?_
    repeat' (first
 |refine AW_seq_k fun K hK=>?_|refine Step.by1 ?_|refine SBlock_exit_ne (by decide) ?_|refine cz rfl ?_|refine Fork.by2 (fun h=>?_) fun h=>?_
 |((first|refine AW_region_AO ?_|refine AS_callT (f:=83) rfl rfl (hc) rfl rfl ?_);simp [gsV, vl, NetD.cells])
 |(refine Split.by2 (fun h=>?_) (fun h=>?_)<;>(simp [h, gsV, vl, NetD.cells]))
 |(apply hK;clear hK K)|refine AWh (by assumption) ?_)
    exact retq1 (.inr (.inl (conv1_own rfl (by simp))))
theorem r_Upper (n : NetD) (hn : n.ok) (gs : List (List PartD)) (hgl : gs.length ≤ 1048576) (hgs : ∀ g ∈ gs, okGoal g) : PC 29 [.agg n.cells, gsV gs] (refUp (numbR n gs)) := by
  have hc := r_nums n hn gs hgl hgs
  simp only [gsV, vl, NetD.cells] at hc
  cases h : numbR n gs with
  | none =>
    rw [h] at hc
    simp only [refV, refUp] at hc ⊢
    refine PCall_body Tryz.func29 rfl (by decide) Tryz.ntmps29 (by simp) Tryz.results29 ?_
    repeat' (first
 |refine AW_seq_k fun K hK=>?_|refine Step.by1 ?_|refine SBlock_exit_ne (by decide) ?_|refine cz rfl ?_|refine Fork.by2 (fun h=>?_) fun h=>?_
 |((first|refine AW_region_AO ?_|refine AS_call1 (f:=83) rfl rfl (hc) rfl rfl rfl ?_);simp [gsV, vl, NetD.cells])
 |(refine Split.by2 (fun h=>?_) (fun h=>?_)<;>(simp [h, gsV, vl, NetD.cells]))
 |(apply hK;clear hK K)|refine AWh (by assumption) ?_)
    exact retq1 (conv_eq rfl rfl)
  | some s =>
    obtain ⟨a, b⟩ := s
    rw [h] at hc
    simp only [refV, refUp] at hc ⊢
    refine PCall_body Tryz.func29 rfl (by decide) Tryz.ntmps29 (by simp) Tryz.results29 ?_
    repeat' (first
 |refine AW_seq_k fun K hK=>?_|refine Step.by1 ?_|refine SBlock_exit_ne (by decide) ?_|refine cz rfl ?_|refine Fork.by2 (fun h=>?_) fun h=>?_
 |((first|refine AW_region_AO ?_|refine AS_callT (f:=83) rfl rfl (hc) rfl rfl ?_);simp [gsV, vl, NetD.cells])
 |(refine Split.by2 (fun h=>?_) (fun h=>?_)<;>(simp [h, gsV, vl, NetD.cells]))
 |(apply hK;clear hK K)|refine AWh (by assumption) ?_)
    exact retq1 (.inr (.inl (conv1_own rfl (by simp))))
set_option maxRecDepth 20000 in
set_option maxHeartbeats 8000000 in
theorem r_Kept (n : NetD) (hn : n.ok) (gs : List (List PartD)) (hgl : gs.length ≤ 1048576) (hgs : ∀ g ∈ gs, okGoal g) : PC 30 [.agg n.cells, gsV gs] (refKept (numbR n gs)) := by
  have hc := r_Max n hn gs hgl hgs
  simp only [gsV, vl, NetD.cells] at hc
  cases h : numbR n gs with
  | none =>
    rw [h] at hc
    simp only [refMax, refKept] at hc ⊢
    refine PCall_body Tryz.func30 rfl (by decide) Tryz.ntmps30 (by simp) Tryz.results30 ?_
    repeat' (first
 |refine AW_seq_k fun K hK=>?_|refine Step.by1 ?_|refine SBlock_exit_ne (by decide) ?_|refine cz rfl ?_|refine Fork.by2 (fun h=>?_) fun h=>?_
 |((first|refine AW_region_AO ?_|refine AS_call1 (f:=27) rfl rfl (hc) rfl rfl rfl ?_);simp [gsV, vl, NetD.cells])
 |(refine Split.by2 (fun h=>?_) (fun h=>?_)<;>(simp [h, gsV, vl, NetD.cells]))
 |(apply hK;clear hK K)|refine AWh (by assumption) ?_)
    refine AW_nilrow 5 3 rfl (by simp) ?_
    refine AW_loop0 ?_
    repeat' (first
 |refine AW_seq_k fun K hK=>?_|refine Step.by1 ?_|refine SBlock_exit_ne (by decide) ?_|refine cz rfl ?_|refine Fork.by2 (fun h=>?_) fun h=>?_
 |(refine AW_region_AO ?_;simp [gsV, vl, NetD.cells])
 |(refine Split.by2 (fun h=>?_) (fun h=>?_)<;>(simp [h, gsV, vl, NetD.cells]))
 |(apply hK;clear hK K)|refine AWh (by assumption) ?_)
    exact retq1 (.inr (.inl (conv1_own (xs := []) rfl (by simp))))
  | some s =>
    rw [h] at hc
    obtain ⟨a, b⟩ := s
    obtain ⟨ha, hb⟩ := numbR_lens h
    obtain ⟨o, ho⟩ : ∃ o, maxL a b = o := ⟨_, rfl⟩
    have hol : o.length = n.clocks.length := by rw [← ho, maxL_len (by omega), ha]
    have hnl := hn.1.1
    obtain ⟨r, hr⟩ : ∃ r, keptF o (0, []) = r := ⟨_, rfl⟩
    simp only [refMax, refKept, ho, hr] at hc ⊢
    refine PCall_body Tryz.func30 rfl (by decide) Tryz.ntmps30 (by simp) Tryz.results30 ?_
    repeat' (first
 |refine AW_seq_k fun K hK=>?_|refine Step.by1 ?_|refine SBlock_exit_ne (by decide) ?_|refine cz rfl ?_|refine Fork.by2 (fun h=>?_) fun h=>?_
 |((first|refine AW_region_AO ?_|refine AS_callO (f:=27) rfl rfl (hc) rfl rfl ?_);simp [gsV, vl, NetD.cells])
 |(refine Split.by2 (fun h=>?_) (fun h=>?_)<;>(simp [h, gsV, vl, NetD.cells]))
 |(apply hK;clear hK K)|refine AWh (by assumption) ?_)
    refine AW_nilrow 5 3 rfl (by simp) ?_
    refine AW_range (r := r) o 7 [6] (fun s : Nat × List Int => [(5, .ref 2 s.2.length 0 s.2.length)]) (fun s => [.var n.cells, .row 3 0 0 true (o.map fun k => [V.int .i64 k]), .row 3 s.2.length 0 true (s.2.map fun k => [V.int .i64 k])]) (fun i s => s.1 = i ∧ s.2.length ≤ i) keptF (0, [])
      hr ⟨rfl, Nat.le_refl _⟩ (by apply Weak.mk' <;> simp [vl, NetD.cells]) (fun _ _ _ => by simp) ?_ ?_
    · rintro i ⟨q, a⟩ x _ hlt hx ⟨hq, hal⟩ hF
      simp only at hq hal
      subst hq
      rw [keptF_cons] at hF
      simp only at hF
      have hlt' : (q : Int) < o.length := by omega
      have w1 : IntKind.i64.wrap ((q : Int) + 1) = q + 1 := wrap_i64 (by omega) (by omega)
      have hby : (a.length + 1) * 8 ≤ 140737488355328 := by omega
      by_cases hx0 : 0 ≤ x
      · rw [if_pos hx0] at hF
        repeat' (first
 |refine AW_seq_k fun K hK=>?_|refine Step.by1 ?_|refine SBlock_exit_ne (by decide) ?_|refine cz rfl ?_|refine Fork.by2 (fun h=>?_) fun h=>?_
 |(refine AW_region_AO ?_;simp [gsV, vl, NetD.cells, hlt, hlt', hx, w1, hx0, hby])
 |(refine Split.by2 (fun h=>?_) (fun h=>?_)<;>(simp [h, gsV, vl, NetD.cells, hlt, hlt', hx, w1, hx0, hby]))
 |(apply hK;clear hK K)|refine AWh (by assumption) ?_)
        refine ⟨q + 1, a ++ [(q : Int) + 1], hF, ⟨rfl, by simp; omega⟩, ?_⟩
        apply Weak.mk' <;> simp [vl, NetD.cells]
      · rw [if_neg hx0] at hF
        repeat' (first
 |refine AW_seq_k fun K hK=>?_|refine Step.by1 ?_|refine SBlock_exit_ne (by decide) ?_|refine cz rfl ?_|refine Fork.by2 (fun h=>?_) fun h=>?_
 |(refine AW_region_AO ?_;simp [gsV, vl, NetD.cells, hlt, hlt', hx, w1, hx0])
 |(refine Split.by2 (fun h=>?_) (fun h=>?_)<;>(simp [h, gsV, vl, NetD.cells, hlt, hlt', hx, w1, hx0]))
 |(apply hK;clear hK K)|refine AWh (by assumption) ?_)
        refine ⟨q + 1, a, hF, ⟨rfl, by show a.length ≤ q + 1; omega⟩, ?_⟩
        apply Weak.mk' <;> simp [vl, NetD.cells]
    · rintro ⟨q, a⟩ ⟨hq, hal⟩ hF
      rw [keptF_nil] at hF
      simp only at hq hal hF
      subst hF
      repeat' (first
 |refine AW_seq_k fun K hK=>?_|refine Step.by1 ?_|refine SBlock_exit_ne (by decide) ?_|refine cz rfl ?_|refine Fork.by2 (fun h=>?_) fun h=>?_
 |(refine AW_region_AO ?_;simp [gsV, vl, NetD.cells])
 |(refine Split.by2 (fun h=>?_) (fun h=>?_)<;>(simp [h, gsV, vl, NetD.cells]))
 |(apply hK;clear hK K)|refine AWh (by assumption) ?_)
      exact retq1 (.inr (.inl (conv1_own rfl (by simp))))
end Go.Proofs.YtgmlimipejcpgaaGreatDoor
end
