/-
  YtgmlimipejcpgaaGreatDoorPart15: steps of the proof of a law of the program: what these texts prove holds under the hypotheses that their theorems name, and no others.
-/
import Derived.Test.YtgmlimipejcpgaaGreatDoorPart14
import Derived.Test.YtgmlimipejcpgaaGreatDoorPart13
import Derived.Test.YtgmlimipejcpgaaGreatDoorPart07
section
set_option linter.unusedVariables false
set_option linter.unusedSimpArgs false
namespace Go.Proofs.YtgmlimipejcpgaaGreatDoor
open Go Go.AM Fx
def isV (l : List Int) : V := .vec (l.map fun k => [V.int .i64 k]) l.length
set_option maxHeartbeats 4000000 in
theorem c_SameInts (a : List Int) (ha : a.length ≤ 1099511627776) : PC 26 [isV a, isV a] (.bool true) := by
  refine PCall_body Tryz.func26 rfl (by decide) Tryz.ntmps26 (by simp) Tryz.results26 ?_
  repeat' (first
 |refine AW_seq_k fun K hK=>?_|refine Step.by1 ?_|refine SBlock_exit_ne (by decide) ?_|refine cz rfl ?_|refine Fork.by2 (fun h=>?_) fun h=>?_
 |(refine AW_region_AO ?_;simp [isV])
 |(refine Split.by2 (fun h=>?_) (fun h=>?_)<;>(simp [h, isV]))
 |(apply hK;clear hK K)|refine AWh (by assumption) ?_)
  refine AW_loopL [0, 1] (fun i : Nat => [(5, .int .i64 i)]) (fun _ => []) (fun i => i ≤ a.length) (fun i => a.length - i) 0 (Nat.zero_le _) (by apply Weak.mk' <;> simp [isV]) (fun _ _ => rfl) ?_
  intro i hi
  by_cases hlt : i < a.length
  · have hlt' : (i : Int) < a.length := by omega
    have w1 : IntKind.i64.wrap ((i : Int) + 1) = i + 1 := wrap_i64 (by omega) (by omega)
    repeat' (first
 |refine AW_seq_k fun K hK=>?_|refine Step.by1 ?_|refine SBlock_exit_ne (by decide) ?_|refine cz rfl ?_|refine Fork.by2 (fun h=>?_) fun h=>?_
 |((first|refine AW_region_AO ?_|refine AW_region_APx (id:=6) 9 mixed (by decide) ?_);simp [isV, hlt, hlt', w1])
 |(refine Split.by2 (fun h=>?_) (fun h=>?_)<;>(simp [h, isV, hlt, hlt', w1]))
 |(apply hK;clear hK K)|refine AWh (by assumption) ?_)
    refine ⟨i + 1, by omega, by omega, ?_⟩
    apply Weak.mk' <;> simp [isV]
  · have hie : i = a.length := by omega
    subst hie
    repeat' (first
 |refine AW_seq_k fun K hK=>?_|refine Step.by1 ?_|refine SBlock_exit_ne (by decide) ?_|refine cz rfl ?_|refine Fork.by2 (fun h=>?_) fun h=>?_
 |(refine AW_region_AO ?_;simp [isV])
 |(refine Split.by2 (fun h=>?_) (fun h=>?_)<;>(simp [h, isV]))
 |(apply hK;clear hK K)|refine AWh (by assumption) ?_)
    exact retq1 (conv_eq rfl rfl)
def upB (c : Int) : Bool := decide (c = 1 ∨ c = 2 ∨ c = 3)
theorem c_Upper1 (c : Int) : PC 82 [.int .u8 c] (.bool (upB c)) := by
  refine PCall_body Tryz.func82 rfl (by decide) Tryz.ntmps82 (by simp) Tryz.results82 ?_
  repeat' (first
 |refine AW_seq_k fun K hK=>?_|refine Step.by1 ?_|refine SBlock_exit_ne (by decide) ?_|refine cz rfl ?_|refine Fork.by2 (fun h=>?_) fun h=>?_
 |(refine AW_region_AO ?_;simp)
 |(refine Split.by2 (fun h=>?_) (fun h=>?_)<;>(simp [h]))
 |(apply hK;clear hK K)|refine AWh (by assumption) ?_)
  all_goals first
    | exact retq1 (conv_eq (by simp [upB, *]; done) rfl)
    | exact retq1 (conv_eq (by simp [upB, *]; omega) rfl)
    | trace_state
theorem c_Upper (n : NetD) (hn : n.ok) (gs : List (List PartD)) (hgl : gs.length ≤ 1048576) (hgs : ∀ g ∈ gs, okGoal g) : PC 24 [.agg n.cells, gsV gs] (numV (numbE n upB gs)) := by
  have hc := c_numbers n hn 82 upB c_Upper1 gs hgl hgs
  simp only [gsV, vl, NetD.cells] at hc
  cases h : numbE n upB gs with
  | none =>
    rw [h] at hc
    simp only [numV] at hc ⊢
    refine PCall_body Tryz.func24 rfl (by decide) Tryz.ntmps24 (by simp) Tryz.results24 ?_
    repeat' (first
 |refine AW_seq_k fun K hK=>?_|refine Step.by1 ?_|refine SBlock_exit_ne (by decide) ?_|refine cz rfl ?_|refine Fork.by2 (fun h=>?_) fun h=>?_
 |((first|refine AW_region_AO ?_|refine AS_call1 (f:=79) rfl rfl (hc) rfl rfl rfl ?_);simp [gsV, vl, NetD.cells])
 |(refine Split.by2 (fun h=>?_) (fun h=>?_)<;>(simp [h, gsV, vl, NetD.cells]))
 |(apply hK;clear hK K)|refine AWh (by assumption) ?_)
    exact retq1 (conv_eq rfl rfl)
  | some o =>
    rw [h] at hc
    simp only [numV] at hc ⊢
    refine PCall_body Tryz.func24 rfl (by decide) Tryz.ntmps24 (by simp) Tryz.results24 ?_
    repeat' (first
 |refine AW_seq_k fun K hK=>?_|refine Step.by1 ?_|refine SBlock_exit_ne (by decide) ?_|refine cz rfl ?_|refine Fork.by2 (fun h=>?_) fun h=>?_
 |((first|refine AW_region_AO ?_|refine AS_callO (f:=79) rfl rfl (hc) rfl rfl ?_);simp [gsV, vl, NetD.cells])
 |(refine Split.by2 (fun h=>?_) (fun h=>?_)<;>(simp [h, gsV, vl, NetD.cells]))
 |(apply hK;clear hK K)|refine AWh (by assumption) ?_)
    exact retq1 (.inr (.inl (conv1_own rfl (by simp))))
theorem numb_len {n : NetD} {so : Int → Bool} {gs : List (List PartD)} {o : List Int} (h : numbE n so gs = some o) : o.length = n.clocks.length := by
  have key : ∀ (gs : List (List PartD)) (c o : List Int), numG n so gs c = some o → o.length = c.length := by
    intro gs
    induction gs with
    | nil => intro c o h; rw [numG_nil] at h; cases h; rfl
    | cons g r ih =>
      intro c o h
      rw [numG_cons] at h
      split at h
      · cases h
      · rw [ih _ _ h, raisePs_len]
  unfold numbE at h
  split at h
  · cases h
  · rw [key _ _ _ h, raiseL_len]; simp
end Go.Proofs.YtgmlimipejcpgaaGreatDoor
end

section
set_option linter.unusedVariables false
set_option linter.unusedSimpArgs false
namespace Go.Proofs.YtgmlimipejcpgaaGreatDoor
open Go Go.AM Fx
end Go.Proofs.YtgmlimipejcpgaaGreatDoor
end

section
set_option linter.unusedVariables false
set_option linter.unusedSimpArgs false
namespace Go.Proofs.YtgmlimipejcpgaaGreatDoor
open Go Go.AM Fx
end Go.Proofs.YtgmlimipejcpgaaGreatDoor
end

section
set_option linter.unusedVariables false
set_option linter.unusedSimpArgs false
namespace Go.Proofs.YtgmlimipejcpgaaGreatDoor
open Go Go.AM Fx
end Go.Proofs.YtgmlimipejcpgaaGreatDoor
end

section
set_option linter.unusedVariables false
set_option linter.unusedSimpArgs false
namespace Go.Proofs.YtgmlimipejcpgaaGreatDoor
open Go Go.AM Fx
theorem cmpE_zero {l : List GuardD} (h : cmpE l = 0) : ∀ g ∈ l, 1 ≤ g.cmp ∧ g.cmp ≤ 5 := by
  unfold cmpE at h
  intro g hg
  cases hc : cmpG g
  · unfold cmpG at hc
    have := of_decide_eq_false hc
    omega
  · rw [if_pos (List.any_eq_true.2 ⟨g, hg, hc⟩)] at h; cases h
theorem whole_cmps {n : NetD} (h : wholeE n = 0) : ∀ g ∈ guardsL n, 1 ≤ g.cmp ∧ g.cmp ≤ 5 := by
  unfold wholeE at h
  have h1 := (firstE_zero (firstE_zero (firstE_zero (firstE_zero (firstE_zero (firstE_zero (firstE_zero (firstE_zero h).2).2).2).2).2).2).2).1
  unfold formsE at h1
  by_cases hc : cmpE (guardsL n) = 0
  · exact cmpE_zero hc
  · rw [if_pos hc] at h1; exact absurd h1 hc
theorem goal_cmps {n : NetD} {g : List PartD} (h : goalE n g = 0) : ∀ p ∈ g, ∀ x ∈ p.guards, 1 ≤ x.cmp ∧ x.cmp ≤ 5 := by
  unfold goalE at h
  have h1 := (firstE_zero (firstE_zero h).2).1
  unfold wholeGoalE at h1
  have h2 := (firstE_zero (firstE_zero (firstE_zero (firstE_zero (firstE_zero (firstE_zero h1).2).2).2).2).2).1
  exact fun p hp => cmpE_zero (goF_zero h2 p hp)
theorem raise1_getD {so : Int → Bool} {c : List Int} {g : GuardD} {i : Nat} (hi : i < c.length) (h1 : 1 ≤ g.clock) : (raise1 so c g).getD i 0 = if (g.clock - 1).toNat = i ∧ so g.cmp = true then max (c.getD i 0) g.n else c.getD i 0 := by
  unfold raise1
  by_cases hs : so g.cmp = true
  · rw [if_pos hs]
    by_cases hp : (g.clock - 1).toNat = i
    · rw [if_pos (show (g.clock - 1).toNat = i ∧ so g.cmp = true from ⟨hp, hs⟩), hp]
      have e : (if g.n > c.getD i 0 then g.n else c.getD i 0) = max (c.getD i 0) g.n := by split <;> omega
      rw [e]
      simp only [List.getD, List.getElem?_set, if_true, if_pos hi, Option.getD_some]
    · rw [if_neg (show ¬ ((g.clock - 1).toNat = i ∧ so g.cmp = true) from fun h => hp h.1)]
      simp only [List.getD, List.getElem?_set, if_neg hp]
  · rw [if_neg hs, if_neg (show ¬ ((g.clock - 1).toNat = i ∧ so g.cmp = true) from fun h => hs h.2)]
theorem low_or_up {c : Int} (h : 1 ≤ c ∧ c ≤ 5) : lowB c = true ∨ upB c = true := by
  simp only [lowB, upB, decide_eq_true_eq]; omega
end Go.Proofs.YtgmlimipejcpgaaGreatDoor
end

section
set_option linter.unusedVariables false
set_option linter.unusedSimpArgs false
namespace Go.Proofs.YtgmlimipejcpgaaGreatDoor
open Go Go.AM Fx
end Go.Proofs.YtgmlimipejcpgaaGreatDoor
end

section
set_option linter.unusedVariables false
set_option linter.unusedSimpArgs false
namespace Go.Proofs.YtgmlimipejcpgaaGreatDoor
open Go Go.AM Fx
/-- All references lead into the heap. -/
def HL (h : List B) : Prop := ∀ y ∈ h, y.lt h.length
theorem HL.set {h : List B} (hl : HL h) {i : Nat} {y : B} (hy : y.lt h.length) : HL (h.set i y) := fun z hz => by
  rw [List.length_set]
  rcases List.mem_or_eq_of_mem_set hz with h | h
  · exact hl z h
  · subst h; exact hy
theorem HL.get {h : List B} (hl : HL h) {i : Nat} {y : B} (hy : h[i]? = some y) : y.lt h.length := hl y (List.mem_of_getElem? hy)
theorem HL.push {h : List B} (hl : HL h) {y : B} (hy : y.lt (h.length + 1)) : HL (h ++ [y]) := fun z hz => by
  rw [List.length_append, List.length_singleton]
  rcases List.mem_append.1 hz with h | h
  · exact B.lt_mono (by omega) (hl z h)
  · rw [List.mem_singleton.1 h]; exact hy
theorem set_same {α : Type} {l : List α} {i : Nat} {a : α} (h : l[i]? = some a) : l.set i a = l := by
  obtain ⟨h1, h2⟩ := List.getElem?_eq_some_iff.1 h
  rw [← h2]; simp
theorem get_set_ne {h : List B} {i j : Nat} {y : B} (hne : i ≠ j) : (h.set i y)[j]? = h[j]? := by rw [List.getElem?_set, if_neg hne]
theorem get_set_eq {h : List B} {i : Nat} {y z : B} (hi : h[i]? = some z) : (h.set i y)[i]? = some y := by
  have := (List.getElem?_eq_some_iff.1 hi).1
  rw [List.getElem?_set, if_pos rfl, if_pos this]
def ivs (l : List Int) : List (List V) := l.map fun k => [V.int .i64 k]
def bookB (r g m : Nat) : B := .var [.nils, .nils, .ref r g 0 m, .nils, .nils, .nils, .nils, .nils, .nils, .nils, .nils, .nils, .nils, .nils]
def rv (x : Nat × Nat × Nat) : V := .ref x.1 x.2.1 0 x.2.2
theorem rowF_lt {T g f n : Nat} {xs : List (List V)} : (B.row T g f true xs).lt n := .inl rfl
theorem rowR_lt {T g f n : Nat} {fl : Bool} {xs : List (List V)} (h : ∀ x ∈ xs, V.lts n x = true) : (B.row T g f fl xs).lt n := .inr h
/-- While each list is written. -/
structure P1 (h : List B) (bk r g : Nat) (refs : List (Nat × Nat × Nat)) (i k : Nat) (hc : List B) : Prop where
  len : hc.length = h.length
  hl : HL hc
  bk : hc[bk]? = some (bookB r g refs.length)
  rr : hc[r]? = some (.row 47 g 0 false (refs.map fun x => [rv x]))
  rows : ∀ (j : Nat) (x : Nat × Nat × Nat), refs[j]? = some x → ∃ ns, hc[x.1]? = some (.row 3 x.2.1 0 true (ivs ns)) ∧ ns.length = x.2.2 ∧ ∀ q, q < x.2.2 → (j < i ∨ (j = i ∧ q < k)) → ns[q]? = some (-9000 - (j : Int))
  inj : ∀ (i j : Nat) (x y : Nat × Nat × Nat), refs[i]? = some x → refs[j]? = some y → x.1 = y.1 → i = j
  rest : ∀ b, b ≠ r → (∀ x ∈ refs, x.1 ≠ b) → hc[b]? = h[b]?
section
variable {h hc : List B} {bk r g i k : Nat} {refs : List (Nat × Nat × Nat)}
theorem ne_r {x : Nat × Nat × Nat} {ns cs : List (List V)} {f : Nat} {fl : Bool} {g' : Nat} (hr : hc[r]? = some (.row 47 g 0 false cs)) (hx : hc[x.1]? = some (.row 3 g' f fl ns)) : x.1 ≠ r := fun e => by
  rw [e, hr] at hx; cases hx
theorem bk_ne_r {cs : List (List V)} (hb : hc[bk]? = some (bookB r g k)) (hr : hc[r]? = some (.row 47 g 0 false cs)) : bk ≠ r := fun e => by
  rw [e, hr] at hb; cases hb
theorem P1.step (p : P1 h bk r g refs i k hc) {x : Nat × Nat × Nat} (hx : refs[i]? = some x) {ns : List Int} (hr : hc[x.1]? = some (.row 3 x.2.1 0 true (ivs ns))) (hn : ns.length = x.2.2) (hk : k < x.2.2) :
    P1 h bk r g refs i (k + 1) (hc.set x.1 (.row 3 x.2.1 0 true (ivs (ns.set k (-9000 - (i : Int)))))) := by
  have n1 : x.1 ≠ bk := fun e => by have := p.bk; rw [e, this] at hr; cases hr
  have n2 := ne_r p.rr hr
  refine ⟨by rw [List.length_set]; exact p.len, p.hl.set rowF_lt, by rw [get_set_ne n1]; exact p.bk, by rw [get_set_ne n2]; exact p.rr, fun j y hy => ?_, p.inj, fun b hb hb' => by rw [get_set_ne (hb' x (List.mem_of_getElem? hx))]; exact p.rest b hb hb'⟩
  by_cases e : j = i
  · subst e
    obtain rfl : x = y := by rw [hx] at hy; cases hy; rfl
    obtain ⟨ms, h1, h2, h3⟩ := p.rows j x hx
    have : ms = ns := by
      rw [hr] at h1
      simp only [Option.some.injEq, B.row.injEq, true_and] at h1
      have inj : ∀ (a b : List Int), ivs a = ivs b → a = b := fun a => by
        induction a with
        | nil => intro b hb; cases b <;> simp [ivs] at hb ⊢
        | cons z a ih =>
          intro b hb
          cases b with
          | nil => simp [ivs] at hb
          | cons w b =>
            simp only [ivs, List.map_cons, List.cons.injEq, V.int.injEq, true_and, and_true] at hb
            rw [hb.1, ih b hb.2]
      exact (inj _ _ h1).symm
    subst this
    refine ⟨_, get_set_eq hr, by simp [hn], fun q hq hj => ?_⟩
    rw [List.getElem?_set]
    by_cases e : k = q
    · subst e; rw [if_pos rfl, if_pos (by omega)]
    · rw [if_neg e]; exact h3 q hq (by omega)
  · obtain ⟨ms, h1, h2, h3⟩ := p.rows j y hy
    have hne : x.1 ≠ y.1 := fun e' => e (p.inj i j x y hx hy e').symm
    exact ⟨ms, by rw [get_set_ne hne]; exact h1, h2, fun q hq hj => h3 q hq (by omega)⟩
theorem P1.next (p : P1 h bk r g refs i k hc) {x : Nat × Nat × Nat} (hx : refs[i]? = some x) (hk : k = x.2.2) : P1 h bk r g refs (i + 1) 0 hc :=
  ⟨p.len, p.hl, p.bk, p.rr, fun j y hy => by
    obtain ⟨ms, h1, h2, h3⟩ := p.rows j y hy
    refine ⟨ms, h1, h2, fun q hq hj => h3 q hq ?_⟩
    by_cases e : j = i
    · subst e
      obtain rfl : x = y := by rw [hx] at hy; cases hy; rfl
      omega
    · omega, p.inj, p.rest⟩
/-- All places the same. -/
def repV (n : Nat) (v : Int) : List (List V) := List.replicate n [V.int .i64 v]
theorem ivs_rep {ns : List Int} {n : Nat} {v : Int} (hn : ns.length = n) (h : ∀ q, q < n → ns[q]? = some v) : ivs ns = repV n v := by
  have : ns = List.replicate n v := by
    apply List.ext_getElem?
    intro q
    by_cases hq : q < n
    · rw [h q hq]; simp [hq]
    · rw [List.getElem?_eq_none (by omega), List.getElem?_eq_none (by simp; omega)]
  subst this
  simp [ivs, repV]
/-- While each list is grown. -/
structure P2 (h : List B) (bk r g : Nat) (refs : List (Nat × Nat × Nat)) (i : Nat) (hc : List B) : Prop where
  len : hc.length = h.length + 1
  hl : HL hc
  bk : hc[bk]? = some (bookB r g refs.length)
  rr : ∃ cs : List (List V), hc[r]? = some (.row 47 g 0 false cs) ∧ cs.length = refs.length ∧ ∀ (j : Nat) (x : Nat × Nat × Nat), refs[j]? = some x → cs[j]? = some [if j < i then .vec (repV x.2.2 (-9000 - (j : Int))) x.2.2 else rv x]
  all : ∃ (fl : Bool) (ds : List (List V)), hc[h.length]? = some (.row 47 i 0 fl ds) ∧ ds.length = i ∧ ∀ (j : Nat) (x : Nat × Nat × Nat), j < i → refs[j]? = some x → ds[j]? = some [.ref x.1 (x.2.1 + 20) 0 (x.2.2 + 20)]
  rows : ∀ (j : Nat) (x : Nat × Nat × Nat), refs[j]? = some x → hc[x.1]? = some (if j < i then .row 3 (x.2.1 + 20) x.2.2 true (repV (x.2.2 + 20) (-9000 - (j : Int))) else .row 3 x.2.1 0 true (repV x.2.2 (-9000 - (j : Int))))
  inj : ∀ (i j : Nat) (x y : Nat × Nat × Nat), refs[i]? = some x → refs[j]? = some y → x.1 = y.1 → i = j
  rest : ∀ b, b < h.length → b ≠ r → (∀ x ∈ refs, x.1 ≠ b) → hc[b]? = h[b]?
theorem P1.p2 (p : P1 h bk r g refs refs.length 0 hc) : P2 h bk r g refs 0 (hc ++ [.row 47 0 0 true []]) := by
  have hlt : ∀ {b : Nat} {y : B}, hc[b]? = some y → (hc ++ [B.row 47 0 0 true []])[b]? = some y := fun {b y} hy => by
    rw [List.getElem?_append_left (List.getElem?_eq_some_iff.1 hy).1]; exact hy
  refine ⟨by rw [List.length_append, p.len]; rfl, p.hl.push rowF_lt, hlt p.bk, ⟨_, hlt p.rr, by simp, fun j x hx => ?_⟩, ⟨true, [], ?_, rfl, fun j x hj => by omega⟩, fun j x hx => ?_, p.inj, fun b hb hb1 hb2 => ?_⟩
  · rw [List.getElem?_map, hx, if_neg (by omega)]; rfl
  · rw [← p.len]; simp
  · obtain ⟨ns, h1, h2, h3⟩ := p.rows j x hx
    have hj := (List.getElem?_eq_some_iff.1 hx).1
    rw [if_neg (by omega), hlt h1, ivs_rep h2 fun q hq => h3 q hq (.inl hj)]
  · rw [List.getElem?_append_left (by rw [p.len]; exact hb)]; exact p.rest b hb1 hb2
/-- The heap while the list i is grown: k places more. -/
def grown (hc : List B) (r g i : Nat) (cs : List (List V)) (x : Nat × Nat × Nat) (v : Int) (k : Nat) : List B :=
  (hc.set r (.row 47 g 0 false (cs.set i [.vec (repV x.2.2 v) x.2.2]))).set x.1 (.row 3 (x.2.1 + k) x.2.2 true (repV (x.2.2 + k) v))
theorem P2.grows (p : P2 h bk r g refs i hc) {x : Nat × Nat × Nat} (hx : refs[i]? = some x) {cs ds : List (List V)} {fl : Bool} (hcs : hc[r]? = some (.row 47 g 0 false cs)) (hds : hc[h.length]? = some (.row 47 i 0 fl ds)) (v : Int) (k : Nat) :
    (grown hc r g i cs x v k).length = h.length + 1 ∧ HL (grown hc r g i cs x v k) ∧ (grown hc r g i cs x v k)[h.length]? = some (.row 47 i 0 fl ds) ∧
    (grown hc r g i cs x v k)[x.1]? = some (.row 3 (x.2.1 + k) x.2.2 true (repV (x.2.2 + k) v)) ∧ x.1 ≠ bk ∧ x.1 ≠ r ∧ bk ≠ r ∧ x.1 ≠ h.length ∧ bk ≠ h.length ∧ r ≠ h.length := by
  have hrow := p.rows i x hx
  rw [if_neg (by omega)] at hrow
  have n1 : x.1 ≠ bk := fun e => by have := p.bk; rw [e, this] at hrow; cases hrow
  have n2 : x.1 ≠ r := ne_r hcs hrow
  have n3 : bk ≠ r := bk_ne_r p.bk hcs
  have n4 : x.1 ≠ h.length := fun e => by rw [e, hds] at hrow; cases hrow
  have n5 : bk ≠ h.length := fun e => by have := p.bk; rw [e, hds] at this; cases this
  have n6 : r ≠ h.length := fun e => by
    have hr : r < hc.length := (List.getElem?_eq_some_iff.1 hcs).1
    have h1 := (p.hl.get hcs)
    have h2 := p.hl.get p.bk
    obtain ⟨cs', q1, q2, q3⟩ := p.rr
    obtain ⟨fl', ds', t1, t2, t3⟩ := p.all
    rw [e, t1] at q1
    have hi := (List.getElem?_eq_some_iff.1 hx).1
    cases q1
    omega
  have hi := (List.getElem?_eq_some_iff.1 hx).1
  obtain ⟨cs', q1, q2, q3⟩ := p.rr
  obtain rfl : cs' = cs := by rw [hcs] at q1; cases q1; rfl
  obtain ⟨fl', ds', t1, t2, t3⟩ := p.all
  obtain ⟨rfl, rfl⟩ : fl' = fl ∧ ds' = ds := by rw [hds] at t1; cases t1; exact ⟨rfl, rfl⟩
  have hxl : x.1 < h.length + 1 := by rw [← p.len]; exact (List.getElem?_eq_some_iff.1 hrow).1
  have hcsl : ∀ y ∈ cs'.set i [V.vec (repV x.2.2 v) x.2.2], V.lts hc.length y = true := fun y hy => by
    rcases List.mem_or_eq_of_mem_set hy with h | h
    · exact ((p.hl.get hcs).resolve_left (by simp)) y h
    · subst h; simp
  have e1 : (hc.set r (.row 47 g 0 false (cs'.set i [V.vec (repV x.2.2 v) x.2.2])))[x.1]? = hc[x.1]? := get_set_ne (fun e => n2 e.symm)
  exact ⟨by simp only [Go.Proofs.YtgmlimipejcpgaaGreatDoor.grown, List.length_set]; exact p.len, (p.hl.set (rowR_lt hcsl)).set rowF_lt, by rw [Go.Proofs.YtgmlimipejcpgaaGreatDoor.grown, get_set_ne n4, get_set_ne n6]; exact t1, get_set_eq (e1.trans hrow), n1, n2, n3, n4, n5, n6⟩
theorem P2.step (p : P2 h bk r g refs i hc) {x : Nat × Nat × Nat} (hx : refs[i]? = some x) {cs ds : List (List V)} {fl : Bool} (hcs : hc[r]? = some (.row 47 g 0 false cs)) (hds : hc[h.length]? = some (.row 47 i 0 fl ds)) :
    P2 h bk r g refs (i + 1) ((grown hc r g i cs x (-9000 - (i : Int)) 20).set h.length (.row 47 (i + 1) 0 false (ds ++ [[.ref x.1 (x.2.1 + 20) 0 (x.2.2 + 20)]]))) := by
  obtain ⟨hg_len, hg_hl, hg_all, hg_x, n1, n2, n3, n4, n5, n6⟩ := p.grows hx hcs hds (-9000 - (i : Int)) 20
  have hrow := p.rows i x hx
  rw [if_neg (by omega)] at hrow
  have hi := (List.getElem?_eq_some_iff.1 hx).1
  obtain ⟨cs', q1, q2, q3⟩ := p.rr
  obtain rfl : cs' = cs := by rw [hcs] at q1; cases q1; rfl
  obtain ⟨fl', ds', t1, t2, t3⟩ := p.all
  obtain ⟨rfl, rfl⟩ : fl' = fl ∧ ds' = ds := by rw [hds] at t1; cases t1; exact ⟨rfl, rfl⟩
  have hxl : x.1 < h.length + 1 := by rw [← p.len]; exact (List.getElem?_eq_some_iff.1 hrow).1
  have hdl : ∀ y ∈ ds' ++ [[V.ref x.1 (x.2.1 + 20) 0 (x.2.2 + 20)]], V.lts (h.length + 1) y = true := fun y hy => by
    rcases List.mem_append.1 hy with h | h
    · obtain ⟨j, hj⟩ := List.getElem?_of_mem h
      have hjl := (List.getElem?_eq_some_iff.1 hj).1
      have hjr : j < refs.length := by omega
      have := t3 j refs[j] (by omega) (List.getElem?_eq_getElem hjr)
      rw [hj] at this; cases this
      have h5 := p.rows j refs[j] (List.getElem?_eq_getElem hjr)
      have h6 := (List.getElem?_eq_some_iff.1 h5).1
      rw [p.len] at h6
      simp [h6]
    · rw [List.mem_singleton.1 h]; simp [hxl]
  refine ⟨by rw [List.length_set]; exact hg_len, hg_hl.set (rowR_lt (by rw [hg_len]; exact hdl)), ?_, ⟨cs'.set i [V.vec (repV x.2.2 (-9000 - (i : Int))) x.2.2], ?_, by rw [List.length_set]; exact q2, fun j y hy => ?_⟩, ⟨false, ds' ++ [[.ref x.1 (x.2.1 + 20) 0 (x.2.2 + 20)]], get_set_eq hg_all, by simp [t2], fun j y hj hy => ?_⟩, fun j y hy => ?_, p.inj, fun b hb hb1 hb2 => ?_⟩
  · rw [get_set_ne (fun e => n5 e.symm), Go.Proofs.YtgmlimipejcpgaaGreatDoor.grown, get_set_ne n1, get_set_ne (fun e => n3 e.symm)]; exact p.bk
  · rw [get_set_ne (fun e => n6 e.symm), Go.Proofs.YtgmlimipejcpgaaGreatDoor.grown, get_set_ne n2]; exact get_set_eq hcs
  · rw [List.getElem?_set]
    by_cases e : i = j
    · subst e
      obtain rfl : x = y := by rw [hx] at hy; cases hy; rfl
      rw [if_pos rfl, if_pos (by omega), if_pos (by omega)]
    · rw [if_neg e, q3 j y hy]
      by_cases e2 : j < i
      · rw [if_pos e2, if_pos (by omega)]
      · rw [if_neg e2, if_neg (by omega)]
  · by_cases e : j = i
    · subst e
      obtain rfl : x = y := by rw [hx] at hy; cases hy; rfl
      rw [List.getElem?_append_right (by omega), t2]; simp
    · rw [List.getElem?_append_left (by omega)]; exact t3 j y (by omega) hy
  · have hjn : y.1 ≠ h.length := fun e => by
      have h5 := p.rows j y hy
      rw [e, t1] at h5
      by_cases e2 : j < i
      · rw [if_pos e2] at h5; cases h5
      · rw [if_neg e2] at h5; cases h5
    rw [get_set_ne (fun e => hjn e.symm), Go.Proofs.YtgmlimipejcpgaaGreatDoor.grown]
    by_cases e : j = i
    · subst e
      obtain rfl : x = y := by rw [hx] at hy; cases hy; rfl
      rw [if_pos (by omega)]
      exact get_set_eq (z := .row 3 x.2.1 0 true (repV x.2.2 (-9000 - (j : Int)))) (by rw [get_set_ne (fun e => n2 e.symm)]; exact hrow)
    · have hne : x.1 ≠ y.1 := fun e' => e (p.inj i j x y hx hy e').symm
      have h5 := p.rows j y hy
      have hyr : r ≠ y.1 := fun e' => by
        rw [← e', hcs] at h5
        by_cases e2 : j < i
        · rw [if_pos e2] at h5; cases h5
        · rw [if_neg e2] at h5; cases h5
      rw [get_set_ne hne, get_set_ne hyr, h5]
      by_cases e2 : j < i
      · rw [if_pos e2, if_pos (by omega)]
      · rw [if_neg e2, if_neg (by omega)]
  · rw [get_set_ne (by omega), Go.Proofs.YtgmlimipejcpgaaGreatDoor.grown, get_set_ne (hb2 x (List.mem_of_getElem? hx)), get_set_ne (fun e => hb1 e.symm)]; exact p.rest b hb hb1 hb2
end
end Go.Proofs.YtgmlimipejcpgaaGreatDoor
end

section
set_option linter.unusedVariables false
set_option linter.unusedSimpArgs false
namespace Go.Proofs.YtgmlimipejcpgaaGreatDoor
open Go Go.AM Fx
theorem Leaves.symx {h0 h x : List B} (h1 : h0.length ≤ h.length) (hl : HL h) : Go.AM.Leaves h0 (h ++ x) h :=
  ⟨h1, by simp, fun b y hy => .inr ⟨by rw [List.getElem?_append_left (List.getElem?_eq_some_iff.1 hy).1]; exact hy, .inr (hl.get hy)⟩⟩
theorem set_app {h x : List B} {i : Nat} {y : B} (hi : i < h.length) : (h ++ x).set i y = h.set i y ++ x := by rw [List.set_append, if_pos hi]
theorem get_app {h x : List B} {i : Nat} (hi : i < h.length) : (h ++ x)[i]? = h[i]? := List.getElem?_append_left hi
end Go.Proofs.YtgmlimipejcpgaaGreatDoor
end

section
set_option linter.unusedVariables false
set_option linter.unusedSimpArgs false
namespace Go.Proofs.YtgmlimipejcpgaaGreatDoor
open Go Go.AM Fx
end Go.Proofs.YtgmlimipejcpgaaGreatDoor
end

section
set_option linter.unusedVariables false
set_option linter.unusedSimpArgs false
namespace Go.Proofs.YtgmlimipejcpgaaGreatDoor
open Go Go.AM Fx
def lookF (n : NetD) : List (List PartD) → Int
  | [] => 0
  | g :: r => if goalE n g ≠ 0 then goalE n g else lookF n r
theorem lookF_nil {n : NetD} : lookF n [] = 0 := rfl
theorem lookF_cons {n : NetD} {g : List PartD} {r : List (List PartD)} : lookF n (g :: r) = if goalE n g ≠ 0 then goalE n g else lookF n r := rfl
def lookE (n : NetD) (gs : List (List PartD)) : Int := if netE n ≠ 0 then netE n else lookF n gs
set_option maxRecDepth 20000 in
set_option maxHeartbeats 8000000 in
theorem c_look (n : NetD) (hn : n.ok) (gs : List (List PartD)) (hgl : gs.length ≤ 1048576) (hgs : ∀ g ∈ gs, okGoal g) : PC 98 [.agg n.cells, gsV gs] (.int .i64 (lookE n gs)) := by
  have hN := c_Net n hn
  obtain ⟨r, hr⟩ : ∃ r, lookE n gs = r := ⟨_, rfl⟩
  rw [hr]
  unfold lookE at hr
  simp only [vl, NetD.cells] at hN
  refine PCall_body Tryz.func98 rfl (by decide) Tryz.ntmps98 (by simp) Tryz.results98 ?_
  by_cases hz : netE n = 0
  · rw [if_neg (by simp [hz])] at hr
    rw [hz] at hN
    repeat' (first
 |refine AW_seq_k fun K hK=>?_|refine Step.by1 ?_|refine SBlock_exit_ne (by decide) ?_|refine cz rfl ?_|refine Fork.by2 (fun h=>?_) fun h=>?_
 |((first|refine AW_region_AO ?_|refine AS_call1 (f:=15) rfl rfl (hN) rfl rfl rfl ?_);simp [gsV, vl, NetD.cells])
 |(refine Split.by2 (fun h=>?_) (fun h=>?_)<;>(simp [h, gsV, vl, NetD.cells]))
 |(apply hK;clear hK K)|refine AWh (by assumption) ?_)
    refine AW_scan (r := r) gs 16 [2, 14, 15] (lookF n) hr (by apply Weak.mk' <;> simp [gsV, vl, NetD.cells]) ?_ ?_
    · intro i g _ hlt hg hF
      rw [lookF_cons] at hF
      have hc := c_Goal n hn g (hgs g (hg ▸ List.getElem_mem hlt))
      have hlt' : (i : Int) < gs.length := by omega
      have w1 : IntKind.i64.wrap ((i : Int) + 1) = i + 1 := wrap_i64 (by omega) (by omega)
      simp only [vl, NetD.cells] at hc
      generalize goalE n g = e at *
      by_cases he : e = 0
      · rw [if_neg (by simp [he])] at hF
        rw [he] at hc
        repeat' (first
 |refine AW_seq_k fun K hK=>?_|refine Step.by1 ?_|refine SBlock_exit_ne (by decide) ?_|refine cz rfl ?_|refine Fork.by2 (fun h=>?_) fun h=>?_
 |((first|refine AW_region_AO ?_|refine AS_call1 (f:=19) rfl rfl (hc) rfl rfl rfl ?_);simp [gsV, vl, NetD.cells, hlt, hlt', hg, w1])
 |(refine Split.by2 (fun h=>?_) (fun h=>?_)<;>(simp [h, gsV, vl, NetD.cells, hlt, hlt', hg, w1]))
 |(apply hK;clear hK K)|refine AWh (by assumption) ?_)
        refine ⟨hF, ?_⟩; apply Weak.mk' <;> simp [gsV, vl, NetD.cells]
      · rw [if_pos he] at hF
        subst hF
        repeat' (first
 |refine AW_seq_k fun K hK=>?_|refine Step.by1 ?_|refine SBlock_exit_ne (by decide) ?_|refine cz rfl ?_|refine Fork.by2 (fun h=>?_) fun h=>?_
 |((first|refine AW_region_AO ?_|refine AS_call1 (f:=19) rfl rfl (hc) rfl rfl rfl ?_);simp [gsV, vl, NetD.cells, hlt, hlt', hg, he])
 |(refine Split.by2 (fun h=>?_) (fun h=>?_)<;>(simp [h, gsV, vl, NetD.cells, hlt, hlt', hg, he]))
 |(apply hK;clear hK K)|refine AWh (by assumption) ?_)
        exact retq1 (conv_eq rfl rfl)
    · intro hF
      rw [lookF_nil] at hF
      repeat' (first
 |refine AW_seq_k fun K hK=>?_|refine Step.by1 ?_|refine SBlock_exit_ne (by decide) ?_|refine cz rfl ?_|refine Fork.by2 (fun h=>?_) fun h=>?_
 |(refine AW_region_AO ?_;simp [gsV, vl, NetD.cells])
 |(refine Split.by2 (fun h=>?_) (fun h=>?_)<;>(simp [h, gsV, vl, NetD.cells]))
 |(apply hK;clear hK K)|refine AWh (by assumption) ?_)
      exact retq1 (conv_eq (by rw [← hF]; rfl) rfl)
  · rw [if_pos hz] at hr
    subst hr
    repeat' (first
 |refine AW_seq_k fun K hK=>?_|refine Step.by1 ?_|refine SBlock_exit_ne (by decide) ?_|refine cz rfl ?_|refine Fork.by2 (fun h=>?_) fun h=>?_
 |((first|refine AW_region_AO ?_|refine AS_call1 (f:=15) rfl rfl (hN) rfl rfl rfl ?_);simp [gsV, vl, NetD.cells, hz])
 |(refine Split.by2 (fun h=>?_) (fun h=>?_)<;>(simp [h, gsV, vl, NetD.cells, hz]))
 |(apply hK;clear hK K)|refine AWh (by assumption) ?_)
    exact retq1 (conv_eq rfl rfl)
def bvs (l : List Bool) : List (List V) := l.map fun b => [V.bool b]
def useL (l : List GuardD) (m : List Bool) : List Bool := l.foldl (fun m g => m.set (g.clock - 1).toNat true) m
theorem useL_nil {m : List Bool} : useL [] m = m := rfl
theorem useL_cons {g : GuardD} {l : List GuardD} {m : List Bool} : useL (g :: l) m = useL l (m.set (g.clock - 1).toNat true) := rfl
theorem useL_len : ∀ {l : List GuardD} {m : List Bool}, (useL l m).length = m.length
  | [], m => rfl
  | g :: l, m => by rw [useL_cons, useL_len]; simp
set_option maxRecDepth 20000 in
set_option maxHeartbeats 8000000 in
theorem c_use {h : List B} {b g : Nat} {m : List Bool} (hl : HL h) (h1 : h[b]? = some (.row 4 g 0 true (bvs m))) (l : List GuardD) (hll : l.length ≤ 1048576) (hm : m.length ≤ 1048576) (hg : ∀ x ∈ l, okG m.length x) :
    GCall Tryz.prog GV 162 [.ref b g 0 m.length, vl GuardD.cells l] h (fun v h' => v = .tup [] ∧ h' = h.set b (.row 4 g 0 true (bvs (useL l m)))) := by
  have hb := (List.getElem?_eq_some_iff.1 h1).1
  have hlx : ∀ c : List Bool, HL (h.set b (.row 4 g 0 true (bvs c))) := fun c => hl.set rowF_lt
  have hbx : ∀ c : List Bool, (h.set b (.row 4 g 0 true (bvs c)))[b]? = some (.row 4 g 0 true (bvs c)) := fun c => get_set_eq h1
  have hnx : ∀ c : List Bool, (h.set b (.row 4 g 0 true (bvs c))).length = h.length := fun c => List.length_set ..
  have hsx : ∀ c d : List Bool, h.set b (.row 4 g 0 true (bvs d)) = (h.set b (.row 4 g 0 true (bvs c))).set b (.row 4 g 0 true (bvs d)) := fun c d => by rw [List.set_set]
  refine GCall_body Tryz.func162 rfl (by decide) Tryz.ntmps162 (by simp) Tryz.results162 ?_
  repeat' (first
 |refine AW_seq_k fun K hK=>?_|refine Step.by1 ?_|refine SBlock_exit_ne (by decide) ?_|refine cz rfl ?_|refine Fork.by2 (fun h=>?_) fun h=>?_
 |(refine AW_region_AO ?_;simp [vl])
 |(refine Split.by2 (fun h=>?_) (fun h=>?_)<;>(simp [h, vl]))
 |(apply hK;clear hK K)|refine AWh (by assumption) ?_)
  refine AW_range (r := useL l m) l 8 [0, 6, 7] (fun _ : List Bool => []) (fun c => h.set b (.row 4 g 0 true (bvs c))) (fun i c => c.length = m.length) useL m
    rfl rfl (Weak.sym (x := []) (by simp [set_same h1]) (hlx m) (by simp [vl, hb])) (fun _ c _ => by rw [hnx]) ?_ ?_
  · intro i c x _ hlt hx hJ hF
    rw [useL_cons] at hF
    obtain ⟨g1, g2⟩ := hg x (hx ▸ List.getElem_mem hlt)
    have hlt' : (i : Int) < l.length := by omega
    have w1 : IntKind.i64.wrap ((i : Int) + 1) = i + 1 := wrap_i64 (by omega) (by omega)
    have w2 : IntKind.i64.wrap (x.clock - 1) = x.clock - 1 := wrap_i64 (by omega) (by omega)
    obtain ⟨p, hp⟩ := Int.eq_ofNat_of_zero_le (show 0 ≤ x.clock - 1 by omega)
    have hpl : p < c.length := by omega
    have hpm : p < m.length := by omega
    have hpm' : (p : Int) < m.length := by omega
    rw [hp] at hF w2
    have hpt : ((p : Int)).toNat = p := by omega
    rw [hpt] at hF
    have f1 := hlx c
    have f2 := hbx c
    have f3 := hnx c
    have f4 := hsx c (c.set p true)
    have f5 := hlx (c.set p true)
    have f6 := hnx (c.set p true)
    have hbc : b < (h.set b (.row 4 g 0 true (bvs c))).length := by rw [f3]; exact hb
    have hcl : (bvs c).length = m.length := by simp [bvs, hJ]
    have hcp : (bvs c)[p]'(by rw [hcl]; exact hpm) = [V.bool c[p]] := by simp [bvs]
    have hbs : (bvs c).set p [V.bool true] = bvs (c.set p true) := by simp [bvs, List.map_set]
    generalize h.set b (.row 4 g 0 true (bvs c)) = hc at *
    repeat' (first
 |refine AW_seq_k fun K hK=>?_|refine Step.by1 ?_|refine SBlock_exit_ne (by decide) ?_|refine cz rfl ?_|refine Fork.by2 (fun h=>?_) fun h=>?_
 |(refine AW_region_AO ?_;simp [vl, GuardD.cells, hlt, hlt', hx, w1, hp, w2, f2, get_app hbc, hpm, hpm', hcl, hcp, hbs])
 |(refine Split.by2 (fun h=>?_) (fun h=>?_)<;>(simp [h, vl, GuardD.cells, hlt, hlt', hx, w1, hp, w2, f2, get_app hbc, hpm, hpm', hcl, hcp, hbs]))
 |(apply hK;clear hK K)|refine AWh (by assumption) ?_)
    refine ⟨c.set p true, hF, by simp [hJ], Weak.sym (x := [.var x.cells]) (by rw [f4]; simp [set_app hbc, GuardD.cells]) f5 (by simp [vl, f6, hb])⟩
  · intro c hJ hF
    rw [useL_nil] at hF
    subst hF
    repeat' (first
 |refine AW_seq_k fun K hK=>?_|refine Step.by1 ?_|refine SBlock_exit_ne (by decide) ?_|refine cz rfl ?_|refine Fork.by2 (fun h=>?_) fun h=>?_
 |(refine AW_region_AO ?_;simp [vl])
 |(refine Split.by2 (fun h=>?_) (fun h=>?_)<;>(simp [h, vl]))
 |(apply hK;clear hK K)|refine AWh (by assumption) ?_)
    exact ⟨.inl rfl, _, _, ⟨[], rfl, trivial⟩, ⟨rfl, rfl⟩, rfl, Go.AM.Leaves.sym (by rw [hnx]; exact Nat.le_refl _) (hlx _)⟩
end Go.Proofs.YtgmlimipejcpgaaGreatDoor
end

section
set_option linter.unusedVariables false
set_option linter.unusedSimpArgs false
namespace Go.Proofs.YtgmlimipejcpgaaGreatDoor
open Go Go.AM Fx
def namedB (c : Int) (l : List GuardD) : Bool := anyL (fun g => decide (g.clock = c)) l
def setsB (c : Int) (l : List SetD) : Bool := anyL (fun s => decide (s.clock = c)) l
theorem namedB_nil {c : Int} : namedB c [] = false := anyL_nil
theorem namedB_cons {c : Int} {g : GuardD} {l : List GuardD} : namedB c (g :: l) = (decide (g.clock = c) || namedB c l) := anyL_cons
theorem setsB_nil {c : Int} : setsB c [] = false := anyL_nil
theorem setsB_cons {c : Int} {s : SetD} {l : List SetD} : setsB c (s :: l) = (decide (s.clock = c) || setsB c l) := anyL_cons
/-- A clock that guards name at a location, on an edge from there, or in a goal. -/
def usedPs (c : Int) (X : Bool) : List PartD → Bool
  | [] => X
  | p :: l => namedB c p.guards || usedPs c X l
def usedGs (c : Int) : List (List PartD) → Bool
  | [] => false
  | g :: l => usedPs c (usedGs c l) g
def usedEs (i : Nat) (c : Int) (X : Bool) : List EdgeD → Bool
  | [] => X
  | e :: l => (decide (e.frm = i) && namedB c e.guards) || usedEs i c X l
theorem usedPs_nil {c : Int} {X : Bool} : usedPs c X [] = X := rfl
theorem usedPs_cons {c : Int} {X : Bool} {p : PartD} {l : List PartD} : usedPs c X (p :: l) = (namedB c p.guards || usedPs c X l) := rfl
theorem usedGs_nil {c : Int} : usedGs c [] = false := rfl
theorem usedGs_cons {c : Int} {g : List PartD} {l : List (List PartD)} : usedGs c (g :: l) = usedPs c (usedGs c l) g := rfl
theorem usedEs_cons {i : Nat} {c : Int} {X : Bool} {e : EdgeD} {l : List EdgeD} : usedEs i c X (e :: l) = ((decide (e.frm = i) && namedB c e.guards) || usedEs i c X l) := rfl
def usedB (a : AutoD) (gs : List (List PartD)) (i : Nat) (c : Int) : Bool := namedB c (a.locs.getD i default).inv || usedEs i c (usedGs c gs) a.edges
end Go.Proofs.YtgmlimipejcpgaaGreatDoor
end

section
set_option linter.unusedVariables false
set_option linter.unusedSimpArgs false
namespace Go.Proofs.YtgmlimipejcpgaaGreatDoor
open Go Go.AM Fx
inductive Act (a : AutoD) (gs : List (List PartD)) (c : Int) : Nat → Prop
  | use {i : Nat} (hi : i < a.locs.length) (h : usedB a gs i c = true) : Act a gs c i
  | edge {e : EdgeD} (he : e ∈ a.edges) (hto : Act a gs c e.to.toNat) (hs : setsB c e.sets = false) : Act a gs c e.frm.toNat
open Classical in
noncomputable def actB (a : AutoD) (gs : List (List PartD)) (c : Int) (i : Nat) : Bool := decide (Act a gs c i)
/-- Edges that lead from and to places of the automaton. -/
def okE (a : AutoD) : Prop := ∀ e ∈ a.edges, (0 ≤ e.frm ∧ e.frm < a.locs.length) ∧ (0 ≤ e.to ∧ e.to < a.locs.length)
def falses (l : List Bool) : Nat := (l.filter fun b => !b).length
theorem falses_set : ∀ {l : List Bool} {i : Nat}, l[i]? = some false → falses (l.set i true) + 1 = falses l
  | [], i, h => by simp at h
  | b :: l, 0, h => by simp at h; subst h; simp [falses]
  | b :: l, i + 1, h => by
    have := falses_set (l := l) (i := i) (by simpa using h)
    cases b <;> simp [falses] at this ⊢ <;> omega
end Go.Proofs.YtgmlimipejcpgaaGreatDoor
end

section
set_option linter.unusedVariables false
set_option linter.unusedSimpArgs false
namespace Go.Proofs.YtgmlimipejcpgaaGreatDoor
open Go Go.AM Fx
end Go.Proofs.YtgmlimipejcpgaaGreatDoor
end

section
set_option linter.unusedVariables false
set_option linter.unusedSimpArgs false
namespace Go.Proofs.YtgmlimipejcpgaaGreatDoor
open Go Go.AM Fx
theorem edges_ok {n : NetD} (h : wholeE n = 0) : ∀ a ∈ n.autos, okE a := by
  unfold wholeE at h
  have h1 := (firstE_zero (firstE_zero (firstE_zero (firstE_zero (firstE_zero (firstE_zero h).2).2).2).2).2).1
  intro a ha e he
  unfold edgesE at h1
  by_cases hb : anyL (fun a => anyL (edgeB n a) a.edges) n.autos = true
  · rw [if_pos hb] at h1; cases h1
  · have h2 : edgeB n a e = false := by
      cases hc : edgeB n a e
      · rfl
      · exact absurd (List.any_eq_true.2 ⟨a, ha, List.any_eq_true.2 ⟨e, he, hc⟩⟩) hb
    simp only [edgeB, isLoc, Bool.or_eq_false_iff, Bool.not_eq_false', decide_eq_true_eq] at h2
    exact ⟨by omega, by omega⟩
/-- The clocks, counted from 1, that are active. -/
noncomputable def actL (a : AutoD) (gs : List (List PartD)) (loc k : Nat) : List Int := ((List.range k).filter fun c : Nat => actB a gs ((c : Int) + 1) loc).map fun c : Nat => (c : Int) + 1
theorem actL_succ {a : AutoD} {gs : List (List PartD)} {loc k : Nat} : actL a gs loc (k + 1) = if actB a gs ((k : Int) + 1) loc = true then actL a gs loc k ++ [(k : Int) + 1] else actL a gs loc k := by
  unfold actL
  rw [List.range_succ, List.filter_append, List.map_append]
  by_cases h : actB a gs ((k : Int) + 1) loc = true <;> simp [h]
def badLoc (n : NetD) (au lo : Int) : Prop := au < 0 ∨ (n.autos.length : Int) ≤ au ∨ lo < 0 ∨ ((n.autos.getD au.toNat default).locs.length : Int) ≤ lo
instance {n : NetD} {au lo : Int} : Decidable (badLoc n au lo) := by unfold badLoc; infer_instance
/-- The clocks and the error: what both tell. -/
noncomputable def clksL (n : NetD) (au lo : Int) (gs : List (List PartD)) : List Int :=
  if lookE n gs ≠ 0 then [] else if badLoc n au lo then [] else actL (n.autos.getD au.toNat default) gs lo.toNat n.clocks.length
def clksE (n : NetD) (au lo : Int) (gs : List (List PartD)) : Int :=
  if lookE n gs ≠ 0 then lookE n gs else if badLoc n au lo then 122 else 0
end Go.Proofs.YtgmlimipejcpgaaGreatDoor
end

section
set_option linter.unusedVariables false
set_option linter.unusedSimpArgs false
namespace Go.Proofs.YtgmlimipejcpgaaGreatDoor
open Go Go.AM Fx
end Go.Proofs.YtgmlimipejcpgaaGreatDoor
end

section
set_option linter.unusedVariables false
set_option linter.unusedSimpArgs false
namespace Go.AM
open Go.MapKept
def imap (l : List (Int × V)) : List (V × V) := l.map fun p => (.int .i64 p.1, p.2)
def iget (l : List (Int × V)) (s : Int) : Option V := (l.find? fun p => p.1 = s).map (·.2)
def iput (l : List (Int × V)) (s : Int) (v : V) : List (Int × V) := match l.findIdx? fun p => p.1 = s with
  | some j => l.set j (s, v)
  | none => l ++ [(s, v)]
section
variable {P : Program} {ge : GEnv} {st : St} {Q : Exit → St → Prop}
variable {d : Option Tmp} {t : TypeId} {p : String} {af : Array Edge} {g : Option (Nat × Bool)}
/-- The keys of a map's entries are the ints. -/
theorem ents_keysI {G : Gh} {w : World} {l : List (Int × V)} {ents : Array MapEntry} (hs : ents.size = (imap l).length)
    (hc : ∀ (i : Nat) (e : V × V) (c : MapEntry), (imap l)[i]? = some e → ents[i]? = some c → R G w true e.1 c.key ∧ R G w true e.2 c.val) :
    (∀ x ∈ ents.toList, IsKey (.int .i64) x.key) ∧ ∀ (j : Nat) (c : MapEntry), ents[j]? = some c → ∃ q, l[j]? = some q ∧ c.key = .int .i64 q.1 ∧ R G w true q.2 c.val := by
  have key : ∀ (j : Nat) (c : MapEntry), ents[j]? = some c → ∃ q, l[j]? = some q ∧ c.key = .int .i64 q.1 ∧ R G w true q.2 c.val := fun j c hj => by
    have hlt := (Array.getElem?_eq_some_iff.1 hj).1
    have hl : j < l.length := by rw [hs] at hlt; simpa [imap] using hlt
    have he : (imap l)[j]? = some (.int .i64 l[j].1, l[j].2) := by simp [imap, hl]
    obtain ⟨h1, h2⟩ := hc j _ c he hj
    exact ⟨l[j], List.getElem?_eq_getElem hl, h1.inv_int, h2⟩
  refine ⟨fun x hx => ?_, key⟩
  obtain ⟨j, hj⟩ := List.getElem?_of_mem hx
  obtain ⟨q, _, hq, _⟩ := key j x (by simpa using hj)
  rw [hq]; simp [IsKey]
theorem find_atI {l : List (Int × V)} (hn : (l.map (·.1)).Nodup) {j : Nat} {q : Int × V} (hj : l[j]? = some q) : iget l q.1 = some q.2 ∧ l.findIdx? (fun p => p.1 = q.1) = some j := by
  induction l generalizing j with
  | nil => simp at hj
  | cons a r ih =>
    rw [List.map_cons, List.nodup_cons] at hn
    cases j with
    | zero =>
      simp at hj; subst hj
      exact ⟨by simp [iget], by simp [List.findIdx?_cons]⟩
    | succ j =>
      have hj' : r[j]? = some q := by simpa using hj
      obtain ⟨h1, h2⟩ := ih hn.2 hj'
      have hne : ¬ a.1 = q.1 := fun e => hn.1 (by rw [e]; exact List.mem_map_of_mem (List.mem_of_getElem? hj'))
      refine ⟨?_, ?_⟩
      · unfold iget at h1 ⊢; rw [List.find?_cons]; simp only [hne, decide_false]; exact h1
      · rw [List.findIdx?_cons]; simp [hne, h2]
theorem find_noneI {l : List (Int × V)} {s : Int} (h : ∀ q ∈ l, q.1 ≠ s) : iget l s = none ∧ l.findIdx? (fun p => p.1 = s) = none := by
  constructor
  · unfold iget
    rw [List.find?_eq_none.2 (fun x hx => by simpa using h x hx)]; rfl
  · rw [List.findIdx?_eq_none_iff]; intro x hx; simpa using h x hx
theorem S_lookupI {T kt et : TypeId} {x y : Operand} {b : Nat} {l : List (Int × V)} {s : Int} {zv : Value} (hT : P.underlying T = some (.map kt et)) (hkt : P.underlying kt = some (.int .i64)) (hz : (P.info? et).bind (·.zero) = some zv)
    (hx : ev ge st.tm x = .mp b) (hb : st.h[b]? = some (.map (imap l))) (hy : ev ge st.tm y = .int .i64 s) (hn : (l.map (·.1)).Nodup) :
    OpS P ge st ⟨d, .lookup T x y false, t, p, af, g⟩ ((iget l s).getD (V.ofCell zv)) st.h := by
  refine OpS_pure fun G a w hr => ?_
  have hvx := hr.ev x
  have hvy := hr.ev y
  rw [hx] at hvx
  rw [hy] at hvy
  obtain ⟨k, hck, hm⟩ := inv_mp hvx
  have hcy := hvy.inv_int
  obtain ⟨h00, k', ents, clock, hm', hh, hs, hc⟩ := hr.rh.bl b _ hb
  rw [hm] at hm'; cases hm'
  obtain ⟨hks, hkey⟩ := ents_keysI hs hc
  rcases findNow_spec (d := .int .i64) (k := .int .i64 s) (by simp [IsKey]) ents.toList 0 hks with ⟨h1, h2⟩ | ⟨j, e, h1, h2, h3⟩
  · have hnone : iget l s = none := (find_noneI fun q hq e => by
      obtain ⟨j, hj⟩ := List.getElem?_of_mem hq
      have hl := (List.getElem?_eq_some_iff.1 hj).1
      have hl2 : j < ents.size := by rw [hs]; simpa [imap] using hl
      obtain ⟨q', h4, h5, _⟩ := hkey j ents[j] (Array.getElem?_eq_getElem hl2)
      rw [hj] at h4; cases h4
      exact h2 ents[j] (Array.getElem_mem_toList hl2) (by rw [h5, e])).1
    rw [hnone]
    refine ⟨zv, ?_, .ofCell zv⟩
    simp [execOp, Instr.lookup, hck, hcy, run_underlying hT, MapKept.run_getObj_map hh, MapKept.run_checkKey (d := .int .i64) (k := .int .i64 s) hkt (by simp [IsKey]), MapKept.run_findKey hkt h1, run_zero hz, Result.andThen]
  · obtain ⟨q, h4, h5, h6⟩ := hkey j e (by simpa using h2)
    have hqs : q.1 = s := by rw [h5] at h3; cases h3; rfl
    have := (find_atI hn h4).1
    rw [hqs] at this
    rw [this]
    refine ⟨e.val, ?_, h6.weak rfl⟩
    simp [execOp, Instr.lookup, hck, hcy, run_underlying hT, MapKept.run_getObj_map hh, MapKept.run_checkKey (d := .int .i64) (k := .int .i64 s) hkt (by simp [IsKey]), MapKept.run_findKey hkt h1, Result.andThen]
theorem S_mapUpdateI {T kt et : TypeId} {x y z : Operand} {b : Nat} {l : List (Int × V)} {s : Int} (hT : P.underlying T = some (.map kt et)) (hkt : P.underlying kt = some (.int .i64))
    (hx : ev ge st.tm x = .mp b) (hb : st.h[b]? = some (.map (imap l))) (hy : ev ge st.tm y = .int .i64 s) (hn : (l.map (·.1)).Nodup) (hv : (ev ge st.tm z).isF = true) :
    OpS P ge st ⟨d, .mapUpdate T x y z, t, p, af, g⟩ .void (st.h.set b (.map (imap (iput l s (ev ge st.tm z))))) := by
  intro G a w hr
  have hvx := hr.ev x
  have hvy := hr.ev y
  have hvz := (hr.ev z).frozen hv
  rw [hx] at hvx
  rw [hy] at hvy
  obtain ⟨k, hck, hm⟩ := inv_mp hvx
  have hcy := hvy.inv_int
  obtain ⟨h00, k', ents, clock, hm', hh, hs, hc⟩ := hr.rh.bl b _ hb
  rw [hm] at hm'; cases hm'
  obtain ⟨hks, hkey⟩ := ents_keysI hs hc
  have hlt : k < w.heap.size := (Array.getElem?_eq_some_iff.1 hh).1
  have up : ∀ (ents' : Array MapEntry) (clock' : Nat) (l' : List (Int × V)), ents'.size = l'.length →
      (∀ (i : Nat) (q : Int × V) (c : MapEntry), l'[i]? = some q → ents'[i]? = some c → c.key = .int .i64 q.1 ∧ R G w true q.2 c.val) →
      RH P ge G (st.h.set b (.map (imap l'))) { w with heap := w.heap.setIfInBounds k (.map ents' clock') } ∧ Ext G st.h w G (st.h.set b (.map (imap l'))) { w with heap := w.heap.setIfInBounds k (.map ents' clock') } := by
    intro ents' clock' l' h1 h2
    have hother : ∀ k', k' ≠ k → (w.heap.setIfInBounds k (.map ents' clock'))[k']? = w.heap[k']? := (heap_set hh).2
    have le : GLe G w G { w with heap := w.heap.setIfInBounds k (.map ents' clock') } := ⟨fun _ => Nat.le_refl _, fun k' o ho => by
      by_cases e : k' = k
      · subst e
        simp [World.cell?, hh, (heap_set hh).1]
      · exact cell_eq (hother k' e), Nat.le_refl _, fun _ _ => Nat.le_refl _, fun _ _ _ _ => rfl, fun _ _ => rfl, fun _ _ _ _ => rfl⟩
    refine RH_upd hr.rh hb hm (by simp) hother rfl ⟨rfl, rfl⟩ le ⟨h00, k, ents', clock', hm, (heap_set hh).1, by simp [imap, h1], fun i e c he hcc => ?_⟩ hm
    rw [imap, List.getElem?_map] at he
    obtain ⟨q, hq, rfl⟩ := Option.map_eq_some_iff.1 he
    obtain ⟨h3, h4⟩ := h2 i q c hq hcc
    rw [h3]
    exact ⟨.int, h4.mono le⟩
  rcases findNow_spec (d := .int .i64) (k := .int .i64 s) (by simp [IsKey]) ents.toList 0 hks with ⟨h1, h2⟩ | ⟨j, e, h1, h2, h3⟩
  · have hnone : l.findIdx? (fun p => p.1 = s) = none := (find_noneI fun q hq e => by
      obtain ⟨j, hj⟩ := List.getElem?_of_mem hq
      have hl := (List.getElem?_eq_some_iff.1 hj).1
      have hl2 : j < ents.size := by rw [hs]; simpa [imap] using hl
      obtain ⟨q', h4, h5, _⟩ := hkey j ents[j] (Array.getElem?_eq_getElem hl2)
      rw [hj] at h4; cases h4
      exact h2 ents[j] (Array.getElem_mem_toList hl2) (by rw [h5, e])).2
    have hsz : ents.size = l.length := by simpa [imap] using hs
    obtain ⟨r1, r2⟩ := up (ents.push { key := .int .i64 s, val := a.eval z, born := clock }) (clock + 1) (l ++ [(s, ev ge st.tm z)]) (by simp [hsz]) (fun i q c hq hcc => by
      rw [Array.getElem?_push] at hcc
      split at hcc
      · rename_i e
        cases hcc
        rw [hsz] at e
        subst e
        rw [List.getElem?_append_right (Nat.le_refl _), Nat.sub_self] at hq
        cases hq
        exact ⟨rfl, hvz⟩
      · have hi := (Array.getElem?_eq_some_iff.1 hcc).1
        rw [List.getElem?_append_left (by omega)] at hq
        obtain ⟨q', h4, h5, h6⟩ := hkey i c hcc
        rw [hq] at h4; cases h4
        exact ⟨h5, h6⟩)
    refine ⟨undef, G, { w with heap := w.heap.setIfInBounds k (.map (ents.push { key := .int .i64 s, val := a.eval z, born := clock }) (clock + 1)) }, .inr ⟨?_, rfl⟩, ?_, .void, ?_⟩
    rotate_left
    · unfold iput; rw [hnone]; exact r1
    · unfold iput; rw [hnone]; exact r2
    · simp [execOp, Instr.mapUpdate, hck, hcy, run_underlying hT, MapKept.run_getObj_map hh, MapKept.run_checkKey (d := .int .i64) (k := .int .i64 s) hkt (by simp [IsKey]), MapKept.run_findKey hkt h1, MapKept.run_setObj_map _ hh, Result.andThen]
  · have hj : ents[j]? = some e := by simpa using h2
    obtain ⟨q, h4, h5, h6⟩ := hkey j e hj
    have hqs : q.1 = s := by rw [h5] at h3; cases h3; rfl
    have hfi := (find_atI hn h4).2
    rw [hqs] at hfi
    have hsz : ents.size = l.length := by simpa [imap] using hs
    have hjl := (List.getElem?_eq_some_iff.1 h4).1
    obtain ⟨r1, r2⟩ := up (ents.modify j fun e => { e with key := .int .i64 s, val := a.eval z }) clock (l.set j (s, ev ge st.tm z)) (by simp [hsz]) (fun i q' c hq hcc => by
      rw [Array.getElem?_modify] at hcc
      rw [List.getElem?_set] at hq
      split at hcc
      · rename_i e'
        subst e'
        rw [if_pos rfl, if_pos hjl] at hq
        rw [hj] at hcc
        cases hcc; cases hq
        exact ⟨rfl, hvz⟩
      · rename_i e'
        rw [if_neg e'] at hq
        obtain ⟨q'', h7, h8, h9⟩ := hkey i c hcc
        rw [hq] at h7; cases h7
        exact ⟨h8, h9⟩)
    refine ⟨undef, G, { w with heap := w.heap.setIfInBounds k (.map (ents.modify j fun e => { e with key := .int .i64 s, val := a.eval z }) clock) }, .inr ⟨?_, rfl⟩, ?_, .void, ?_⟩
    rotate_left
    · unfold iput; rw [hfi]; exact r1
    · unfold iput; rw [hfi]; exact r2
    · simp [execOp, Instr.mapUpdate, hck, hcy, run_underlying hT, MapKept.run_getObj_map hh, MapKept.run_checkKey (d := .int .i64) (k := .int .i64 s) hkt (by simp [IsKey]), MapKept.run_findKey hkt h1, hj, h3, MapKept.run_keyThatStays (d := .int .i64) (k := .int .i64 s) (by simp [IsKey]), MapKept.run_setObj_map _ hh, Result.andThen]
end
end Go.AM
end

section
set_option linter.unusedVariables false
set_option linter.unusedSimpArgs false
namespace Go.AM
section
variable {P : Program} {ge : GEnv} {st : St} {Q : Exit → St → Prop}
theorem AW_loopG {σ : Type} (S : σ → St) (I : σ → Prop) (μ : σ → Nat) {c : Code} {x0 : σ} (h0 : I x0) (hst : Weak st (S x0)) (hlen : ∀ x, I x → st.h.length ≤ (S x).h.length)
    (round : ∀ x, I x → AW P ge c (SThen (fun s => ∃ x', I x' ∧ μ x' < μ x ∧ Weak s (S x')) Q) (S x)) : AW P ge (.loop c) Q st := by
  intro G0 a0 w0 hr0 b k cs
  have key : ∀ (n : Nat) (x : σ) (G : Gh) (a : Act) (w : World), μ x = n → I x → Rep P ge G (S x) a w → Ext G0 st.h w0 G (S x).h w →
      ∃ e a' w', CPost P ge Q G0 st.h w0 e a' w' ∧ Arrives P (lone (b.at a (.code c :: .inLoop c :: k)) cs w) b k cs e a' w' := by
    intro n
    induction n using Nat.strongRecOn with
    | _ n ih =>
      intro x G a w hn hI hr hx
      obtain ⟨e, a1, w1, hq, harr⟩ := round x hI G a w hr b (.inLoop c :: k) cs
      obtain ⟨G', s, q, r, ex⟩ := hq
      cases e with
      | normal =>
        obtain ⟨x', hI', hlt, hw⟩ := q
        have hl := hlen x' hI'
        obtain ⟨e2, a2, w2, hq2, harr2⟩ := ih (μ x') (hn ▸ hlt) x' _ a1 w1 rfl hI' (hw.rep r) (Ext.cut hw (hx.trans ex) (by rw [← hr0.rh.n]; exact hl))
        exact ⟨e2, a2, w2, hq2, .of_steps (Steps.trans harr (.one step_inLoop)) harr2⟩
      | exit id => exact ⟨_, a1, w1, ⟨G', s, q, r, hx.trans ex⟩, .pass (x := .inLoop c) rfl (fun _ _ => .inl (by simp)) harr⟩
      | goto l => exact ⟨_, a1, w1, ⟨G', s, q, r, hx.trans ex⟩, .pass (x := .inLoop c) rfl (fun _ _ => .inl (by simp)) harr⟩
      | ret => exact ⟨_, a1, w1, ⟨G', s, q, r, hx.trans ex⟩, .pass (x := .inLoop c) rfl (fun _ _ => .inl (by simp)) harr⟩
      | panic ch => exact ⟨_, a1, w1, ⟨G', s, q, r, hx.trans ex⟩, .pass (x := .inLoop c) rfl (fun _ _ => .inl (by simp)) harr⟩
      | outgrown => exact ⟨_, a1, w1, ⟨G', s, q, r, hx.trans ex⟩, .pass (x := .inLoop c) rfl (fun _ _ => .inl (by simp)) harr⟩
  obtain ⟨e, a', w', hq, harr⟩ := key _ x0 _ a0 w0 rfl h0 (hst.rep hr0) (Ext.cut hst (.refl _ _ _) (by rw [← hr0.rh.n]; exact hlen x0 h0))
  exact ⟨e, a', w', hq, .of_steps (.one step_loop) harr⟩
theorem AW_loopGL {σ : Type} (L : List Nat) (vs : σ → List (Nat × V)) (H : σ → List B) (I : σ → Prop) (μ : σ → Nat) {c : Code} (x0 : σ) (h0 : I x0)
    (hst : Weak st (headSt st L (vs x0) (H x0))) (hlen : ∀ x, I x → st.h.length ≤ (H x).length)
    (round : ∀ x, I x → AW P ge c (SThen (fun s => ∃ x', I x' ∧ μ x' < μ x ∧ Weak s (headSt st L (vs x') (H x'))) Q) (headSt st L (vs x) (H x))) : AW P ge (.loop c) Q st :=
  AW_loopG (fun x => headSt st L (vs x) (H x)) I μ h0 hst hlen round
end
end Go.AM
end

section
set_option linter.unusedVariables false
set_option linter.unusedSimpArgs false
namespace Go.Proofs.YtgmlimipejcpgaaGreatDoor
open Go Go.AM Fx
theorem useL_get : ∀ {l : List GuardD} {m : List Bool} {c : Nat} {b : Bool}, (∀ x ∈ l, okG m.length x) → m[c]? = some b → (useL l m)[c]? = some (b || namedB ((c : Int) + 1) l)
  | [], m, c, b, _, h => by rw [useL_nil, namedB_nil, Bool.or_false]; exact h
  | g :: l, m, c, b, hg, h => by
    obtain ⟨g1, g2⟩ := hg g (by simp)
    have hc := (List.getElem?_eq_some_iff.1 h).1
    have h2 : (m.set (g.clock - 1).toNat true)[c]? = some (b || decide (g.clock = (c : Int) + 1)) := by
      rw [List.getElem?_set]
      by_cases e : (g.clock - 1).toNat = c
      · rw [if_pos e, if_pos (by omega), decide_eq_true (by omega), Bool.or_true]
      · rw [if_neg e, decide_eq_false (by omega), Bool.or_false]; exact h
    rw [useL_cons, useL_get (fun x hx => by rw [List.length_set]; exact hg x (by simp [hx])) h2, namedB_cons, Bool.or_assoc]
/-- Guards of all goals, one list after another. -/
def usePs (l : List PartD) (m : List Bool) : List Bool := l.foldl (fun m p => useL p.guards m) m
def useGs (l : List (List PartD)) (m : List Bool) : List Bool := l.foldl (fun m g => usePs g m) m
theorem usePs_nil {m : List Bool} : usePs [] m = m := rfl
theorem usePs_cons {p : PartD} {l : List PartD} {m : List Bool} : usePs (p :: l) m = usePs l (useL p.guards m) := rfl
theorem useGs_nil {m : List Bool} : useGs [] m = m := rfl
theorem useGs_cons {g : List PartD} {l : List (List PartD)} {m : List Bool} : useGs (g :: l) m = useGs l (usePs g m) := rfl
theorem usePs_len : ∀ {l : List PartD} {m : List Bool}, (usePs l m).length = m.length
  | [], m => rfl
  | p :: l, m => by rw [usePs_cons, usePs_len, useL_len]
theorem useGs_len : ∀ {l : List (List PartD)} {m : List Bool}, (useGs l m).length = m.length
  | [], m => rfl
  | g :: l, m => by rw [useGs_cons, useGs_len, usePs_len]
theorem usedPs_or {c : Int} : ∀ {l : List PartD} {X : Bool}, usedPs c X l = (usedPs c false l || X)
  | [], X => by rw [usedPs_nil, usedPs_nil, Bool.false_or]
  | p :: l, X => by rw [usedPs_cons, usedPs_cons, usedPs_or, Bool.or_assoc]
theorem usePs_get : ∀ {l : List PartD} {m : List Bool} {c : Nat} {b : Bool}, (∀ p ∈ l, ∀ x ∈ p.guards, okG m.length x) → m[c]? = some b → (usePs l m)[c]? = some (b || usedPs ((c : Int) + 1) false l)
  | [], m, c, b, _, h => by rw [usePs_nil, usedPs_nil, Bool.or_false]; exact h
  | p :: l, m, c, b, hg, h => by
    rw [usePs_cons, usePs_get (fun q hq x hx => by rw [useL_len]; exact hg q (by simp [hq]) x hx) (useL_get (hg p (by simp)) h), usedPs_cons, Bool.or_assoc]
theorem useGs_get : ∀ {l : List (List PartD)} {m : List Bool} {c : Nat} {b : Bool}, (∀ g ∈ l, ∀ p ∈ g, ∀ x ∈ p.guards, okG m.length x) → m[c]? = some b → (useGs l m)[c]? = some (b || usedGs ((c : Int) + 1) l)
  | [], m, c, b, _, h => by rw [useGs_nil, usedGs_nil, Bool.or_false]; exact h
  | g :: l, m, c, b, hg, h => by
    rw [useGs_cons, useGs_get (fun q hq p hp x hx => by rw [usePs_len]; exact hg q (by simp [hq]) p hp x hx) (usePs_get (hg g (by simp)) h), usedGs_cons, usedPs_or (X := usedGs _ l), Bool.or_assoc]
/-- The row of a place, ahead of the edges. -/
def row0 (N : Nat) (l : LocD) (gs : List (List PartD)) : List Bool := useGs gs (useL l.inv (List.replicate N false))
theorem row0_get {N : Nat} {l : LocD} {gs : List (List PartD)} {c : Nat} (hc : c < N) (h1 : ∀ x ∈ l.inv, okG N x) (h2 : ∀ g ∈ gs, ∀ p ∈ g, ∀ x ∈ p.guards, okG N x) :
    (row0 N l gs)[c]? = some (namedB ((c : Int) + 1) l.inv || usedGs ((c : Int) + 1) gs) := by
  have h3 : (List.replicate N false)[c]? = some false := by simp [hc]
  unfold row0
  rw [useGs_get (fun g hg p hp x hx => by rw [useL_len, List.length_replicate]; exact h2 g hg p hp x hx) (useL_get (by simpa using h1) h3), Bool.false_or]
/-- Marks: rows of rows. -/
abbrev Marks := List (List Bool)
def mget (m : Marks) (i c : Nat) : Option Bool := (m[i]?).bind fun r => r[c]?
end Go.Proofs.YtgmlimipejcpgaaGreatDoor
end

section
set_option linter.unusedVariables false
set_option linter.unusedSimpArgs false
namespace Go.Proofs.YtgmlimipejcpgaaGreatDoor
open Go Go.AM Fx
def mset (m : Marks) (i c : Nat) : Marks := m.set i ((m.getD i []).set c true)
def fM (m : Marks) : Nat := (m.map falses).sum
theorem mget_some {m : Marks} {i c : Nat} {b : Bool} (h : mget m i c = some b) : ∃ r, m[i]? = some r ∧ r[c]? = some b := by
  unfold mget at h
  cases hr : m[i]? with
  | none => rw [hr] at h; cases h
  | some r => rw [hr] at h; exact ⟨r, rfl, h⟩
theorem mget_of {m : Marks} {i c : Nat} {b : Bool} {r : List Bool} (h : m[i]? = some r) (h2 : r[c]? = some b) : mget m i c = some b := by unfold mget; rw [h]; exact h2
theorem mset_row {m : Marks} {i c : Nat} {r : List Bool} (h : m[i]? = some r) : mset m i c = m.set i (r.set c true) := by unfold mset; simp [List.getD, h]
theorem mget_mset {m : Marks} {i c : Nat} {r : List Bool} (h : m[i]? = some r) (hc : c < r.length) (i2 c2 : Nat) : mget (mset m i c) i2 c2 = if i = i2 ∧ c = c2 then some true else mget m i2 c2 := by
  have hi := (List.getElem?_eq_some_iff.1 h).1
  rw [mset_row h]
  unfold mget
  rw [List.getElem?_set]
  by_cases e : i = i2
  · subst e
    rw [if_pos rfl, if_pos hi, h]
    simp only [Option.bind_some, true_and]
    rw [List.getElem?_set]
    by_cases e2 : c = c2
    · subst e2; rw [if_pos rfl, if_pos hc, if_pos rfl]
    · rw [if_neg e2, if_neg e2]
  · rw [if_neg e, if_neg (fun h => e h.1)]
theorem sum_set : ∀ {l : List Nat} {i x y : Nat}, l[i]? = some x → y + 1 = x → (l.set i y).sum + 1 = l.sum
  | [], i, x, y, h, _ => by simp at h
  | a :: l, 0, x, y, h, e => by simp at h; subst h; simp; omega
  | a :: l, i + 1, x, y, h, e => by
    have := sum_set (l := l) (i := i) (x := x) (y := y) (by simpa using h) e
    simp only [List.set_cons_succ, List.sum_cons]; omega
theorem fM_mset {m : Marks} {i c : Nat} (h : mget m i c = some false) : fM (mset m i c) + 1 = fM m := by
  obtain ⟨r, h1, h2⟩ := mget_some h
  rw [mset_row h1]
  unfold fM
  rw [List.map_set]
  exact sum_set (x := falses r) (by rw [List.getElem?_map, h1]; rfl) (falses_set h2)
/-- What is marked so far is sound. -/
structure MS (a : AutoD) (gs : List (List PartD)) (N : Nat) (m : Marks) : Prop where
  len : m.length = a.locs.length
  row : ∀ (i : Nat) (r : List Bool), m[i]? = some r → r.length = N
  snd : ∀ i c, mget m i c = some true → Act a gs ((c : Int) + 1) i
  use : ∀ i c, i < a.locs.length → c < N → usedB a gs i ((c : Int) + 1) = true → mget m i c = some true
def mclos (N : Nat) (m : Marks) (e : EdgeD) : Prop := ∀ c, c < N → mget m e.to.toNat c = some true → setsB ((c : Int) + 1) e.sets = false → mget m e.frm.toNat c = some true
theorem MS.step {a : AutoD} {gs : List (List PartD)} {N : Nat} {m : Marks} (s : MS a gs N m) {e : EdgeD} (he : e ∈ a.edges) {c : Nat} {r : List Bool} (hr : m[e.frm.toNat]? = some r) (hc : c < N)
    (h1 : mget m e.to.toNat c = some true) (h2 : setsB ((c : Int) + 1) e.sets = false) : MS a gs N (mset m e.frm.toNat c) := by
  have hrl := s.row _ r hr
  have hg := mget_mset hr (c := c) (by omega)
  refine ⟨by rw [mset_row hr, List.length_set]; exact s.len, fun i q hq => ?_, fun i c2 h => ?_, fun i c2 hi hc2 hu => ?_⟩
  · rw [mset_row hr, List.getElem?_set] at hq
    split at hq
    · split at hq
      · cases hq; rw [List.length_set]; exact hrl
      · cases hq
    · exact s.row i q hq
  · rw [hg] at h
    by_cases e2 : e.frm.toNat = i ∧ c = c2
    · obtain ⟨rfl, rfl⟩ := e2; exact .edge he (s.snd _ _ h1) h2
    · rw [if_neg e2] at h; exact s.snd i c2 h
  · rw [hg]
    by_cases e2 : e.frm.toNat = i ∧ c = c2
    · rw [if_pos e2]
    · rw [if_neg e2]; exact s.use i c2 hi hc2 hu
/-- Within a pass: ahead of edge k's clock j. -/
structure MPass (a : AutoD) (gs : List (List PartD)) (N : Nat) (m0 : Marks) (k j : Nat) (more : Bool) (m : Marks) : Prop where
  s : MS a gs N m
  lt : more = true → fM m < fM m0
  eq : more = false → m = m0 ∧ (∀ q e, q < k → a.edges[q]? = some e → mclos N m e) ∧ ∀ e, a.edges[k]? = some e → ∀ c, c < j → mget m e.to.toNat c = some true → setsB ((c : Int) + 1) e.sets = false → mget m e.frm.toNat c = some true
section
variable {a : AutoD} {gs : List (List PartD)} {N k j : Nat} {m0 m : Marks} {more : Bool}
theorem MPass.init (s : MS a gs N m) : MPass a gs N m 0 0 false m := ⟨s, fun h => (by cases h), fun _ => ⟨rfl, fun q e hq => (by omega), fun e _ c hc => (by omega)⟩⟩
theorem MPass.keep (p : MPass a gs N m0 k j more m) {e : EdgeD} (he : a.edges[k]? = some e) (h : mget m e.to.toNat j = some true → setsB ((j : Int) + 1) e.sets = false → mget m e.frm.toNat j = some true) : MPass a gs N m0 k (j + 1) more m :=
  ⟨p.s, p.lt, fun hm => ⟨(p.eq hm).1, (p.eq hm).2.1, fun x hx c hc => by
    rw [he] at hx; cases hx
    by_cases e2 : c = j
    · subst e2; exact h
    · exact (p.eq hm).2.2 e he c (by omega)⟩⟩
theorem MPass.step (p : MPass a gs N m0 k j more m) {e : EdgeD} (he : a.edges[k]? = some e) {r : List Bool} (hr : m[e.frm.toNat]? = some r) (hj : j < N)
    (h1 : mget m e.to.toNat j = some true) (h2 : setsB ((j : Int) + 1) e.sets = false) (h3 : mget m e.frm.toNat j = some false) : MPass a gs N m0 k (j + 1) true (mset m e.frm.toNat j) := by
  have h4 := fM_mset h3
  refine ⟨p.s.step (List.mem_of_getElem? he) hr hj h1 h2, fun _ => ?_, fun h => (by cases h)⟩
  cases hm : more
  · rw [← (p.eq hm).1]; omega
  · have := p.lt hm; omega
theorem MPass.next (p : MPass a gs N m0 k N more m) : MPass a gs N m0 (k + 1) 0 more m :=
  ⟨p.s, p.lt, fun hm => ⟨(p.eq hm).1, fun q e hq he => by
    by_cases e2 : q = k
    · subst e2; exact (p.eq hm).2.2 e he
    · exact (p.eq hm).2.1 q e (by omega) he, fun e _ c hc => (by omega)⟩⟩
theorem MPass.done (p : MPass a gs N m0 a.edges.length j false m) : ∀ e ∈ a.edges, mclos N m e := fun e he => by
  obtain ⟨q, hq⟩ := List.getElem?_of_mem he
  exact (p.eq rfl).2.1 q e (List.getElem?_eq_some_iff.1 hq).1 hq
/-- Where nothing spreads any more, the marks are just what is active. -/
theorem marks_eq (s : MS a gs N m) (hE : okE a) (hc : ∀ e ∈ a.edges, mclos N m e) {i c : Nat} (hi : i < a.locs.length) (hcN : c < N) : mget m i c = some (actB a gs ((c : Int) + 1) i) := by
  have key : ∀ i, Act a gs ((c : Int) + 1) i → mget m i c = some true := by
    intro i h
    induction h with
    | use hi h => exact s.use _ c hi hcN h
    | edge he _ hs ih => exact hc _ he c hcN ih hs
  have hil : i < m.length := by rw [s.len]; exact hi
  have hr : m[i]? = some m[i] := List.getElem?_eq_getElem hil
  have hrl := s.row i _ hr
  have hcl : c < m[i].length := by omega
  have hg : mget m i c = some (m[i])[c] := mget_of hr (List.getElem?_eq_getElem hcl)
  rw [hg]
  congr 1
  cases hb : (m[i])[c]
  · have : ¬ Act a gs ((c : Int) + 1) i := fun h => by have := key i h; rw [hg, hb] at this; cases this
    simp [actB, this]
  · have := s.snd i c (by rw [hg, hb])
    simp [actB, this]
end
end Go.Proofs.YtgmlimipejcpgaaGreatDoor
end
