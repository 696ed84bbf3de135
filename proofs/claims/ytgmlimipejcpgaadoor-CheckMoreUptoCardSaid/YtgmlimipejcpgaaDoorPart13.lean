/-
  YtgmlimipejcpgaaDoorPart13: steps of the proof of a law of the program: what these texts prove holds under the hypotheses that their theorems name, and no others.
-/
import Derived.Test.YtgmlimipejcpgaaDoorPart12
section
set_option linter.unusedVariables false
set_option linter.unusedSimpArgs false
namespace Go.Proofs.YtgmlimipejcpgaaDoor
open Go Go.AM Fx
theorem raise1_ge {so : Int → Bool} {g : GuardD} {o : List Int} {i : Nat} {v : Int} (h : o[i]? = some v) : ∃ w, (raise1 so o g)[i]? = some w ∧ v ≤ w := by
  unfold raise1
  split
  · rw [List.getElem?_set]
    by_cases e : (g.clock - 1).toNat = i
    · have hl := (List.getElem?_eq_some_iff.1 h).1
      rw [if_pos e, if_pos (by omega)]
      refine ⟨_, rfl, ?_⟩
      rw [e]
      have : o.getD i 0 = v := by simp [List.getD, h]
      rw [this]; omega
    · rw [if_neg e]; exact ⟨v, h, Int.le_refl _⟩
  · exact ⟨v, h, Int.le_refl _⟩
theorem raiseL_ge {so : Int → Bool} : ∀ {l : List GuardD} {o : List Int} {i : Nat} {v : Int}, o[i]? = some v → ∃ w, (raiseL so l o)[i]? = some w ∧ v ≤ w
  | [], o, i, v, h => ⟨v, h, Int.le_refl _⟩
  | g :: l, o, i, v, h => by
    obtain ⟨w, h1, h2⟩ := raise1_ge (so := so) (g := g) h
    obtain ⟨u, h3, h4⟩ := raiseL_ge (l := l) h1
    exact ⟨u, by rw [raiseL_cons]; exact h3, by omega⟩
theorem numG_snoc {n : NetD} {so : Int → Bool} {g : List PartD} : ∀ {gs : List (List PartD)} {o : List Int}, numG n so (gs ++ [g]) o = match numG n so gs o with
    | none => none
    | some p => if goalE n g ≠ 0 then none else some (raisePs so g p)
  | [], o => by rw [List.nil_append, numG_cons, numG_nil]; simp [numG_nil]
  | x :: r, o => by
    rw [List.cons_append, numG_cons, numG_cons]
    split
    · rfl
    · exact numG_snoc
/-- With a goal more: none, or the same clocks with numbers no smaller. -/
theorem numb_snoc {n : NetD} {so : Int → Bool} {gs : List (List PartD)} {g : List PartD} : numbE n so (gs ++ [g]) = none ∨ ∃ a b, numbE n so gs = some a ∧ numbE n so (gs ++ [g]) = some b ∧ b.length = a.length ∧ ∀ (i : Nat) (v : Int), a[i]? = some v → ∃ w, b[i]? = some w ∧ v ≤ w := by
  unfold numbE
  by_cases h : netE n ≠ 0
  · rw [if_pos h, if_pos h]; exact .inl rfl
  · rw [if_neg h, if_neg h, numG_snoc]
    cases e : numG n so gs (raiseL so (guardsL n) (List.replicate n.clocks.length (-1))) with
    | none => exact .inl rfl
    | some p =>
      simp only
      split
      · exact .inl rfl
      · refine .inr ⟨p, _, rfl, rfl, raiseL_len, fun i v hi => ?_⟩
        unfold raisePs
        exact raiseL_ge hi
def numO : Option (List Int) → List Int
  | none => []
  | some l => l
theorem PCall.nilemp {f : Nat} {args : List V} (hc : PCall Tryd.prog GV f args .nils) : PCall Tryd.prog GV f args (.vec [] 0) :=
  hc.same rfl (fun _ _ _ h => by cases h; exact .emp (Nat.zero_le _)) trivial
theorem c_MaxF (n : NetD) (hn : n.ok) (gs : List (List PartD)) (hgl : gs.length ≤ 1048577) (hgs : ∀ g ∈ gs, okGoal g) : PC 7 [.agg n.cells, gsV gs] (isV (numO (numbE n (fun _ => true) gs))) := by
  have h := c_Max n hn gs hgl hgs
  cases e : numbE n (fun _ => true) gs with
  | none => rw [e] at h; exact PCall.nilemp h
  | some M =>
    rw [e] at h
    have := PCall.freeze h
    simpa [isV, numO] using this
set_option maxRecDepth 40000 in
set_option maxHeartbeats 16000000 in
theorem c_CheckMore (n : NetD) (hn : n.ok) (gs : List (List PartD)) (hg : okGoals gs) (g : List PartD) (hp : okGoal g) : PC 3 [.agg n.cells, gsV gs, vl PartD.cells g] (.bool true) := by
  have hgl := hg.1
  have h1 := c_MaxF n hn gs (by omega) hg.2
  have h2 := c_MaxF n hn (gs ++ [g]) (by simp; omega) (fun x hx => by
    rcases List.mem_append.1 hx with h | h
    · exact hg.2 x h
    · rw [List.mem_singleton.1 h]; exact hp)
  have h3 := c_Copy n hn
  have h4 := c_live12
  have h5 := c_Net n hn
  have b1 : gs.length * 24 ≤ 140737488355328 := by omega
  have tk : List.take gs.length (gs.map fun g => [vl PartD.cells g]) = gs.map fun g => [vl PartD.cells g] := List.take_of_length_le (by simp)
  have b2 : (gs.length + 1) * 24 ≤ 140737488355328 := by omega
  have hA : ∃ A B, A = numO (numbE n (fun _ => true) gs) ∧ B = numO (numbE n (fun _ => true) (gs ++ [g])) ∧ A.length ≤ 1048576 ∧ (netE n ≠ 0 → B = []) ∧ (B.length ≠ A.length → B = []) ∧ (B.length = A.length → ∀ i (h1 : i < A.length) (h2 : i < B.length), A[i] ≤ B[i]) := by
    refine ⟨_, _, rfl, rfl, ?_, ?_, ?_, ?_⟩
    · cases e : numbE n (fun _ => true) gs with
      | none => simp [numO]
      | some M => simp only [numO]; rw [numb_len e]; exact hn.1.1
    · intro h; unfold numbE; rw [if_pos h]; rfl
    · rcases numb_snoc (n := n) (so := fun _ => true) (gs := gs) (g := g) with h | ⟨a, b, ha, hb, hl, _⟩
      · rw [h]; intro _; rfl
      · rw [ha, hb]; intro h; exact absurd hl h
    · rcases numb_snoc (n := n) (so := fun _ => true) (gs := gs) (g := g) with h | ⟨a, b, ha, hb, hl, hi⟩
      · rw [h]; intro _ i _ h2; simp [numO] at h2
      · rw [ha, hb]
        intro _ i h1 h2
        obtain ⟨w, e1, e2⟩ := hi i _ (List.getElem?_eq_getElem h1)
        have : (numO (some b))[i] = w := by simpa [numO] using (List.getElem_eq_iff (h := h2)).2 e1
        rw [this]; exact e2
  obtain ⟨A, B, eA, eB, hAl, f1, f2, f3⟩ := hA
  rw [← eA] at h1
  rw [← eB] at h2
  have h6 := c_SameInts A (by omega)
  clear eA eB
  have hgv : gsV (gs ++ [g]) = .vec (gs.map (fun g => [vl PartD.cells g]) ++ [[vl PartD.cells g]]) (gs.length + 1) := by simp [gsV]
  rw [hgv] at h2
  generalize netE n = e at *
  simp only [NetD.cells, vl, gsV, isV] at h1 h2 h3 h5 h6 tk ⊢
  refine PCall_body Tryd.func3 rfl (by decide) Tryd.ntmps3 (by simp) Tryd.results3 ?_
  repeat' (first
 |(refine AW_view 8 rfl rfl (by simp) ?_; simp)
 |refine AW_seq_k fun K hK=>?_|refine Step.by1 ?_|refine SBlock_exit_ne (by decide) ?_|refine cz rfl ?_|refine Fork.by2 (fun h=>?_) fun h=>?_
 |((first|refine AW_region_AO ?_|refine AS_call1 (f:=7) rfl rfl (h1) rfl rfl rfl ?_|refine AS_call1 (f:=7) rfl rfl (h2) rfl rfl rfl ?_|refine AS_call1 (f:=8) rfl rfl (h3) rfl rfl rfl ?_|refine AW_region_APx (id:=5) 17 mixed (by decide) ?_|refine AP_call1 (f:=9) rfl rfl (h4) rfl rfl rfl ?_|refine AP_call1 (f:=10) rfl rfl (h5) rfl rfl rfl ?_|refine AP_call1 (f:=7) rfl rfl (h1) rfl rfl rfl ?_|refine AP_call1 (f:=11) rfl rfl (h6) rfl rfl rfl ?_|refine AS_call1 (f:=10) rfl rfl (h5) rfl rfl rfl ?_);simp [b1, b2, tk])
 |(refine Split.by2 (fun h=>?_) (fun h=>?_)<;>(simp [h, b1, b2, tk]))
 |(apply hK;clear hK K)|refine AWh (by assumption) ?_)
  · have hB : B = [] := f2 (by rename_i h; exact fun q => h (by omega))
    exact retq1 (conv_eq (by simp [hB]) rfl)
  · rename_i h
    have hl : B.length = A.length := by omega
    have hle := f3 hl
    clear f1 f2 f3
    refine AW_scan (r := true) A 11 [7, 9] (fun _ => true) rfl (by apply Weak.mk' <;> simp) ?_ ?_
    · intro i x _ hlt hx _
      have hlt' : (i : Int) < A.length := by omega
      have hlb : i < B.length := by omega
      have hlb' : (i : Int) < B.length := by omega
      have w1 : IntKind.i64.wrap ((i : Int) + 1) = i + 1 := wrap_i64 (by omega) (by omega)
      have hxy := hle i hlt hlb
      obtain ⟨y, hy⟩ : ∃ y, B[i] = y := ⟨_, rfl⟩
      rw [hx, hy] at hxy
      have hn : ¬ y < x := by omega
      repeat' (first
 |refine AW_seq_k fun K hK=>?_|refine Step.by1 ?_|refine SBlock_exit_ne (by decide) ?_|refine cz rfl ?_|refine Fork.by2 (fun h=>?_) fun h=>?_
 |((first|refine AW_region_AO ?_|refine AW_region_APx (id:=12) 9 mixed (by decide) ?_);simp [hlt, hlt', hlb, hlb', hx, hy, hn, w1])
 |(refine Split.by2 (fun h=>?_) (fun h=>?_)<;>(simp [h, hlt, hlt', hlb, hlb', hx, hy, hn, w1]))
 |(apply hK;clear hK K)|refine AWh (by assumption) ?_)
      apply Weak.mk' <;> simp
    · intro _
      repeat' (first
 |refine AW_seq_k fun K hK=>?_|refine Step.by1 ?_|refine SBlock_exit_ne (by decide) ?_|refine cz rfl ?_|refine Fork.by2 (fun h=>?_) fun h=>?_
 |(refine AW_region_AO ?_;simp)
 |(refine Split.by2 (fun h=>?_) (fun h=>?_)<;>(simp [h]))
 |(apply hK;clear hK K)|refine AWh (by assumption) ?_)
      exact retq1 (conv_eq rfl rfl)
  · have hB : B = [] := f1 (by assumption)
    exact retq1 (conv_eq (by simp [hB]) rfl)
end Go.Proofs.YtgmlimipejcpgaaDoor
end
