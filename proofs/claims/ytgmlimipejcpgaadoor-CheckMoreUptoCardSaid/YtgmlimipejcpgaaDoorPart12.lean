/-
  YtgmlimipejcpgaaDoorPart12: steps of the proof of a law of the program: what these texts prove holds under the hypotheses that their theorems name, and no others.
-/
import Derived.Test.YtgmlimipejcpgaaDoorPart11
import Derived.Test.YtgmlimipejcpgaaDoorPart07
import Derived.Test.YtgmlimipejcpgaaDoorPart10
import Derived.Test.YtgmlimipejcpgaaDoorPart08
import Derived.Test.YtgmlimipejcpgaaDoorPart04
import Derived.Test.YtgmlimipejcpgaaDoorPart06
section
set_option linter.unusedVariables false
set_option linter.unusedSimpArgs false
namespace Go.Proofs.YtgmlimipejcpgaaDoor
open Go Go.AM Fx
theorem firstE_zero {x : Int} {l : List Int} (h : firstE (x :: l) = 0) : x = 0 ∧ firstE l = 0 := by
  rw [firstE_cons] at h
  by_cases hx : x = 0
  · rw [if_neg (by simp [hx])] at h; exact ⟨hx, h⟩
  · rw [if_pos hx] at h; exact absurd h hx
theorem netE_whole {n : NetD} (h : netE n = 0) : wholeE n = 0 := by
  unfold netE whereE at h
  by_cases hw : wholeE n = 0
  · exact hw
  · rw [if_pos hw] at h; exact absurd h hw
theorem clkE_zero {n : NetD} {l : List GuardD} (h : clkE n l = 0) : ∀ g ∈ l, clkG n g = false := by
  unfold clkE at h
  intro g hg
  cases hc : clkG n g
  · rfl
  · rw [if_pos (List.any_eq_true.2 ⟨g, hg, hc⟩)] at h; cases h
theorem okG_of {n : NetD} {l : List GuardD} (h : clkE n l = 0) : ∀ g ∈ l, okG n.clocks.length g := fun g hg => by
  have := clkE_zero h g hg
  unfold clkG isClk at this
  simp only [Bool.or_eq_false_iff, Bool.not_eq_false', decide_eq_true_eq] at this
  exact this.1
theorem whole_guards {n : NetD} (h : wholeE n = 0) : ∀ g ∈ guardsL n, okG n.clocks.length g := by
  unfold wholeE at h
  have h1 := (firstE_zero (firstE_zero (firstE_zero (firstE_zero (firstE_zero (firstE_zero (firstE_zero h).2).2).2).2).2).2).1
  unfold clocksE at h1
  by_cases hc : clkE n (guardsL n) = 0
  · exact okG_of hc
  · rw [if_pos hc] at h1; exact absurd h1 hc
theorem goF_zero {f : PartD → Int} : ∀ {g : List PartD}, goF f g = 0 → ∀ p ∈ g, f p = 0
  | [], _, p, hp => by cases hp
  | q :: r, h, p, hp => by
    rw [goF_cons] at h
    by_cases hq : f q = 0
    · rw [if_neg (by simp [hq])] at h
      rcases List.mem_cons.1 hp with rfl | hp
      · exact hq
      · exact goF_zero h p hp
    · rw [if_pos hq] at h; exact absurd h hq
theorem goal_guards {n : NetD} {g : List PartD} (h : goalE n g = 0) : ∀ p ∈ g, ∀ x ∈ p.guards, okG n.clocks.length x := by
  unfold goalE at h
  have h1 := (firstE_zero (firstE_zero h).2).1
  unfold wholeGoalE at h1
  have h2 := (firstE_zero (firstE_zero (firstE_zero (firstE_zero (firstE_zero h1).2).2).2).2).1
  exact fun p hp => okG_of (goF_zero h2 p hp)
def raisePs (so : Int → Bool) (l : List PartD) (o : List Int) : List Int := raiseL so (l.flatMap (·.guards)) o
theorem raisePs_nil {so : Int → Bool} {o : List Int} : raisePs so [] o = o := rfl
theorem raisePs_cons {so : Int → Bool} {x : PartD} {l : List PartD} {o : List Int} : raisePs so (x :: l) o = raisePs so l (raiseL so x.guards o) := by simp only [raisePs, List.flatMap_cons, raiseL_append]
theorem raisePs_len {so : Int → Bool} {l : List PartD} {o : List Int} : (raisePs so l o).length = o.length := raiseL_len
def numG (n : NetD) (so : Int → Bool) : List (List PartD) → List Int → Option (List Int)
  | [], o => some o
  | g :: r, o => if goalE n g ≠ 0 then none else numG n so r (raisePs so g o)
theorem numG_nil {n : NetD} {so : Int → Bool} {o : List Int} : numG n so [] o = some o := rfl
theorem numG_cons {n : NetD} {so : Int → Bool} {g : List PartD} {r : List (List PartD)} {o : List Int} : numG n so (g :: r) o = if goalE n g ≠ 0 then none else numG n so r (raisePs so g o) := rfl
def numbE (n : NetD) (so : Int → Bool) (gs : List (List PartD)) : Option (List Int) :=
  if netE n ≠ 0 then none else numG n so gs (raiseL so (guardsL n) (List.replicate n.clocks.length (-1)))
/-- Numbers, or nil. -/
def numV : Option (List Int) → V
  | none => .nils
  | some o => .own 3 (o.map fun k => [V.int .i64 k])
def gsV (gs : List (List PartD)) : V := .vec (gs.map fun g => [vl PartD.cells g]) gs.length
theorem set_next {c : List Int} {i : Nat} (h : ∀ j, j < i → c[j]? = some (-1)) (hi : i < c.length) : ∀ j, j < i + 1 → (c.set i (-1))[j]? = some (-1) := fun j hj => by
  rw [List.getElem?_set]
  by_cases e : i = j
  · subst e; simp [hi]
  · rw [if_neg e]; exact h j (by omega)
theorem all_set {c : List Int} {N : Nat} (hN : c.length = N) (h : ∀ j, j < N → c[j]? = some (-1)) : c = List.replicate N (-1) := by
  apply List.ext_getElem?
  intro i
  by_cases hi : i < N
  · rw [h i hi]; simp [hi]
  · rw [List.getElem?_eq_none (by omega), List.getElem?_eq_none (by simp; omega)]
set_option maxRecDepth 20000 in
set_option maxHeartbeats 16000000 in
theorem c_numbers (n : NetD) (hn : n.ok) (fso : Nat) (so : Int → Bool) (hso : ∀ c, PC fso [.int .u8 c] (.bool (so c))) (gs : List (List PartD)) (hgl : gs.length ≤ 1048577) (hgs : ∀ g ∈ gs, okGoal g) :
    PC 22 [.agg n.cells, gsV gs, .fn (.func fso) [] []] (numV (numbE n so gs)) := by
  have hN := c_Net n hn
  have hcl : n.clocks.length ≤ 1048576 := hn.1.1
  obtain ⟨r, hr⟩ : ∃ r, numbE n so gs = r := ⟨_, rfl⟩
  rw [hr]
  unfold numbE at hr
  simp only [vl, NetD.cells] at hN
  refine PCall_body Tryd.func22 rfl (by decide) Tryd.ntmps22 (by simp) Tryd.results22 ?_
  by_cases hz : netE n = 0
  · rw [if_neg (by simp [hz])] at hr
    rw [hz] at hN
    have hgd := whole_guards (netE_whole hz)
    have b1 : (n.clocks.length : Int) * 8 ≤ 281474976710656 := by omega
    repeat' (first
 |refine AW_seq_k fun K hK=>?_|refine Step.by1 ?_|refine SBlock_exit_ne (by decide) ?_|refine cz rfl ?_|refine Fork.by2 (fun h=>?_) fun h=>?_
 |((first|refine AW_region_AO ?_|refine AS_call1 (f:=10) rfl rfl (hN) rfl rfl rfl ?_);simp [gsV, vl, NetD.cells, b1])
 |(refine Split.by2 (fun h=>?_) (fun h=>?_)<;>(simp [h, gsV, vl, NetD.cells, b1]))
 |(apply hK;clear hK K)|refine AWh (by assumption) ?_)
    refine AW_loopL [1, 3, 5, 7, 22] (fun s : Nat × List Int => [(23, .int .i64 s.1)]) (fun s => [.var n.cells, .var [.fn (.func fso) [] []], .row 3 0 0 true (s.2.map fun k => [V.int .i64 k]), .var [.ref 2 0 0 n.clocks.length]]) (fun s => s.1 ≤ n.clocks.length ∧ s.2.length = n.clocks.length ∧ ∀ j, j < s.1 → s.2[j]? = some (-1)) (fun s => n.clocks.length - s.1) (0, List.replicate n.clocks.length 0) ⟨Nat.zero_le _, by simp, fun j hj => by omega⟩ (by apply Weak.mk' <;> simp [vl, NetD.cells]) (fun _ _ => rfl) ?_
    rintro ⟨i, c⟩ ⟨hi, hlen, hset⟩
    simp only at hi hlen hset
    by_cases hlt : i < n.clocks.length
    · have hlt' : (i : Int) < n.clocks.length := by omega
      have hic : i < c.length := by omega
      have w1 : IntKind.i64.wrap ((i : Int) + 1) = i + 1 := wrap_i64 (by omega) (by omega)
      repeat' (first
 |refine AW_seq_k fun K hK=>?_|refine Step.by1 ?_|refine SBlock_exit_ne (by decide) ?_|refine cz rfl ?_|refine Fork.by2 (fun h=>?_) fun h=>?_
 |(refine AW_region_AO ?_;simp [gsV, vl, NetD.cells, hlt, hlt', hic, hlen, w1])
 |(refine Split.by2 (fun h=>?_) (fun h=>?_)<;>(simp [h, gsV, vl, NetD.cells, hlt, hlt', hic, hlen, w1]))
 |(apply hK;clear hK K)|refine AWh (by assumption) ?_)
      refine ⟨i + 1, c.set i (-1), ⟨by omega, by simp [hlen], set_next hset hic⟩, by omega, ?_⟩
      apply Weak.mk' <;> simp [vl, NetD.cells]
    · have hlt' : ¬ (i : Int) < n.clocks.length := by omega
      have hc := all_set hlen (fun j hj => hset j (by omega))
      rw [← hc] at hr
      clear hset
      have hS := c_searchG n hn fso so hso c (by omega) (by rw [hlen]; exact hgd)
      have hl2 : (raiseL so (guardsL n) c).length = n.clocks.length := by rw [raiseL_len, hlen]
      generalize raiseL so (guardsL n) c = o at *
      clear hc
      repeat' (first
 |refine AW_seq_k fun K hK=>?_|refine Step.by1 ?_|refine SBlock_exit_ne (by decide) ?_|refine cz rfl ?_|refine Fork.by2 (fun h=>?_) fun h=>?_
 |(refine AW_region_AO ?_;simp [gsV, vl, NetD.cells, hlt, hlt'])
 |(refine Split.by2 (fun h=>?_) (fun h=>?_)<;>(simp [h, gsV, vl, NetD.cells, hlt, hlt']))
 |(refine AS_callG (f := 63) rfl rfl (hS.imp (by simp [vl, NetD.cells]) (by simp [H5, NetD.cells, vl, hlen])) rfl (fun v h' hq => ?_); obtain ⟨rfl, rfl⟩ := hq; simp [vl, H5, NetD.cells])
 |(apply hK;clear hK K)|refine AWh (by assumption) ?_)
      refine AW_range (r := r) gs 37 [3, 7, 9, 35, 36] (fun c : List Int => []) (fun c => H5 n fso c) (fun i c => c.length = n.clocks.length) (numG n so) o
        hr hl2 (by apply Weak.mk' <;> simp [vl, NetD.cells, H5]) (fun _ _ _ => by simp [H5_len, H5]) ?_ ?_
      · intro k q g _ hkt hg hJ hF
        rw [numG_cons] at hF
        have hgo := hgs g (hg ▸ List.getElem_mem hkt)
        have hc := c_Goal n hn g hgo
        obtain ⟨hg1, hg2⟩ := hgo
        have hgg := goal_guards (n := n) (g := g)
        have hkt' : (k : Int) < gs.length := by omega
        have w1 : IntKind.i64.wrap ((k : Int) + 1) = k + 1 := wrap_i64 (by omega) (by omega)
        simp only [vl, NetD.cells] at hc
        generalize goalE n g = ge at *
        by_cases hge : ge = 0
        · rw [if_neg (by simp [hge])] at hF
          rw [hge] at hc
          have hgg := hgg hge
          repeat' (first
 |refine AW_seq_k fun K hK=>?_|refine Step.by1 ?_|refine SBlock_exit_ne (by decide) ?_|refine cz rfl ?_|refine Fork.by2 (fun h=>?_) fun h=>?_
 |((first|refine AW_region_AO ?_|refine AS_call1 (f:=66) rfl rfl (hc) rfl rfl rfl ?_);simp [gsV, vl, NetD.cells, H5, hkt, hkt', hg])
 |(refine Split.by2 (fun h=>?_) (fun h=>?_)<;>(simp [h, gsV, vl, NetD.cells, H5, hkt, hkt', hg]))
 |(apply hK;clear hK K)|refine AWh (by assumption) ?_)
          obtain ⟨o2, ho2⟩ : ∃ o2, raisePs so g q = o2 := ⟨_, rfl⟩
          have hl3 : o2.length = n.clocks.length := by rw [← ho2, raisePs_len, hJ]
          rw [ho2] at hF
          refine AW_range (r := o2) g 47 [3, 7, 9, 35, 36, 37, 45, 46] (fun c : List Int => []) (fun c => H5 n fso c) (fun i c => c.length = n.clocks.length) (raisePs so) q
            ho2 hJ (by apply Weak.mk' <;> simp [vl, NetD.cells, H5]) (fun _ _ _ => by simp [H5_len, H5]) ?_ ?_
          · intro m q2 p _ hmt hp hJ2 hG
            rw [raisePs_cons] at hG
            have hmp : p ∈ g := hp ▸ List.getElem_mem hmt
            have hR := c_raise n fso so hso p.guards q2 [.var p.cells] (by omega) (hg2 p hmp).2.1.1 (fun x hx => by rw [hJ2]; exact hgg p hmp x hx) (by simp [PartD.cells, vl])
            have hl4 : (raiseL so p.guards q2).length = n.clocks.length := by rw [raiseL_len, hJ2]
            have hmt' : (m : Int) < g.length := by omega
            have w2 : IntKind.i64.wrap ((m : Int) + 1) = m + 1 := wrap_i64 (by omega) (by omega)
            generalize raiseL so p.guards q2 = q' at *
            repeat' (first
 |refine AW_seq_k fun K hK=>?_|refine Step.by1 ?_|refine SBlock_exit_ne (by decide) ?_|refine cz rfl ?_|refine Fork.by2 (fun h=>?_) fun h=>?_
 |(refine AW_region_AO ?_;simp [gsV, vl, NetD.cells, PartD.cells, H5, hmt, hmt', hp, w2])
 |(refine Split.by2 (fun h=>?_) (fun h=>?_)<;>(simp [h, gsV, vl, NetD.cells, PartD.cells, H5, hmt, hmt', hp, w2]))
 |(refine AS_callG (f := 62) rfl rfl (hR.imp (by simp [vl]) (by simp [H5, NetD.cells, PartD.cells, vl])) rfl (fun v h' hq => ?_); obtain ⟨rfl, rfl⟩ := hq; simp [vl, H5, NetD.cells, PartD.cells])
 |(apply hK;clear hK K)|refine AWh (by assumption) ?_)
            exact ⟨q', hG, hl4, by apply Weak.mk' <;> simp [vl, NetD.cells, H5]⟩
          · intro q2 hJ2 hG
            rw [raisePs_nil] at hG
            subst hG
            repeat' (first
 |refine AW_seq_k fun K hK=>?_|refine Step.by1 ?_|refine SBlock_exit_ne (by decide) ?_|refine cz rfl ?_|refine Fork.by2 (fun h=>?_) fun h=>?_
 |(refine AW_region_AO ?_;simp [gsV, vl, NetD.cells, H5, w1])
 |(refine Split.by2 (fun h=>?_) (fun h=>?_)<;>(simp [h, gsV, vl, NetD.cells, H5, w1]))
 |(apply hK;clear hK K)|refine AWh (by assumption) ?_)
            exact ⟨q2, hF, hJ2, by apply Weak.mk' <;> simp [vl, NetD.cells, H5]⟩
        · rw [if_pos hge] at hF
          subst hF
          repeat' (first
 |refine AW_seq_k fun K hK=>?_|refine Step.by1 ?_|refine SBlock_exit_ne (by decide) ?_|refine cz rfl ?_|refine Fork.by2 (fun h=>?_) fun h=>?_
 |((first|refine AW_region_AO ?_|refine AS_call1 (f:=66) rfl rfl (hc) rfl rfl rfl ?_);simp [gsV, vl, NetD.cells, H5, hkt, hkt', hg, hge])
 |(refine Split.by2 (fun h=>?_) (fun h=>?_)<;>(simp [h, gsV, vl, NetD.cells, H5, hkt, hkt', hg, hge]))
 |(apply hK;clear hK K)|refine AWh (by assumption) ?_)
          exact retq1 (conv_eq rfl rfl)
      · intro q hJ hF
        rw [numG_nil] at hF
        subst hF
        repeat' (first
 |refine AW_seq_k fun K hK=>?_|refine Step.by1 ?_|refine SBlock_exit_ne (by decide) ?_|refine cz rfl ?_|refine Fork.by2 (fun h=>?_) fun h=>?_
 |(refine AW_region_AO ?_;simp [gsV, vl, NetD.cells, H5])
 |(refine Split.by2 (fun h=>?_) (fun h=>?_)<;>(simp [h, gsV, vl, NetD.cells, H5]))
 |(apply hK;clear hK K)|refine AWh (by assumption) ?_)
        exact retq1 (.inr (.inl (conv1_own rfl (by simp))))
  · rw [if_pos hz] at hr
    subst hr
    repeat' (first
 |refine AW_seq_k fun K hK=>?_|refine Step.by1 ?_|refine SBlock_exit_ne (by decide) ?_|refine cz rfl ?_|refine Fork.by2 (fun h=>?_) fun h=>?_
 |((first|refine AW_region_AO ?_|refine AS_call1 (f:=10) rfl rfl (hN) rfl rfl rfl ?_);simp [gsV, vl, NetD.cells, hz])
 |(refine Split.by2 (fun h=>?_) (fun h=>?_)<;>(simp [h, gsV, vl, NetD.cells, hz]))
 |(apply hK;clear hK K)|refine AWh (by assumption) ?_)
    exact retq1 (conv_eq rfl rfl)
end Go.Proofs.YtgmlimipejcpgaaDoor
end

section
set_option linter.unusedVariables false
namespace Go.Proofs.YtgmlimipejcpgaaDoor
open Go Go.AM
theorem zco29 : Tryd.prog.cellsOf 29 = 1 := by kernel_rfl
theorem rnGoal : RdN KB Tryd.prog 29 (fun g : List PartD => [vl PartD.cells g]) okGoal :=
  (RdN_slice Tryd.underlying29 (by rw [zco89]; decide) rnPartD (fun _ => by rw [zco89]; rfl)).map id (fun _ => rfl) (fun _ h => h)
def okGoals (gs : List (List PartD)) : Prop := gs.length ≤ 1048576 ∧ ∀ g ∈ gs, okGoal g
theorem rnGoals : RdN KB Tryd.prog 27 (fun gs : List (List PartD) => [gsV gs]) okGoals :=
  (RdN_slice Tryd.underlying27 (by rw [zco29]; decide) rnGoal (fun _ => by rw [zco29]; rfl)).map id (fun _ => rfl) (fun _ h => h)
end Go.Proofs.YtgmlimipejcpgaaDoor
end

section
set_option linter.unusedVariables false
set_option linter.unusedSimpArgs false
namespace Go.AM
section
variable {P : Program} {ge : GEnv} {st : St} {Q : Exit → St → Prop}
theorem run_equal_snil {T e : TypeId} (h : P.underlying T = some (.slice e)) (a : Option Addr) (m n : Nat) (w : World) : (Op.equal T (.slice a m n) (.slice none 0 0)).run P w = .ok a.isNone w := by
  refine equalIn_succ 9999 T _ _ _ w ?_ rfl
  rw [Op.equalIn]
  cases a <;> simp only [Sem.run_bind, run_underlying h, Result.andThen_ok, Sem.run_pure, Option.isNone]
/-- Whether it is nil is open; if it is, it is empty. -/
theorem AS_eqnil {ops : Array Oper} {rest : List Oper} {d : Option Tmp} {T T' e t : TypeId} {x y : Operand} {p : String} {af : Array Edge} {xs : List (List V)} {len : Nat} (hu : P.underlying T = some (.slice e)) (hx : ev ge st.tm x = .vec xs len) (hy : ev ge st.tm y = .nils) (hd : dstOk st.n d = true)
    (h : ∀ b : Bool, (b = true → len = 0) → AS P ge ops rest Q ⟨st.n, putD d (.bool b) st.tm, st.h⟩) : AS P ge ops (⟨d, .binOp .eql T x y T', t, p, af, none⟩ :: rest) Q st := by
  intro G a w hr
  have h1 := hr.ev x
  have h2 := hr.ev y
  rw [hx] at h1; rw [hy] at h2
  have hcy := inv_nils h2
  have key : ∃ b : Bool, (b = true → len = 0) ∧ (execOp a.eval ⟨d, .binOp .eql T x y T', t, p, af, none⟩).run P w = .ok (.value (.bool b)) w := by
    generalize hcx : a.eval x = cx at h1
    cases h1 with
    | @emp _ a' cap _ => exact ⟨a'.isNone, fun _ => rfl, by simp [execOp, hcx, hcy, run_eqGuard_slice, binOp, run_equal_snil hu]⟩
    | vec => exact ⟨false, fun h => (by cases h), by simp [execOp, hcx, hcy, run_eqGuard_slice, binOp, run_equal_snil hu]⟩
  obtain ⟨b, hb, hrun⟩ := key
  refine wpList_plain rfl fun K hK => ?_
  have hfin : K (a.put d (.bool b)) w := hK _ _ (h b hb G _ w (hr.put (GLe.refl _ _) hr.rh d (dstOk_spec hd) .bool))
  unfold Oper.wp
  rw [hrun]; exact hfin
/-- A nil result as an empty one. -/
theorem AW_retemp (s : Nat) (hs : lk st.tm s = .nils) (h : Q .ret ⟨st.n, (s, .vec [] 0) :: st.tm, st.h⟩) : AW P ge .ret Q st := fun G a w hr =>
  wp_ret ⟨G, _, h, ⟨hr.rh, fun t => by
    simp only [lk]
    split
    · rename_i e
      have h1 := hr.tm s
      rw [hs] at h1
      subst e
      have := inv_nils h1
      rw [this]; exact .emp (Nat.zero_le _)
    · exact hr.tm t, hr.n, hr.d⟩, .refl _ _ _⟩
end
end Go.AM
end

section

end

section
set_option linter.unusedVariables false
set_option linter.unusedSimpArgs false
namespace Go.Proofs.YtgmlimipejcpgaaDoor
open Go Go.AM Fx
set_option maxHeartbeats 4000000 in
theorem c_CloneS (l : List ByteArray) (hl : l.length ≤ 1048576) : PC 24 [vl (fun x : ByteArray => [V.str x]) l] (vl (fun x : ByteArray => [V.str x]) l) := by
  refine PCall_body Tryd.func24 rfl (by decide) Tryd.ntmps24 (by simp) Tryd.results24 ?_
  have b1 : l.length * 16 ≤ 140737488355328 := by omega
  have tk : List.take l.length (l.map (fun x : ByteArray => [V.str x])) = l.map (fun x : ByteArray => [V.str x]) := List.take_of_length_le (by simp)
  repeat' (first
 |(refine AW_retemp 2 rfl ?_)
 |(refine AW_region (id := 1) ?_; refine AS_op rfl rfl S_move ?_; refine AS_eqnil Tryd.underlying22 (by rfl) (by rfl) (by rfl) (fun b hb => ?_); refine AS_nil ?_; cases b)
 |refine AW_seq_k fun K hK=>?_|refine Step.by1 ?_|refine SBlock_exit_ne (by decide) ?_|refine cz rfl ?_|refine Fork.by2 (fun h=>?_) fun h=>?_
 |(refine AW_region_AO ?_;simp [vl, b1, tk])
 |(refine Split.by2 (fun h=>?_) (fun h=>?_)<;>(simp [h, vl, b1, tk]))
 |(apply hK;clear hK K)|refine AWh (by assumption) ?_)
  · exact retq1 (.inl ⟨1, by simp [Go.AM.frz, vl], rfl⟩)
  · have := List.eq_nil_of_length_eq_zero (hb rfl)
    subst this
    exact retq1 (conv_eq rfl rfl)
set_option maxHeartbeats 4000000 in
theorem c_CloneV (l : List VarD) (hl : l.length ≤ 1048576) : PC 25 [vl VarD.cells l] (vl VarD.cells l) := by
  refine PCall_body Tryd.func25 rfl (by decide) Tryd.ntmps25 (by simp) Tryd.results25 ?_
  have b1 : l.length * 40 ≤ 140737488355328 := by omega
  have tk : List.take l.length (l.map VarD.cells) = l.map VarD.cells := List.take_of_length_le (by simp)
  repeat' (first
 |(refine AW_retemp 2 rfl ?_)
 |(refine AW_region (id := 1) ?_; refine AS_op rfl rfl S_move ?_; refine AS_eqnil Tryd.underlying23 (by rfl) (by rfl) (by rfl) (fun b hb => ?_); refine AS_nil ?_; cases b)
 |refine AW_seq_k fun K hK=>?_|refine Step.by1 ?_|refine SBlock_exit_ne (by decide) ?_|refine cz rfl ?_|refine Fork.by2 (fun h=>?_) fun h=>?_
 |(refine AW_region_AO ?_;simp [vl, b1, tk])
 |(refine Split.by2 (fun h=>?_) (fun h=>?_)<;>(simp [h, vl, b1, tk]))
 |(apply hK;clear hK K)|refine AWh (by assumption) ?_)
  · exact retq1 (.inl ⟨1, by simp [Go.AM.frz, vl], rfl⟩)
  · have := List.eq_nil_of_length_eq_zero (hb rfl)
    subst this
    exact retq1 (conv_eq rfl rfl)
set_option maxHeartbeats 4000000 in
theorem c_CloneG (l : List GuardD) (hl : l.length ≤ 1048576) : PC 30 [vl GuardD.cells l] (vl GuardD.cells l) := by
  refine PCall_body Tryd.func30 rfl (by decide) Tryd.ntmps30 (by simp) Tryd.results30 ?_
  have b1 : l.length * 32 ≤ 140737488355328 := by omega
  have tk : List.take l.length (l.map GuardD.cells) = l.map GuardD.cells := List.take_of_length_le (by simp)
  repeat' (first
 |(refine AW_retemp 2 rfl ?_)
 |(refine AW_region (id := 1) ?_; refine AS_op rfl rfl S_move ?_; refine AS_eqnil Tryd.underlying43 (by rfl) (by rfl) (by rfl) (fun b hb => ?_); refine AS_nil ?_; cases b)
 |refine AW_seq_k fun K hK=>?_|refine Step.by1 ?_|refine SBlock_exit_ne (by decide) ?_|refine cz rfl ?_|refine Fork.by2 (fun h=>?_) fun h=>?_
 |(refine AW_region_AO ?_;simp [vl, b1, tk])
 |(refine Split.by2 (fun h=>?_) (fun h=>?_)<;>(simp [h, vl, b1, tk]))
 |(apply hK;clear hK K)|refine AWh (by assumption) ?_)
  · exact retq1 (.inl ⟨1, by simp [Go.AM.frz, vl], rfl⟩)
  · have := List.eq_nil_of_length_eq_zero (hb rfl)
    subst this
    exact retq1 (conv_eq rfl rfl)
set_option maxHeartbeats 4000000 in
theorem c_CloneN (l : List NodeD) (hl : l.length ≤ 1048576) : PC 33 [vl NodeD.cells l] (vl NodeD.cells l) := by
  refine PCall_body Tryd.func33 rfl (by decide) Tryd.ntmps33 (by simp) Tryd.results33 ?_
  have b1 : l.length * 16 ≤ 140737488355328 := by omega
  have tk : List.take l.length (l.map NodeD.cells) = l.map NodeD.cells := List.take_of_length_le (by simp)
  repeat' (first
 |(refine AW_retemp 2 rfl ?_)
 |(refine AW_region (id := 1) ?_; refine AS_op rfl rfl S_move ?_; refine AS_eqnil Tryd.underlying46 (by rfl) (by rfl) (by rfl) (fun b hb => ?_); refine AS_nil ?_; cases b)
 |refine AW_seq_k fun K hK=>?_|refine Step.by1 ?_|refine SBlock_exit_ne (by decide) ?_|refine cz rfl ?_|refine Fork.by2 (fun h=>?_) fun h=>?_
 |(refine AW_region_AO ?_;simp [vl, b1, tk])
 |(refine Split.by2 (fun h=>?_) (fun h=>?_)<;>(simp [h, vl, b1, tk]))
 |(apply hK;clear hK K)|refine AWh (by assumption) ?_)
  · exact retq1 (.inl ⟨1, by simp [Go.AM.frz, vl], rfl⟩)
  · have := List.eq_nil_of_length_eq_zero (hb rfl)
    subst this
    exact retq1 (conv_eq rfl rfl)
end Go.Proofs.YtgmlimipejcpgaaDoor
end

section
set_option linter.unusedVariables false
set_option linter.unusedSimpArgs false
namespace Go.Proofs.YtgmlimipejcpgaaDoor
open Go Go.AM Fx
set_option maxHeartbeats 4000000 in
theorem c_eachSet (f : Nat) (l : List SetD) (hl : l.length ≤ 1048576) (hf : ∀ x ∈ l, PC f [.agg x.cells] (.agg x.cells)) : PC 34 [vl SetD.cells l, .fn (.func f) [] []] (vl SetD.cells l) := by
  refine PCall_body Tryd.func34 rfl (by decide) Tryd.ntmps34 (by simp) Tryd.results34 ?_
  repeat' (first
 |refine AW_seq_k fun K hK=>?_|refine Step.by1 ?_|refine SBlock_exit_ne (by decide) ?_|refine cz rfl ?_|refine Fork.by2 (fun h=>?_) fun h=>?_
 |(refine AW_region_AO ?_;simp [vl])
 |(refine Split.by2 (fun h=>?_) (fun h=>?_)<;>(simp [h, vl]))
 |(apply hK;clear hK K)|refine AWh (by assumption) ?_)
  refine AW_nilrow 5 82 rfl (by simp) ?_
  refine AW_loopL [1, 8, 9] (fun i : Nat => [(5, .ref 0 i 0 i), (10, .int .i64 i)]) (fun i => [.row 82 i 0 true ((l.take i).map SetD.cells)]) (fun i => i ≤ l.length) (fun i => l.length - i) 0 (Nat.zero_le _) (by apply Weak.mk' <;> simp [vl]) (fun _ _ => rfl) ?_
  intro i hi
  by_cases hlt : i < l.length
  · obtain ⟨x, hx⟩ : ∃ x, l[i] = x := ⟨_, rfl⟩
    have hc := hf x (hx ▸ List.getElem_mem hlt)
    have hlt' : (i : Int) < l.length := by omega
    have w1 : IntKind.i64.wrap ((i : Int) + 1) = i + 1 := wrap_i64 (by omega) (by omega)
    have hby : (i + 1) * 48 ≤ 140737488355328 := by omega
    have hli : min i l.length = i := by omega
    have hts : List.take (i + 1) (l.map SetD.cells) = List.take i (l.map SetD.cells) ++ [x.cells] := by rw [List.take_add_one, List.getElem?_map, List.getElem?_eq_getElem hlt, hx]; simp
    simp only [SetD.cells, vl] at hc hts
    repeat' (first
 |refine AW_seq_k fun K hK=>?_|refine Step.by1 ?_|refine SBlock_exit_ne (by decide) ?_|refine cz rfl ?_|refine Fork.by2 (fun h=>?_) fun h=>?_
 |(refine AW_region_AO ?_;simp [vl, SetD.cells, hlt, hlt', hx, w1, hby, hli])
 |(refine Split.by2 (fun h=>?_) (fun h=>?_)<;>(simp [h, vl, SetD.cells, hlt, hlt', hx, w1, hby, hli]))
 |(refine AS_call1 (f := f) rfl rfl hc rfl rfl rfl ?_; simp [vl, SetD.cells, hby, hli])
 |(apply hK;clear hK K)|refine AWh (by assumption) ?_)
    refine ⟨i + 1, by omega, by omega, ?_⟩
    apply Weak.mk' <;> simp [vl, hts]
  · obtain rfl : i = l.length := by omega
    repeat' (first
 |refine AW_seq_k fun K hK=>?_|refine Step.by1 ?_|refine SBlock_exit_ne (by decide) ?_|refine cz rfl ?_|refine Fork.by2 (fun h=>?_) fun h=>?_
 |(refine AW_region_AO ?_;simp [vl])
 |(refine Split.by2 (fun h=>?_) (fun h=>?_)<;>(simp [h, vl]))
 |(apply hK;clear hK K)|refine AWh (by assumption) ?_)
    exact retq1 (.inl ⟨1, by simp [Go.AM.frz, vl], rfl⟩)
set_option maxHeartbeats 4000000 in
theorem c_eachEdge (f : Nat) (l : List EdgeD) (hl : l.length ≤ 1048576) (hf : ∀ x ∈ l, PC f [.agg x.cells] (.agg x.cells)) : PC 31 [vl EdgeD.cells l, .fn (.func f) [] []] (vl EdgeD.cells l) := by
  refine PCall_body Tryd.func31 rfl (by decide) Tryd.ntmps31 (by simp) Tryd.results31 ?_
  repeat' (first
 |refine AW_seq_k fun K hK=>?_|refine Step.by1 ?_|refine SBlock_exit_ne (by decide) ?_|refine cz rfl ?_|refine Fork.by2 (fun h=>?_) fun h=>?_
 |(refine AW_region_AO ?_;simp [vl])
 |(refine Split.by2 (fun h=>?_) (fun h=>?_)<;>(simp [h, vl]))
 |(apply hK;clear hK K)|refine AWh (by assumption) ?_)
  refine AW_nilrow 5 49 rfl (by simp) ?_
  refine AW_loopL [1, 8, 9] (fun i : Nat => [(5, .ref 0 i 0 i), (10, .int .i64 i)]) (fun i => [.row 49 i 0 true ((l.take i).map EdgeD.cells)]) (fun i => i ≤ l.length) (fun i => l.length - i) 0 (Nat.zero_le _) (by apply Weak.mk' <;> simp [vl]) (fun _ _ => rfl) ?_
  intro i hi
  by_cases hlt : i < l.length
  · obtain ⟨x, hx⟩ : ∃ x, l[i] = x := ⟨_, rfl⟩
    have hc := hf x (hx ▸ List.getElem_mem hlt)
    have hlt' : (i : Int) < l.length := by omega
    have w1 : IntKind.i64.wrap ((i : Int) + 1) = i + 1 := wrap_i64 (by omega) (by omega)
    have hby : (i + 1) * 104 ≤ 140737488355328 := by omega
    have hli : min i l.length = i := by omega
    have hts : List.take (i + 1) (l.map EdgeD.cells) = List.take i (l.map EdgeD.cells) ++ [x.cells] := by rw [List.take_add_one, List.getElem?_map, List.getElem?_eq_getElem hlt, hx]; simp
    simp only [EdgeD.cells, vl] at hc hts
    repeat' (first
 |refine AW_seq_k fun K hK=>?_|refine Step.by1 ?_|refine SBlock_exit_ne (by decide) ?_|refine cz rfl ?_|refine Fork.by2 (fun h=>?_) fun h=>?_
 |(refine AW_region_AO ?_;simp [vl, EdgeD.cells, hlt, hlt', hx, w1, hby, hli])
 |(refine Split.by2 (fun h=>?_) (fun h=>?_)<;>(simp [h, vl, EdgeD.cells, hlt, hlt', hx, w1, hby, hli]))
 |(refine AS_call1 (f := f) rfl rfl hc rfl rfl rfl ?_; simp [vl, EdgeD.cells, hby, hli])
 |(apply hK;clear hK K)|refine AWh (by assumption) ?_)
    refine ⟨i + 1, by omega, by omega, ?_⟩
    apply Weak.mk' <;> simp [vl, hts]
  · obtain rfl : i = l.length := by omega
    repeat' (first
 |refine AW_seq_k fun K hK=>?_|refine Step.by1 ?_|refine SBlock_exit_ne (by decide) ?_|refine cz rfl ?_|refine Fork.by2 (fun h=>?_) fun h=>?_
 |(refine AW_region_AO ?_;simp [vl])
 |(refine Split.by2 (fun h=>?_) (fun h=>?_)<;>(simp [h, vl]))
 |(apply hK;clear hK K)|refine AWh (by assumption) ?_)
    exact retq1 (.inl ⟨1, by simp [Go.AM.frz, vl], rfl⟩)
set_option maxHeartbeats 4000000 in
theorem c_eachLoc (f : Nat) (l : List LocD) (hl : l.length ≤ 1048576) (hf : ∀ x ∈ l, PC f [.agg x.cells] (.agg x.cells)) : PC 28 [vl LocD.cells l, .fn (.func f) [] []] (vl LocD.cells l) := by
  refine PCall_body Tryd.func28 rfl (by decide) Tryd.ntmps28 (by simp) Tryd.results28 ?_
  repeat' (first
 |refine AW_seq_k fun K hK=>?_|refine Step.by1 ?_|refine SBlock_exit_ne (by decide) ?_|refine cz rfl ?_|refine Fork.by2 (fun h=>?_) fun h=>?_
 |(refine AW_region_AO ?_;simp [vl])
 |(refine Split.by2 (fun h=>?_) (fun h=>?_)<;>(simp [h, vl]))
 |(apply hK;clear hK K)|refine AWh (by assumption) ?_)
  refine AW_nilrow 5 45 rfl (by simp) ?_
  refine AW_loopL [1, 8, 9] (fun i : Nat => [(5, .ref 0 i 0 i), (10, .int .i64 i)]) (fun i => [.row 45 i 0 true ((l.take i).map LocD.cells)]) (fun i => i ≤ l.length) (fun i => l.length - i) 0 (Nat.zero_le _) (by apply Weak.mk' <;> simp [vl]) (fun _ _ => rfl) ?_
  intro i hi
  by_cases hlt : i < l.length
  · obtain ⟨x, hx⟩ : ∃ x, l[i] = x := ⟨_, rfl⟩
    have hc := hf x (hx ▸ List.getElem_mem hlt)
    have hlt' : (i : Int) < l.length := by omega
    have w1 : IntKind.i64.wrap ((i : Int) + 1) = i + 1 := wrap_i64 (by omega) (by omega)
    have hby : (i + 1) * 48 ≤ 140737488355328 := by omega
    have hli : min i l.length = i := by omega
    have hts : List.take (i + 1) (l.map LocD.cells) = List.take i (l.map LocD.cells) ++ [x.cells] := by rw [List.take_add_one, List.getElem?_map, List.getElem?_eq_getElem hlt, hx]; simp
    simp only [LocD.cells, vl] at hc hts
    repeat' (first
 |refine AW_seq_k fun K hK=>?_|refine Step.by1 ?_|refine SBlock_exit_ne (by decide) ?_|refine cz rfl ?_|refine Fork.by2 (fun h=>?_) fun h=>?_
 |(refine AW_region_AO ?_;simp [vl, LocD.cells, hlt, hlt', hx, w1, hby, hli])
 |(refine Split.by2 (fun h=>?_) (fun h=>?_)<;>(simp [h, vl, LocD.cells, hlt, hlt', hx, w1, hby, hli]))
 |(refine AS_call1 (f := f) rfl rfl hc rfl rfl rfl ?_; simp [vl, LocD.cells, hby, hli])
 |(apply hK;clear hK K)|refine AWh (by assumption) ?_)
    refine ⟨i + 1, by omega, by omega, ?_⟩
    apply Weak.mk' <;> simp [vl, hts]
  · obtain rfl : i = l.length := by omega
    repeat' (first
 |refine AW_seq_k fun K hK=>?_|refine Step.by1 ?_|refine SBlock_exit_ne (by decide) ?_|refine cz rfl ?_|refine Fork.by2 (fun h=>?_) fun h=>?_
 |(refine AW_region_AO ?_;simp [vl])
 |(refine Split.by2 (fun h=>?_) (fun h=>?_)<;>(simp [h, vl]))
 |(apply hK;clear hK K)|refine AWh (by assumption) ?_)
    exact retq1 (.inl ⟨1, by simp [Go.AM.frz, vl], rfl⟩)
set_option maxHeartbeats 4000000 in
theorem c_eachAuto (f : Nat) (l : List AutoD) (hl : l.length ≤ 1048576) (hf : ∀ x ∈ l, PC f [.agg x.cells] (.agg x.cells)) : PC 26 [vl AutoD.cells l, .fn (.func f) [] []] (vl AutoD.cells l) := by
  refine PCall_body Tryd.func26 rfl (by decide) Tryd.ntmps26 (by simp) Tryd.results26 ?_
  repeat' (first
 |refine AW_seq_k fun K hK=>?_|refine Step.by1 ?_|refine SBlock_exit_ne (by decide) ?_|refine cz rfl ?_|refine Fork.by2 (fun h=>?_) fun h=>?_
 |(refine AW_region_AO ?_;simp [vl])
 |(refine Split.by2 (fun h=>?_) (fun h=>?_)<;>(simp [h, vl]))
 |(apply hK;clear hK K)|refine AWh (by assumption) ?_)
  refine AW_nilrow 5 41 rfl (by simp) ?_
  refine AW_loopL [1, 8, 9] (fun i : Nat => [(5, .ref 0 i 0 i), (10, .int .i64 i)]) (fun i => [.row 41 i 0 true ((l.take i).map AutoD.cells)]) (fun i => i ≤ l.length) (fun i => l.length - i) 0 (Nat.zero_le _) (by apply Weak.mk' <;> simp [vl]) (fun _ _ => rfl) ?_
  intro i hi
  by_cases hlt : i < l.length
  · obtain ⟨x, hx⟩ : ∃ x, l[i] = x := ⟨_, rfl⟩
    have hc := hf x (hx ▸ List.getElem_mem hlt)
    have hlt' : (i : Int) < l.length := by omega
    have w1 : IntKind.i64.wrap ((i : Int) + 1) = i + 1 := wrap_i64 (by omega) (by omega)
    have hby : (i + 1) * 64 ≤ 140737488355328 := by omega
    have hli : min i l.length = i := by omega
    have hts : List.take (i + 1) (l.map AutoD.cells) = List.take i (l.map AutoD.cells) ++ [x.cells] := by rw [List.take_add_one, List.getElem?_map, List.getElem?_eq_getElem hlt, hx]; simp
    simp only [AutoD.cells, vl] at hc hts
    repeat' (first
 |refine AW_seq_k fun K hK=>?_|refine Step.by1 ?_|refine SBlock_exit_ne (by decide) ?_|refine cz rfl ?_|refine Fork.by2 (fun h=>?_) fun h=>?_
 |(refine AW_region_AO ?_;simp [vl, AutoD.cells, hlt, hlt', hx, w1, hby, hli])
 |(refine Split.by2 (fun h=>?_) (fun h=>?_)<;>(simp [h, vl, AutoD.cells, hlt, hlt', hx, w1, hby, hli]))
 |(refine AS_call1 (f := f) rfl rfl hc rfl rfl rfl ?_; simp [vl, AutoD.cells, hby, hli])
 |(apply hK;clear hK K)|refine AWh (by assumption) ?_)
    refine ⟨i + 1, by omega, by omega, ?_⟩
    apply Weak.mk' <;> simp [vl, hts]
  · obtain rfl : i = l.length := by omega
    repeat' (first
 |refine AW_seq_k fun K hK=>?_|refine Step.by1 ?_|refine SBlock_exit_ne (by decide) ?_|refine cz rfl ?_|refine Fork.by2 (fun h=>?_) fun h=>?_
 |(refine AW_region_AO ?_;simp [vl])
 |(refine Split.by2 (fun h=>?_) (fun h=>?_)<;>(simp [h, vl]))
 |(apply hK;clear hK K)|refine AWh (by assumption) ?_)
    exact retq1 (.inl ⟨1, by simp [Go.AM.frz, vl], rfl⟩)
end Go.Proofs.YtgmlimipejcpgaaDoor
end

section
set_option linter.unusedVariables false
set_option linter.unusedSimpArgs false
namespace Go.Proofs.YtgmlimipejcpgaaDoor
open Go Go.AM Fx
set_option maxHeartbeats 4000000 in
theorem c_CopySet (x : SetD) (hx : x.ok) : PC 35 [.agg x.cells] (.agg x.cells) := by
  have hc := c_CloneN x.expr hx.2.2.2.1
  simp only [vl] at hc
  refine PCall_body Tryd.func35 rfl (by decide) Tryd.ntmps35 (by simp) Tryd.results35 ?_
  repeat' (first
 |refine AW_seq_k fun K hK=>?_|refine Step.by1 ?_|refine SBlock_exit_ne (by decide) ?_|refine cz rfl ?_|refine Fork.by2 (fun h=>?_) fun h=>?_
 |((first|refine AW_region_AO ?_|refine AS_call1 (f:=33) rfl rfl (hc) rfl rfl rfl ?_);simp [vl, SetD.cells])
 |(refine Split.by2 (fun h=>?_) (fun h=>?_)<;>(simp [h, vl, SetD.cells]))
 |(apply hK;clear hK K)|refine AWh (by assumption) ?_)
  exact retqc rfl (by simp) (conv_eq (by simp [vl, SetD.cells]) (by simp))
set_option maxHeartbeats 4000000 in
theorem c_CopyLoc (x : LocD) (hx : x.ok) : PC 29 [.agg x.cells] (.agg x.cells) := by
  have hc := c_CloneG x.inv hx.2.2.1
  simp only [vl] at hc
  refine PCall_body Tryd.func29 rfl (by decide) Tryd.ntmps29 (by simp) Tryd.results29 ?_
  repeat' (first
 |refine AW_seq_k fun K hK=>?_|refine Step.by1 ?_|refine SBlock_exit_ne (by decide) ?_|refine cz rfl ?_|refine Fork.by2 (fun h=>?_) fun h=>?_
 |((first|refine AW_region_AO ?_|refine AS_call1 (f:=30) rfl rfl (hc) rfl rfl rfl ?_);simp [vl, LocD.cells])
 |(refine Split.by2 (fun h=>?_) (fun h=>?_)<;>(simp [h, vl, LocD.cells]))
 |(apply hK;clear hK K)|refine AWh (by assumption) ?_)
  exact retqc rfl (by simp) (conv_eq (by simp [vl, LocD.cells]) (by simp))
set_option maxHeartbeats 4000000 in
theorem c_CopyEdge (x : EdgeD) (hx : x.ok) : PC 32 [.agg x.cells] (.agg x.cells) := by
  have hg := c_CloneG x.guards hx.2.2.1.1
  have ht := c_CloneN x.test hx.2.2.2.1.1
  have hs := c_eachSet 35 x.sets hx.2.2.2.2.2.2.1 (fun y hy => c_CopySet y (hx.2.2.2.2.2.2.2 y hy))
  simp only [vl] at hg ht hs
  refine PCall_body Tryd.func32 rfl (by decide) Tryd.ntmps32 (by simp) Tryd.results32 ?_
  repeat' (first
 |refine AW_seq_k fun K hK=>?_|refine Step.by1 ?_|refine SBlock_exit_ne (by decide) ?_|refine cz rfl ?_|refine Fork.by2 (fun h=>?_) fun h=>?_
 |((first|refine AW_region_AO ?_|refine AW_region_APx (id:=1) 7 mixed (by decide) ?_|refine AP_call1 (f:=30) rfl rfl (hg) rfl rfl rfl ?_|refine AP_call1 (f:=33) rfl rfl (ht) rfl rfl rfl ?_|refine AS_call1 (f:=34) rfl rfl (hs) rfl rfl rfl ?_);simp [vl, EdgeD.cells])
 |(refine Split.by2 (fun h=>?_) (fun h=>?_)<;>(simp [h, vl, EdgeD.cells]))
 |(apply hK;clear hK K)|refine AWh (by assumption) ?_)
  exact retqc rfl (by simp) (conv_eq (by simp [vl, EdgeD.cells]) (by simp))
set_option maxHeartbeats 4000000 in
theorem c_CopyAuto (x : AutoD) (hx : x.ok) : PC 27 [.agg x.cells] (.agg x.cells) := by
  have hl := c_eachLoc 29 x.locs hx.2.1.1 (fun y hy => c_CopyLoc y (hx.2.1.2 y hy))
  have he := c_eachEdge 32 x.edges hx.2.2.1 (fun y hy => c_CopyEdge y (hx.2.2.2 y hy))
  simp only [vl] at hl he
  refine PCall_body Tryd.func27 rfl (by decide) Tryd.ntmps27 (by simp) Tryd.results27 ?_
  repeat' (first
 |refine AW_seq_k fun K hK=>?_|refine Step.by1 ?_|refine SBlock_exit_ne (by decide) ?_|refine cz rfl ?_|refine Fork.by2 (fun h=>?_) fun h=>?_
 |((first|refine AW_region_AO ?_|refine AS_call1 (f:=28) rfl rfl (hl) rfl rfl rfl ?_|refine AS_call1 (f:=31) rfl rfl (he) rfl rfl rfl ?_);simp [vl, AutoD.cells])
 |(refine Split.by2 (fun h=>?_) (fun h=>?_)<;>(simp [h, vl, AutoD.cells]))
 |(apply hK;clear hK K)|refine AWh (by assumption) ?_)
  exact retqc rfl (by simp) (conv_eq (by simp [vl, AutoD.cells]) (by simp))
set_option maxHeartbeats 4000000 in
theorem c_Copy (n : NetD) (hn : n.ok) : PC 8 [.agg n.cells] (.agg n.cells) := by
  have h1 := c_CloneS n.clocks hn.1.1
  have h2 := c_CloneV n.vars hn.2.1.1
  have h3 := c_CloneS n.chans hn.2.2.1.1
  have h4 := c_eachAuto 27 n.autos hn.2.2.2.1 (fun y hy => c_CopyAuto y (hn.2.2.2.2 y hy))
  simp only [vl] at h1 h2 h3 h4
  refine PCall_body Tryd.func8 rfl (by decide) Tryd.ntmps8 (by simp) Tryd.results8 ?_
  repeat' (first
 |refine AW_seq_k fun K hK=>?_|refine Step.by1 ?_|refine SBlock_exit_ne (by decide) ?_|refine cz rfl ?_|refine Fork.by2 (fun h=>?_) fun h=>?_
 |((first|refine AW_region_AO ?_|refine AW_region_APx (id:=1) 10 mixed (by decide) ?_|refine AP_call1 (f:=24) rfl rfl (h1) rfl rfl rfl ?_|refine AP_call1 (f:=25) rfl rfl (h2) rfl rfl rfl ?_|refine AP_call1 (f:=24) rfl rfl (h3) rfl rfl rfl ?_|refine AS_call1 (f:=26) rfl rfl (h4) rfl rfl rfl ?_);simp [vl, NetD.cells])
 |(refine Split.by2 (fun h=>?_) (fun h=>?_)<;>(simp [h, vl, NetD.cells]))
 |(apply hK;clear hK K)|refine AWh (by assumption) ?_)
  exact retqc rfl (by simp) (conv_eq (by simp [vl, NetD.cells]) (by simp))
end Go.Proofs.YtgmlimipejcpgaaDoor
end

section
set_option linter.unusedVariables false
set_option linter.unusedSimpArgs false
namespace Go.AM
section
variable {P : Program} {ge : GEnv} {st : St} {Q : Exit → St → Prop} {ops : Array Oper}
variable {d : Option Tmp} {t : TypeId} {p : String} {af : Array Edge} {g : Option (Nat × Bool)}
/-- The walk of a region whose slices are built frozen. -/
def AOL (P : Program) (ge : GEnv) (ops : Array Oper) (Q : Exit → St → Prop) : List Oper → St → Prop
  | [], st => Q .normal st
  | ⟨d, .buildSlice T len parts, _, _, _, none⟩ :: rest, st => dstOk st.n d = true ∧ bsOk P ge st T len parts ∧
      AOL P ge ops Q rest ⟨st.n, putD d (.vec (rowsV (List.replicate len (zeroD P (elemOf P T))) (partsV ge st.tm parts.toList)) len) st.tm, st.h⟩
  | ⟨d, op, t, p, af, none⟩ :: rest, st =>
      if plainOp op = true then dstOk st.n d = true ∧ opOk P ge st op ∧ AOL P ge ops Q rest ⟨st.n, putD d (opVal P ge st op).1 st.tm, (opVal P ge st op).2⟩
      else AS P ge ops (⟨d, op, t, p, af, none⟩ :: rest) Q st
  | ⟨d, op, t, p, af, some g⟩ :: rest, st => AS P ge ops (⟨d, op, t, p, af, some g⟩ :: rest) Q st
theorem AS_of_AOL : ∀ {l : List Oper} {st : St}, AOL P ge ops Q l st → AS P ge ops l Q st
  | [], st, h => by rw [AOL] at h; exact AS_nil h
  | ⟨d, op, t, p, af, some g⟩ :: rest, st, h => by
    cases op <;> (rw [AOL] at h; try exact h) <;> (intro hh; cases hh)
  | ⟨d, op, t, p, af, none⟩ :: rest, st, h => by
    by_cases hb : ∃ T len parts, op = .buildSlice T len parts
    · obtain ⟨T, len, parts, rfl⟩ := hb
      rw [AOL] at h
      obtain ⟨h1, h2, h3⟩ := h
      exact AS_op rfl h1 (S_bsOk h2) (AS_of_AOL h3)
    · rw [AOL] at h
      · split at h
        · obtain ⟨h1, h2, h3⟩ := h
          exact AS_op rfl h1 (opS_of_ok h2) (AS_of_AOL h3)
        · exact h
      · intro T len parts e; exact hb ⟨T, len, parts, e⟩
theorem AW_region_AOL {id : Nat} (h : AOL P ge ops Q ops.toList st) : AW P ge (.region id ops false) Q st := AW_region (AS_of_AOL h)
end
mutual
def V.dn : V → V
  | .nils => .vec [] 0
  | .vec xs len => .vec (V.dnR xs) len
  | .agg cs => .agg (V.dns cs)
  | .tup cs => .tup (V.dns cs)
  | .fp cs off => .fp (V.dns cs) off
  | v => v
def V.dns : List V → List V
  | [] => []
  | v :: r => V.dn v :: V.dns r
def V.dnR : List (List V) → List (List V)
  | [] => []
  | x :: r => V.dns x :: V.dnR r
end
theorem dns_eq : ∀ cs : List V, V.dns cs = cs.map V.dn
  | [] => rfl
  | v :: r => by rw [V.dns, List.map_cons, dns_eq r]
theorem dnR_eq : ∀ xs : List (List V), V.dnR xs = xs.map V.dns
  | [] => rfl
  | x :: r => by rw [V.dnR, List.map_cons, dnR_eq r]
theorem R.dn {G : Gh} {w : World} {fr : Bool} {v : V} {c : Value} (h : R G w fr v c) : R G w fr v.dn c := by
  have tg : ∀ {cs : List V} {j : Nat} {v : V}, (V.dns cs)[j]? = some v → ∃ u, cs[j]? = some u ∧ v = u.dn := fun {cs j v} hv => by
    rw [dns_eq, List.getElem?_map] at hv
    obtain ⟨u, h1, h2⟩ := Option.map_eq_some_iff.1 hv
    exact ⟨u, h1, h2.symm⟩
  have rg : ∀ {xs : List (List V)} {i : Nat} {x : List V}, (V.dnR xs)[i]? = some x → ∃ y, xs[i]? = some y ∧ x = V.dns y := fun {xs i x} hx => by
    rw [dnR_eq, List.getElem?_map] at hx
    obtain ⟨y, h1, h2⟩ := Option.map_eq_some_iff.1 hx
    exact ⟨y, h1, h2.symm⟩
  induction h with
  | nils => exact .emp (Nat.zero_le _)
  | emp h => exact .emp h
  | @vec _ _ _ _ _ _ sz h1 h2 h3 hl hc ho hr ih =>
    refine .vec (sz := sz) (by rw [dnR_eq, List.length_map]; exact h1) (by rw [dnR_eq, List.length_map]; exact h2) h3 (fun i x hx => ?_) (fun i x j v hx hv => ?_) (fun i x j v hx hv => ?_) (fun i x j v hx hv => ?_)
    · obtain ⟨y, h4, rfl⟩ := rg hx; rw [dns_eq, List.length_map]; exact hl i y h4
    · obtain ⟨y, h4, rfl⟩ := rg hx; obtain ⟨u, h5, rfl⟩ := tg hv; exact hc i y j u h4 h5
    · obtain ⟨y, h4, rfl⟩ := rg hx; obtain ⟨u, h5, rfl⟩ := tg hv; exact ho i y j u h4 h5
    · obtain ⟨y, h4, rfl⟩ := rg hx; obtain ⟨u, h5, rfl⟩ := tg hv; exact ih i y j u h4 h5
  | fp hc ho hr ih =>
    refine .fp (fun j v hv => ?_) (fun j v hv => ?_) (fun j v hv => ?_)
    · obtain ⟨u, h5, rfl⟩ := tg hv; exact hc j u h5
    · obtain ⟨u, h5, rfl⟩ := tg hv; exact ho j u h5
    · obtain ⟨u, h5, rfl⟩ := tg hv; exact ih j u h5
  | agg hs ho hr ih =>
    refine .agg (by rw [dns_eq, List.length_map]; exact hs) (fun i v hv => ?_) (fun i v hv => ?_)
    · obtain ⟨u, h5, rfl⟩ := tg hv; exact ho i u h5
    · obtain ⟨u, h5, rfl⟩ := tg hv; exact ih i u h5
  | tup hs hr ih =>
    refine .tup (by rw [dns_eq, List.length_map]; exact hs) (fun i v hv => ?_)
    obtain ⟨u, h5, rfl⟩ := tg hv; exact ih i u h5
  | fn hs hr hs' hr' => exact .fn hs hr hs' hr'
  | ifc hr => exact .ifc hr
  | junk => exact .junk
  | void => exact .void
  | bool => exact .bool
  | int => exact .int
  | str => exact .str
  | nilp => exact .nilp
  | nilf => exact .nilf
  | nilm => exact .nilm
  | nili => exact .nili
  | ref hb hg hm hle => exact .ref hb hg hm hle
  | refn hb hg hm => exact .refn hb hg hm
  | ptr hb hm => exact .ptr hb hm
  | ep hb hg hm => exact .ep hb hg hm
  | mp hb hm => exact .mp hb hm
/-- A contract for what nil, deep inside the arguments, shows. -/
theorem PCall.dn {P : Program} {ge : GEnv} {f : Nat} {args args' : List V} {r : V} (hc : PCall P ge f args' r) (ha : V.dns args = args') : PCall P ge f args r := by
  subst ha
  refine ⟨hc.1, fun G w cargs h hg => hc.2 G w cargs ⟨by rw [dns_eq, List.length_map]; exact h.1, fun i v hv => ?_⟩ hg⟩
  rw [dns_eq, List.getElem?_map] at hv
  obtain ⟨u, h1, rfl⟩ := Option.map_eq_some_iff.1 hv
  exact (h.2 i u h1).dn
/-- A result, as it shows with nil deep inside. -/
theorem PCall.dnr {P : Program} {ge : GEnv} {f : Nat} {args : List V} {r r' : V} (hc : PCall P ge f args r) (hp : r.plain = true) (he : r.dn = r') (h1 : ∀ T xs, r' ≠ .own T xs) (h2 : ∀ vs, r' ≠ .tup vs) : PCall P ge f args r' := by
  refine ⟨hc.1, fun G w cargs ha hg => (hc.2 G w cargs ha hg).mono fun e w' ⟨c, G', k1, k2, k3⟩ => ⟨c, G', k1, k2, ?_⟩⟩
  have h4 := (k3.plain hp).dn
  rw [he] at h4
  cases r' <;> first | exact h4 | exact (h1 _ _ rfl).elim | exact (h2 _ rfl).elim
attribute [simp] AOL
end Go.AM
end

section
set_option linter.unusedVariables false
set_option linter.unusedSimpArgs false
namespace Go.Proofs.YtgmlimipejcpgaaDoor
open Go Go.AM Fx
theorem c_Max1 (c : Int) : PC 23 [.int .u8 c] (.bool true) := by
  refine PCall_body Tryd.func23 rfl (by decide) Tryd.ntmps23 (by simp) Tryd.results23 ?_
  repeat' (first
 |refine AW_seq_k fun K hK=>?_|refine Step.by1 ?_|refine SBlock_exit_ne (by decide) ?_|refine cz rfl ?_|refine Fork.by2 (fun h=>?_) fun h=>?_
 |(refine AW_region_AO ?_;simp)
 |(refine Split.by2 (fun h=>?_) (fun h=>?_)<;>(simp [h]))
 |(apply hK;clear hK K)|refine AWh (by assumption) ?_)
  exact retq1 (conv_eq rfl rfl)
def lowB (c : Int) : Bool := decide (c = 4 ∨ c = 5 ∨ c = 3)
theorem c_Lower1 (c : Int) : PC 67 [.int .u8 c] (.bool (lowB c)) := by
  refine PCall_body Tryd.func67 rfl (by decide) Tryd.ntmps67 (by simp) Tryd.results67 ?_
  repeat' (first
 |refine AW_seq_k fun K hK=>?_|refine Step.by1 ?_|refine SBlock_exit_ne (by decide) ?_|refine cz rfl ?_|refine Fork.by2 (fun h=>?_) fun h=>?_
 |(refine AW_region_AO ?_;simp)
 |(refine Split.by2 (fun h=>?_) (fun h=>?_)<;>(simp [h]))
 |(apply hK;clear hK K)|refine AWh (by assumption) ?_)
  all_goals first
    | exact retq1 (conv_eq (by simp [lowB, *]; done) rfl)
    | exact retq1 (conv_eq (by simp [lowB, *]; omega) rfl)
    | trace_state
theorem c_Max (n : NetD) (hn : n.ok) (gs : List (List PartD)) (hgl : gs.length ≤ 1048577) (hgs : ∀ g ∈ gs, okGoal g) : PC 7 [.agg n.cells, gsV gs] (numV (numbE n (fun _ => true) gs)) := by
  have hc := c_numbers n hn 23 (fun _ => true) c_Max1 gs hgl hgs
  simp only [gsV, vl, NetD.cells] at hc
  cases h : numbE n (fun _ => true) gs with
  | none =>
    rw [h] at hc
    simp only [numV] at hc ⊢
    refine PCall_body Tryd.func7 rfl (by decide) Tryd.ntmps7 (by simp) Tryd.results7 ?_
    repeat' (first
 |refine AW_seq_k fun K hK=>?_|refine Step.by1 ?_|refine SBlock_exit_ne (by decide) ?_|refine cz rfl ?_|refine Fork.by2 (fun h=>?_) fun h=>?_
 |((first|refine AW_region_AO ?_|refine AS_call1 (f:=22) rfl rfl (hc) rfl rfl rfl ?_);simp [gsV, vl, NetD.cells])
 |(refine Split.by2 (fun h=>?_) (fun h=>?_)<;>(simp [h, gsV, vl, NetD.cells]))
 |(apply hK;clear hK K)|refine AWh (by assumption) ?_)
    exact retq1 (conv_eq rfl rfl)
  | some o =>
    rw [h] at hc
    simp only [numV] at hc ⊢
    refine PCall_body Tryd.func7 rfl (by decide) Tryd.ntmps7 (by simp) Tryd.results7 ?_
    repeat' (first
 |refine AW_seq_k fun K hK=>?_|refine Step.by1 ?_|refine SBlock_exit_ne (by decide) ?_|refine cz rfl ?_|refine Fork.by2 (fun h=>?_) fun h=>?_
 |((first|refine AW_region_AO ?_|refine AS_callO (f:=22) rfl rfl (hc) rfl rfl ?_);simp [gsV, vl, NetD.cells])
 |(refine Split.by2 (fun h=>?_) (fun h=>?_)<;>(simp [h, gsV, vl, NetD.cells]))
 |(apply hK;clear hK K)|refine AWh (by assumption) ?_)
    exact retq1 (.inr (.inl (conv1_own rfl (by simp))))
theorem c_Lower (n : NetD) (hn : n.ok) (gs : List (List PartD)) (hgl : gs.length ≤ 1048577) (hgs : ∀ g ∈ gs, okGoal g) : PC 37 [.agg n.cells, gsV gs] (numV (numbE n lowB gs)) := by
  have hc := c_numbers n hn 67 lowB c_Lower1 gs hgl hgs
  simp only [gsV, vl, NetD.cells] at hc
  cases h : numbE n lowB gs with
  | none =>
    rw [h] at hc
    simp only [numV] at hc ⊢
    refine PCall_body Tryd.func37 rfl (by decide) Tryd.ntmps37 (by simp) Tryd.results37 ?_
    repeat' (first
 |refine AW_seq_k fun K hK=>?_|refine Step.by1 ?_|refine SBlock_exit_ne (by decide) ?_|refine cz rfl ?_|refine Fork.by2 (fun h=>?_) fun h=>?_
 |((first|refine AW_region_AO ?_|refine AS_call1 (f:=22) rfl rfl (hc) rfl rfl rfl ?_);simp [gsV, vl, NetD.cells])
 |(refine Split.by2 (fun h=>?_) (fun h=>?_)<;>(simp [h, gsV, vl, NetD.cells]))
 |(apply hK;clear hK K)|refine AWh (by assumption) ?_)
    exact retq1 (conv_eq rfl rfl)
  | some o =>
    rw [h] at hc
    simp only [numV] at hc ⊢
    refine PCall_body Tryd.func37 rfl (by decide) Tryd.ntmps37 (by simp) Tryd.results37 ?_
    repeat' (first
 |refine AW_seq_k fun K hK=>?_|refine Step.by1 ?_|refine SBlock_exit_ne (by decide) ?_|refine cz rfl ?_|refine Fork.by2 (fun h=>?_) fun h=>?_
 |((first|refine AW_region_AO ?_|refine AS_callO (f:=22) rfl rfl (hc) rfl rfl ?_);simp [gsV, vl, NetD.cells])
 |(refine Split.by2 (fun h=>?_) (fun h=>?_)<;>(simp [h, gsV, vl, NetD.cells]))
 |(apply hK;clear hK K)|refine AWh (by assumption) ?_)
    exact retq1 (.inr (.inl (conv1_own rfl (by simp))))
def smallN : NetD := { clocks := [⟨#[120]⟩], vars := [], chans := [], autos := [{ name := ⟨#[65]⟩, locs := [{ name := ⟨#[97]⟩, kind := 0, inv := [{ clock := 1, other := 0, cmp := 2, n := 5 }] }, { name := ⟨#[98]⟩, kind := 0, inv := [] }], edges := [{ frm := 0, to := 1, guards := [{ clock := 1, other := 0, cmp := 4, n := 3 }], test := [], chan := 0, send := false, sets := [{ clock := 1, n := 0, var := 0, expr := [] }] }] }] }
def smallG : List (List PartD) := [[{ locs := [], guards := [{ clock := 1, other := 0, cmp := 5, n := 7 }], test := [] }]]
def bareN : NetD := { clocks := [], vars := [], chans := [], autos := [] }
theorem small_ok : smallN.ok := by
  simp [smallN, NetD.ok, AutoD.ok, LocD.ok, EdgeD.ok, GuardD.ok, SetD.ok, I64]
  decide
theorem bare_ok : bareN.ok := by simp [bareN, NetD.ok]
theorem smallG_ok : ∀ g ∈ smallG, okGoal g := by
  simp [smallG, okGoal, PartD.ok, GuardD.ok, I64]
set_option maxRecDepth 20000 in
set_option maxHeartbeats 4000000 in
theorem c_small : PC 36 [] (.agg smallN.cells) := by
  have h : PC 36 [] (.agg [.vec [[.str ⟨#[120]⟩]] 1, .nils, .nils, .vec [[.str ⟨#[65]⟩, .vec [[.str ⟨#[97]⟩, .int .u8 0, .vec [[.int .i64 1, .int .i64 0, .int .u8 2, .int .i64 5]] 1], [.str ⟨#[98]⟩, .int .u8 0, .nils]] 2, .vec [[.int .i64 0, .int .i64 1, .vec [[.int .i64 1, .int .i64 0, .int .u8 4, .int .i64 3]] 1, .nils, .int .i64 0, .bool false, .vec [[.int .i64 1, .int .i64 0, .int .i64 0, .nils]] 1]] 1]] 1]) := by
    refine PCall_body Tryd.func36 rfl (by decide) Tryd.ntmps36 (by simp) Tryd.results36 ?_
    repeat' (first
 |(refine AW_region_AOL (id := 1) ?_;simp)
 |refine AW_seq_k fun K hK=>?_|refine Step.by1 ?_|refine SBlock_exit_ne (by decide) ?_|refine cz rfl ?_|refine Fork.by2 (fun h=>?_) fun h=>?_
 |(refine AW_region_AO ?_;simp)
 |(refine Split.by2 (fun h=>?_) (fun h=>?_)<;>(simp [h]))
 |(apply hK;clear hK K)|refine AWh (by assumption) ?_)
    exact retqc rfl (by simp) (conv_eq (by simp) (by simp))
  exact h.dnr rfl rfl (fun _ _ h => by cases h) (fun _ h => by cases h)
end Go.Proofs.YtgmlimipejcpgaaDoor
end

section
set_option linter.unusedVariables false
set_option linter.unusedSimpArgs false
namespace Go.AM
def refsV : Nat → List V → List V
  | _, [] => []
  | n, .own _ xs :: r => .ref n 0 0 xs.length :: refsV (n + 1) r
  | n, v :: r => v :: refsV n r
def rowsB : List V → List B
  | [] => []
  | .own T xs :: r => .row T 0 0 true xs :: rowsB r
  | _ :: r => rowsB r
attribute [simp] refsV rowsB
end Go.AM
end

section
set_option linter.unusedVariables false
set_option linter.unusedSimpArgs false
namespace Go.AM
end Go.AM
end

section
set_option linter.unusedVariables false
set_option linter.unusedSimpArgs false
namespace Go.Proofs.YtgmlimipejcpgaaDoor
open Go Go.AM Fx
def isV (l : List Int) : V := .vec (l.map fun k => [V.int .i64 k]) l.length
set_option maxHeartbeats 4000000 in
theorem c_SameInts (a : List Int) (ha : a.length ≤ 1099511627776) : PC 11 [isV a, isV a] (.bool true) := by
  refine PCall_body Tryd.func11 rfl (by decide) Tryd.ntmps11 (by simp) Tryd.results11 ?_
  repeat' (first
 |refine AW_seq_k fun K hK=>?_|refine Step.by1 ?_|refine SBlock_exit_ne (by decide) ?_|refine cz rfl ?_|refine Fork.by2 (fun h=>?_) fun h=>?_
 |(refine AW_region_AO ?_;simp [isV])
 |(refine Split.by2 (fun h=>?_) (fun h=>?_)<;>(simp [h, isV]))
 |(apply hK;clear hK K)|refine AWh (by assumption) ?_)
  refine AW_loopL [0, 1] (fun i : Nat => [(5, .int .i64 i)]) (fun _ => []) (fun i => i ≤ a.length) (fun i => a.length - i) 0 (Nat.zero_le _) (by apply Weak.mk' <;> simp [isV]) (fun _ _ => rfl) ?_
  intro i hi
  by_cases hlt : i < a.length
  · have hlt' : (i : Int) < a.length := by omega
    have w1 : IntKind.i64.wrap ((i : Int) + 1) = i + 1 := wrap_i64 (by omega) (by omega)
    repeat' (first
 |refine AW_seq_k fun K hK=>?_|refine Step.by1 ?_|refine SBlock_exit_ne (by decide) ?_|refine cz rfl ?_|refine Fork.by2 (fun h=>?_) fun h=>?_
 |((first|refine AW_region_AO ?_|refine AW_region_APx (id:=6) 9 mixed (by decide) ?_);simp [isV, hlt, hlt', w1])
 |(refine Split.by2 (fun h=>?_) (fun h=>?_)<;>(simp [h, isV, hlt, hlt', w1]))
 |(apply hK;clear hK K)|refine AWh (by assumption) ?_)
    refine ⟨i + 1, by omega, by omega, ?_⟩
    apply Weak.mk' <;> simp [isV]
  · have hie : i = a.length := by omega
    subst hie
    repeat' (first
 |refine AW_seq_k fun K hK=>?_|refine Step.by1 ?_|refine SBlock_exit_ne (by decide) ?_|refine cz rfl ?_|refine Fork.by2 (fun h=>?_) fun h=>?_
 |(refine AW_region_AO ?_;simp [isV])
 |(refine Split.by2 (fun h=>?_) (fun h=>?_)<;>(simp [h, isV]))
 |(apply hK;clear hK K)|refine AWh (by assumption) ?_)
    exact retq1 (conv_eq rfl rfl)
theorem numb_len {n : NetD} {so : Int → Bool} {gs : List (List PartD)} {o : List Int} (h : numbE n so gs = some o) : o.length = n.clocks.length := by
  have key : ∀ (gs : List (List PartD)) (c o : List Int), numG n so gs c = some o → o.length = c.length := by
    intro gs
    induction gs with
    | nil => intro c o h; rw [numG_nil] at h; cases h; rfl
    | cons g r ih =>
      intro c o h
      rw [numG_cons] at h
      split at h
      · cases h
      · rw [ih _ _ h, raisePs_len]
  unfold numbE at h
  split at h
  · cases h
  · rw [key _ _ _ h, raiseL_len]; simp
end Go.Proofs.YtgmlimipejcpgaaDoor
end

section
set_option linter.unusedVariables false
set_option linter.unusedSimpArgs false
namespace Go.Proofs.YtgmlimipejcpgaaDoor
open Go Go.AM Fx
end Go.Proofs.YtgmlimipejcpgaaDoor
end

section
set_option linter.unusedVariables false
set_option linter.unusedSimpArgs false
namespace Go.Proofs.YtgmlimipejcpgaaDoor
open Go Go.AM Fx
end Go.Proofs.YtgmlimipejcpgaaDoor
end

section
set_option linter.unusedVariables false
set_option linter.unusedSimpArgs false
namespace Go.Proofs.YtgmlimipejcpgaaDoor
open Go Go.AM Fx
end Go.Proofs.YtgmlimipejcpgaaDoor
end

section
set_option linter.unusedVariables false
set_option linter.unusedSimpArgs false
namespace Go.Proofs.YtgmlimipejcpgaaDoor
open Go Go.AM Fx
end Go.Proofs.YtgmlimipejcpgaaDoor
end

section
set_option linter.unusedVariables false
set_option linter.unusedSimpArgs false
namespace Go.Proofs.YtgmlimipejcpgaaDoor
open Go Go.AM Fx
end Go.Proofs.YtgmlimipejcpgaaDoor
end

section
set_option linter.unusedVariables false
set_option linter.unusedSimpArgs false
namespace Go.Proofs.YtgmlimipejcpgaaDoor
open Go Go.AM Fx
end Go.Proofs.YtgmlimipejcpgaaDoor
end

section
set_option linter.unusedVariables false
set_option linter.unusedSimpArgs false
namespace Go.Proofs.YtgmlimipejcpgaaDoor
open Go Go.AM Fx
end Go.Proofs.YtgmlimipejcpgaaDoor
end

section
set_option linter.unusedVariables false
set_option linter.unusedSimpArgs false
namespace Go.Proofs.YtgmlimipejcpgaaDoor
open Go Go.AM Fx
end Go.Proofs.YtgmlimipejcpgaaDoor
end

section
set_option linter.unusedVariables false
set_option linter.unusedSimpArgs false
namespace Go.Proofs.YtgmlimipejcpgaaDoor
open Go Go.AM Fx
end Go.Proofs.YtgmlimipejcpgaaDoor
end

section
set_option linter.unusedVariables false
set_option linter.unusedSimpArgs false
namespace Go.Proofs.YtgmlimipejcpgaaDoor
open Go Go.AM Fx
def namedB (c : Int) (l : List GuardD) : Bool := anyL (fun g => decide (g.clock = c)) l
def setsB (c : Int) (l : List SetD) : Bool := anyL (fun s => decide (s.clock = c)) l
/-- A clock that guards name at a location, on an edge from there, or in a goal. -/
def usedPs (c : Int) (X : Bool) : List PartD → Bool
  | [] => X
  | p :: l => namedB c p.guards || usedPs c X l
def usedGs (c : Int) : List (List PartD) → Bool
  | [] => false
  | g :: l => usedPs c (usedGs c l) g
def usedEs (i : Nat) (c : Int) (X : Bool) : List EdgeD → Bool
  | [] => X
  | e :: l => (decide (e.frm = i) && namedB c e.guards) || usedEs i c X l
def usedB (a : AutoD) (gs : List (List PartD)) (i : Nat) (c : Int) : Bool := namedB c (a.locs.getD i default).inv || usedEs i c (usedGs c gs) a.edges
end Go.Proofs.YtgmlimipejcpgaaDoor
end

section
set_option linter.unusedVariables false
set_option linter.unusedSimpArgs false
namespace Go.Proofs.YtgmlimipejcpgaaDoor
open Go Go.AM Fx
inductive Act (a : AutoD) (gs : List (List PartD)) (c : Int) : Nat → Prop
  | use {i : Nat} (hi : i < a.locs.length) (h : usedB a gs i c = true) : Act a gs c i
  | edge {e : EdgeD} (he : e ∈ a.edges) (hto : Act a gs c e.to.toNat) (hs : setsB c e.sets = false) : Act a gs c e.frm.toNat
end Go.Proofs.YtgmlimipejcpgaaDoor
end

section
set_option linter.unusedVariables false
set_option linter.unusedSimpArgs false
namespace Go.Proofs.YtgmlimipejcpgaaDoor
open Go Go.AM Fx
end Go.Proofs.YtgmlimipejcpgaaDoor
end

section
set_option linter.unusedVariables false
set_option linter.unusedSimpArgs false
namespace Go.Proofs.YtgmlimipejcpgaaDoor
open Go Go.AM Fx
def badLoc (n : NetD) (au lo : Int) : Prop := au < 0 ∨ (n.autos.length : Int) ≤ au ∨ lo < 0 ∨ ((n.autos.getD au.toNat default).locs.length : Int) ≤ lo
instance {n : NetD} {au lo : Int} : Decidable (badLoc n au lo) := by unfold badLoc; infer_instance
end Go.Proofs.YtgmlimipejcpgaaDoor
end

section
set_option linter.unusedVariables false
set_option linter.unusedSimpArgs false
namespace Go.Proofs.YtgmlimipejcpgaaDoor
open Go Go.AM Fx
end Go.Proofs.YtgmlimipejcpgaaDoor
end

section
set_option linter.unusedVariables false
set_option linter.unusedSimpArgs false
namespace Go.AM
open Go.MapKept
end Go.AM
end

section
set_option linter.unusedVariables false
set_option linter.unusedSimpArgs false
namespace Go.AM
end Go.AM
end

section
set_option linter.unusedVariables false
set_option linter.unusedSimpArgs false
namespace Go.Proofs.YtgmlimipejcpgaaDoor
open Go Go.AM Fx
/-- Marks: rows of rows. -/
abbrev Marks := List (List Bool)
end Go.Proofs.YtgmlimipejcpgaaDoor
end

section
set_option linter.unusedVariables false
set_option linter.unusedSimpArgs false
namespace Go.Proofs.YtgmlimipejcpgaaDoor
open Go Go.AM Fx
end Go.Proofs.YtgmlimipejcpgaaDoor
end

section
set_option linter.unusedVariables false
set_option linter.unusedSimpArgs false
namespace Go.Proofs.YtgmlimipejcpgaaDoor
open Go Go.AM Fx
end Go.Proofs.YtgmlimipejcpgaaDoor
end

section
set_option linter.unusedVariables false
set_option linter.unusedSimpArgs false
namespace Go.Proofs.YtgmlimipejcpgaaDoor
open Go Go.AM Fx
end Go.Proofs.YtgmlimipejcpgaaDoor
end

section
set_option linter.unusedVariables false
set_option linter.unusedSimpArgs false
namespace Go.Proofs.YtgmlimipejcpgaaDoor
open Go Go.AM Fx
end Go.Proofs.YtgmlimipejcpgaaDoor
end

section
set_option linter.unusedVariables false
set_option linter.unusedSimpArgs false
namespace Go.Proofs.YtgmlimipejcpgaaDoor
open Go Go.AM Fx
end Go.Proofs.YtgmlimipejcpgaaDoor
end

section
set_option linter.unusedVariables false
set_option linter.unusedSimpArgs false
namespace Go.Proofs.YtgmlimipejcpgaaDoor
open Go Go.AM Fx
end Go.Proofs.YtgmlimipejcpgaaDoor
end

section
set_option linter.unusedVariables false
set_option linter.unusedSimpArgs false
namespace Go.Proofs.YtgmlimipejcpgaaDoor
open Go Go.AM Fx
end Go.Proofs.YtgmlimipejcpgaaDoor
end

section
set_option linter.unusedVariables false
set_option linter.unusedSimpArgs false
namespace Go.Proofs.YtgmlimipejcpgaaDoor
open Go Go.AM Fx
end Go.Proofs.YtgmlimipejcpgaaDoor
end

section
set_option linter.unusedVariables false
set_option linter.unusedSimpArgs false
namespace Go.AM
end Go.AM
end

section
set_option linter.unusedVariables false
set_option linter.unusedSimpArgs false
namespace Go.Proofs.YtgmlimipejcpgaaDoor
open Go Go.AM Fx
end Go.Proofs.YtgmlimipejcpgaaDoor
end

section
set_option linter.unusedVariables false
set_option linter.unusedSimpArgs false
namespace Go.Proofs.YtgmlimipejcpgaaDoor
open Go Go.AM Fx
theorem num_small : numbE smallN (fun _ => true) [] = some [5] := by kernel_rfl
theorem num_smallG : numbE smallN lowB smallG = some [7] := by kernel_rfl
theorem net_small : netE smallN = 0 := by kernel_rfl
theorem net_bare : netE bareN = 2 := by kernel_rfl
set_option maxRecDepth 20000 in
set_option maxHeartbeats 4000000 in
theorem c_live12 : PC 9 [] (.bool true) := by
  have h0 := c_small
  have h1 := c_Max smallN small_ok [] (by simp) (by simp)
  rw [num_small] at h1
  have h1' := PCall.denil (args := [.agg smallN.cells, .nils]) h1 rfl
  have h2 := c_Lower smallN small_ok smallG (by simp [smallG]) smallG_ok
  rw [num_smallG] at h2
  have h2' := PCall.dn (args := [.agg smallN.cells, .vec [[.vec [[.nils, .vec [[.int .i64 1, .int .i64 0, .int .u8 5, .int .i64 7]] 1, .nils]] 1]] 1]) h2 rfl
  have h3 := c_Net smallN small_ok
  rw [net_small] at h3
  have h4 := c_Net bareN bare_ok
  rw [net_bare] at h4
  have h4' := PCall.dn (args := [.agg [.nils, .nils, .nils, .nils]]) h4 rfl
  clear h1 h2 h4
  have hcs : smallN.cells = [.vec [[.str ⟨#[120]⟩]] 1, .vec [] 0, .vec [] 0, .vec [[.str ⟨#[65]⟩, .vec [[.str ⟨#[97]⟩, .int .u8 0, .vec [[.int .i64 1, .int .i64 0, .int .u8 2, .int .i64 5]] 1], [.str ⟨#[98]⟩, .int .u8 0, .vec [] 0]] 2, .vec [[.int .i64 0, .int .i64 1, .vec [[.int .i64 1, .int .i64 0, .int .u8 4, .int .i64 3]] 1, .vec [] 0, .int .i64 0, .bool false, .vec [[.int .i64 1, .int .i64 0, .int .i64 0, .vec [] 0]] 1]] 1]] 1] := rfl
  simp only [numV, List.map_cons, List.map_nil] at h1' h2'
  rw [hcs] at h0 h1' h2' h3
  refine PCall_body Tryd.func9 rfl (by decide) Tryd.ntmps9 (by simp) Tryd.results9 ?_
  repeat' (first
 |(refine AW_region_AOL (id := 3) ?_;simp)
 |refine AW_seq_k fun K hK=>?_|refine Step.by1 ?_|refine SBlock_exit_ne (by decide) ?_|refine cz rfl ?_|refine Fork.by2 (fun h=>?_) fun h=>?_
 |((first|refine AW_region_AO ?_|refine AS_call1 (f:=36) rfl rfl (h0) rfl rfl rfl ?_|refine AS_callO (f:=7) rfl rfl (h1') rfl rfl ?_|refine AS_callO (f:=37) rfl rfl (h2') rfl rfl ?_|refine AS_call1 (f:=10) rfl rfl (h3) rfl rfl rfl ?_|refine AS_call1 (f:=10) rfl rfl (h4') rfl rfl rfl ?_);simp)
 |(refine Split.by2 (fun h=>?_) (fun h=>?_)<;>(simp [h]))
 |(apply hK;clear hK K)|refine AWh (by assumption) ?_)
  exact retq1 (conv_eq rfl rfl)
end Go.Proofs.YtgmlimipejcpgaaDoor
end

section
set_option linter.unusedVariables false
set_option linter.unusedSimpArgs false
namespace Go.Proofs.YtgmlimipejcpgaaDoor
open Go Go.AM Fx
end Go.Proofs.YtgmlimipejcpgaaDoor
end

section

end
