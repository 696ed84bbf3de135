/-
  YtgmlimipejcpgaaDoorPart12: steps of the proof of a law of the program: what these texts prove holds under the hypotheses that their theorems name, and no others.
-/
import Derived.Test.YtgmlimipejcpgaaDoorPart11
import Derived.Test.YtgmlimipejcpgaaDoorPart07
import Derived.Test.YtgmlimipejcpgaaDoorPart10
import Derived.Test.YtgmlimipejcpgaaDoorPart04
import Derived.Test.YtgmlimipejcpgaaDoorPart06
section
set_option linter.unusedVariables false
set_option linter.unusedSimpArgs false
namespace Go.Proofs.YtgmlimipejcpgaaDoor
open Go Go.AM Fx
theorem firstE_zero {x : Int} {l : List Int} (h : firstE (x :: l) = 0) : x = 0 ∧ firstE l = 0 := by
  rw [firstE_cons] at h
  by_cases hx : x = 0
  · rw [if_neg (by simp [hx])] at h; exact ⟨hx, h⟩
  · rw [if_pos hx] at h; exact absurd h hx
theorem netE_whole {n : NetD} (h : netE n = 0) : wholeE n = 0 := by
  unfold netE whereE at h
  by_cases hw : wholeE n = 0
  · exact hw
  · rw [if_pos hw] at h; exact absurd h hw
theorem clkE_zero {n : NetD} {l : List GuardD} (h : clkE n l = 0) : ∀ g ∈ l, clkG n g = false := by
  unfold clkE at h
  intro g hg
  cases hc : clkG n g
  · rfl
  · rw [if_pos (List.any_eq_true.2 ⟨g, hg, hc⟩)] at h; cases h
theorem okG_of {n : NetD} {l : List GuardD} (h : clkE n l = 0) : ∀ g ∈ l, okG n.clocks.length g := fun g hg => by
  have := clkE_zero h g hg
  unfold clkG isClk at this
  simp only [Bool.or_eq_false_iff, Bool.not_eq_false', decide_eq_true_eq] at this
  exact this.1
theorem whole_guards {n : NetD} (h : wholeE n = 0) : ∀ g ∈ guardsL n, okG n.clocks.length g := by
  unfold wholeE at h
  have h1 := (firstE_zero (firstE_zero (firstE_zero (firstE_zero (firstE_zero (firstE_zero (firstE_zero h).2).2).2).2).2).2).1
  unfold clocksE at h1
  by_cases hc : clkE n (guardsL n) = 0
  · exact okG_of hc
  · rw [if_pos hc] at h1; exact absurd h1 hc
theorem goF_zero {f : PartD → Int} : ∀ {g : List PartD}, goF f g = 0 → ∀ p ∈ g, f p = 0
  | [], _, p, hp => by cases hp
  | q :: r, h, p, hp => by
    rw [goF_cons] at h
    by_cases hq : f q = 0
    · rw [if_neg (by simp [hq])] at h
      rcases List.mem_cons.1 hp with rfl | hp
      · exact hq
      · exact goF_zero h p hp
    · rw [if_pos hq] at h; exact absurd h hq
theorem goal_guards {n : NetD} {g : List PartD} (h : goalE n g = 0) : ∀ p ∈ g, ∀ x ∈ p.guards, okG n.clocks.length x := by
  unfold goalE at h
  have h1 := (firstE_zero (firstE_zero h).2).1
  unfold wholeGoalE at h1
  have h2 := (firstE_zero (firstE_zero (firstE_zero (firstE_zero (firstE_zero h1).2).2).2).2).1
  exact fun p hp => okG_of (goF_zero h2 p hp)
def raisePs (so : Int → Bool) (l : List PartD) (o : List Int) : List Int := raiseL so (l.flatMap (·.guards)) o
theorem raisePs_nil {so : Int → Bool} {o : List Int} : raisePs so [] o = o := rfl
theorem raisePs_cons {so : Int → Bool} {x : PartD} {l : List PartD} {o : List Int} : raisePs so (x :: l) o = raisePs so l (raiseL so x.guards o) := by simp only [raisePs, List.flatMap_cons, raiseL_append]
theorem raisePs_len {so : Int → Bool} {l : List PartD} {o : List Int} : (raisePs so l o).length = o.length := raiseL_len
def numG (n : NetD) (so : Int → Bool) : List (List PartD) → List Int → Option (List Int)
  | [], o => some o
  | g :: r, o => if goalE n g ≠ 0 then none else numG n so r (raisePs so g o)
theorem numG_nil {n : NetD} {so : Int → Bool} {o : List Int} : numG n so [] o = some o := rfl
theorem numG_cons {n : NetD} {so : Int → Bool} {g : List PartD} {r : List (List PartD)} {o : List Int} : numG n so (g :: r) o = if goalE n g ≠ 0 then none else numG n so r (raisePs so g o) := rfl
def numbE (n : NetD) (so : Int → Bool) (gs : List (List PartD)) : Option (List Int) :=
  if netE n ≠ 0 then none else numG n so gs (raiseL so (guardsL n) (List.replicate n.clocks.length (-1)))
/-- Numbers, or nil. -/
def numV : Option (List Int) → V
  | none => .nils
  | some o => .own 3 (o.map fun k => [V.int .i64 k])
def gsV (gs : List (List PartD)) : V := .vec (gs.map fun g => [vl PartD.cells g]) gs.length
theorem set_next {c : List Int} {i : Nat} (h : ∀ j, j < i → c[j]? = some (-1)) (hi : i < c.length) : ∀ j, j < i + 1 → (c.set i (-1))[j]? = some (-1) := fun j hj => by
  rw [List.getElem?_set]
  by_cases e : i = j
  · subst e; simp [hi]
  · rw [if_neg e]; exact h j (by omega)
theorem all_set {c : List Int} {N : Nat} (hN : c.length = N) (h : ∀ j, j < N → c[j]? = some (-1)) : c = List.replicate N (-1) := by
  apply List.ext_getElem?
  intro i
  by_cases hi : i < N
  · rw [h i hi]; simp [hi]
  · rw [List.getElem?_eq_none (by omega), List.getElem?_eq_none (by simp; omega)]
set_option maxRecDepth 20000 in
set_option maxHeartbeats 16000000 in
theorem c_numbers (n : NetD) (hn : n.ok) (fso : Nat) (so : Int → Bool) (hso : ∀ c, PC fso [.int .u8 c] (.bool (so c))) (gs : List (List PartD)) (hgl : gs.length ≤ 1048577) (hgs : ∀ g ∈ gs, okGoal g) :
    PC 22 [.agg n.cells, gsV gs, .fn (.func fso) [] []] (numV (numbE n so gs)) := by
  have hN := c_Net n hn
  have hcl : n.clocks.length ≤ 1048576 := hn.1.1
  obtain ⟨r, hr⟩ : ∃ r, numbE n so gs = r := ⟨_, rfl⟩
  rw [hr]
  unfold numbE at hr
  simp only [vl, NetD.cells] at hN
  refine PCall_body Tryd.func22 rfl (by decide) Tryd.ntmps22 (by simp) Tryd.results22 ?_
  by_cases hz : netE n = 0
  · rw [if_neg (by simp [hz])] at hr
    rw [hz] at hN
    have hgd := whole_guards (netE_whole hz)
    have b1 : (n.clocks.length : Int) * 8 ≤ 281474976710656 := by omega
    repeat' (first
 |refine AW_seq_k fun K hK=>?_|refine Step.by1 ?_|refine SBlock_exit_ne (by decide) ?_|refine cz rfl ?_|refine Fork.by2 (fun h=>?_) fun h=>?_
 |((first|refine AW_region_AO ?_|refine AS_call1 (f:=10) rfl rfl (hN) rfl rfl rfl ?_);simp [gsV, vl, NetD.cells, b1])
 |(refine Split.by2 (fun h=>?_) (fun h=>?_)<;>(simp [h, gsV, vl, NetD.cells, b1]))
 |(apply hK;clear hK K)|refine AWh (by assumption) ?_)
    refine AW_loopL [1, 3, 5, 7, 22] (fun s : Nat × List Int => [(23, .int .i64 s.1)]) (fun s => [.var n.cells, .var [.fn (.func fso) [] []], .row 3 0 0 true (s.2.map fun k => [V.int .i64 k]), .var [.ref 2 0 0 n.clocks.length]]) (fun s => s.1 ≤ n.clocks.length ∧ s.2.length = n.clocks.length ∧ ∀ j, j < s.1 → s.2[j]? = some (-1)) (fun s => n.clocks.length - s.1) (0, List.replicate n.clocks.length 0) ⟨Nat.zero_le _, by simp, fun j hj => by omega⟩ (by apply Weak.mk' <;> simp [vl, NetD.cells]) (fun _ _ => rfl) ?_
    rintro ⟨i, c⟩ ⟨hi, hlen, hset⟩
    simp only at hi hlen hset
    by_cases hlt : i < n.clocks.length
    · have hlt' : (i : Int) < n.clocks.length := by omega
      have hic : i < c.length := by omega
      have w1 : IntKind.i64.wrap ((i : Int) + 1) = i + 1 := wrap_i64 (by omega) (by omega)
      repeat' (first
 |refine AW_seq_k fun K hK=>?_|refine Step.by1 ?_|refine SBlock_exit_ne (by decide) ?_|refine cz rfl ?_|refine Fork.by2 (fun h=>?_) fun h=>?_
 |(refine AW_region_AO ?_;simp [gsV, vl, NetD.cells, hlt, hlt', hic, hlen, w1])
 |(refine Split.by2 (fun h=>?_) (fun h=>?_)<;>(simp [h, gsV, vl, NetD.cells, hlt, hlt', hic, hlen, w1]))
 |(apply hK;clear hK K)|refine AWh (by assumption) ?_)
      refine ⟨i + 1, c.set i (-1), ⟨by omega, by simp [hlen], set_next hset hic⟩, by omega, ?_⟩
      apply Weak.mk' <;> simp [vl, NetD.cells]
    · have hlt' : ¬ (i : Int) < n.clocks.length := by omega
      have hc := all_set hlen (fun j hj => hset j (by omega))
      rw [← hc] at hr
      clear hset
      have hS := c_searchG n hn fso so hso c (by omega) (by rw [hlen]; exact hgd)
      have hl2 : (raiseL so (guardsL n) c).length = n.clocks.length := by rw [raiseL_len, hlen]
      generalize raiseL so (guardsL n) c = o at *
      clear hc
      repeat' (first
 |refine AW_seq_k fun K hK=>?_|refine Step.by1 ?_|refine SBlock_exit_ne (by decide) ?_|refine cz rfl ?_|refine Fork.by2 (fun h=>?_) fun h=>?_
 |(refine AW_region_AO ?_;simp [gsV, vl, NetD.cells, hlt, hlt'])
 |(refine Split.by2 (fun h=>?_) (fun h=>?_)<;>(simp [h, gsV, vl, NetD.cells, hlt, hlt']))
 |(refine AS_callG (f := 63) rfl rfl (hS.imp (by simp [vl, NetD.cells]) (by simp [H5, NetD.cells, vl, hlen])) rfl (fun v h' hq => ?_); obtain ⟨rfl, rfl⟩ := hq; simp [vl, H5, NetD.cells])
 |(apply hK;clear hK K)|refine AWh (by assumption) ?_)
      refine AW_range (r := r) gs 37 [3, 7, 9, 35, 36] (fun c : List Int => []) (fun c => H5 n fso c) (fun i c => c.length = n.clocks.length) (numG n so) o
        hr hl2 (by apply Weak.mk' <;> simp [vl, NetD.cells, H5]) (fun _ _ _ => by simp [H5_len, H5]) ?_ ?_
      · intro k q g _ hkt hg hJ hF
        rw [numG_cons] at hF
        have hgo := hgs g (hg ▸ List.getElem_mem hkt)
        have hc := c_Goal n hn g hgo
        obtain ⟨hg1, hg2⟩ := hgo
        have hgg := goal_guards (n := n) (g := g)
        have hkt' : (k : Int) < gs.length := by omega
        have w1 : IntKind.i64.wrap ((k : Int) + 1) = k + 1 := wrap_i64 (by omega) (by omega)
        simp only [vl, NetD.cells] at hc
        generalize goalE n g = ge at *
        by_cases hge : ge = 0
        · rw [if_neg (by simp [hge])] at hF
          rw [hge] at hc
          have hgg := hgg hge
          repeat' (first
 |refine AW_seq_k fun K hK=>?_|refine Step.by1 ?_|refine SBlock_exit_ne (by decide) ?_|refine cz rfl ?_|refine Fork.by2 (fun h=>?_) fun h=>?_
 |((first|refine AW_region_AO ?_|refine AS_call1 (f:=66) rfl rfl (hc) rfl rfl rfl ?_);simp [gsV, vl, NetD.cells, H5, hkt, hkt', hg])
 |(refine Split.by2 (fun h=>?_) (fun h=>?_)<;>(simp [h, gsV, vl, NetD.cells, H5, hkt, hkt', hg]))
 |(apply hK;clear hK K)|refine AWh (by assumption) ?_)
          obtain ⟨o2, ho2⟩ : ∃ o2, raisePs so g q = o2 := ⟨_, rfl⟩
          have hl3 : o2.length = n.clocks.length := by rw [← ho2, raisePs_len, hJ]
          rw [ho2] at hF
          refine AW_range (r := o2) g 47 [3, 7, 9, 35, 36, 37, 45, 46] (fun c : List Int => []) (fun c => H5 n fso c) (fun i c => c.length = n.clocks.length) (raisePs so) q
            ho2 hJ (by apply Weak.mk' <;> simp [vl, NetD.cells, H5]) (fun _ _ _ => by simp [H5_len, H5]) ?_ ?_
          · intro m q2 p _ hmt hp hJ2 hG
            rw [raisePs_cons] at hG
            have hmp : p ∈ g := hp ▸ List.getElem_mem hmt
            have hR := c_raise n fso so hso p.guards q2 [.var p.cells] (by omega) (hg2 p hmp).2.1.1 (fun x hx => by rw [hJ2]; exact hgg p hmp x hx) (by simp [PartD.cells, vl])
            have hl4 : (raiseL so p.guards q2).length = n.clocks.length := by rw [raiseL_len, hJ2]
            have hmt' : (m : Int) < g.length := by omega
            have w2 : IntKind.i64.wrap ((m : Int) + 1) = m + 1 := wrap_i64 (by omega) (by omega)
            generalize raiseL so p.guards q2 = q' at *
            repeat' (first
 |refine AW_seq_k fun K hK=>?_|refine Step.by1 ?_|refine SBlock_exit_ne (by decide) ?_|refine cz rfl ?_|refine Fork.by2 (fun h=>?_) fun h=>?_
 |(refine AW_region_AO ?_;simp [gsV, vl, NetD.cells, PartD.cells, H5, hmt, hmt', hp, w2])
 |(refine Split.by2 (fun h=>?_) (fun h=>?_)<;>(simp [h, gsV, vl, NetD.cells, PartD.cells, H5, hmt, hmt', hp, w2]))
 |(refine AS_callG (f := 62) rfl rfl (hR.imp (by simp [vl]) (by simp [H5, NetD.cells, PartD.cells, vl])) rfl (fun v h' hq => ?_); obtain ⟨rfl, rfl⟩ := hq; simp [vl, H5, NetD.cells, PartD.cells])
 |(apply hK;clear hK K)|refine AWh (by assumption) ?_)
            exact ⟨q', hG, hl4, by apply Weak.mk' <;> simp [vl, NetD.cells, H5]⟩
          · intro q2 hJ2 hG
            rw [raisePs_nil] at hG
            subst hG
            repeat' (first
 |refine AW_seq_k fun K hK=>?_|refine Step.by1 ?_|refine SBlock_exit_ne (by decide) ?_|refine cz rfl ?_|refine Fork.by2 (fun h=>?_) fun h=>?_
 |(refine AW_region_AO ?_;simp [gsV, vl, NetD.cells, H5, w1])
 |(refine Split.by2 (fun h=>?_) (fun h=>?_)<;>(simp [h, gsV, vl, NetD.cells, H5, w1]))
 |(apply hK;clear hK K)|refine AWh (by assumption) ?_)
            exact ⟨q2, hF, hJ2, by apply Weak.mk' <;> simp [vl, NetD.cells, H5]⟩
        · rw [if_pos hge] at hF
          subst hF
          repeat' (first
 |refine AW_seq_k fun K hK=>?_|refine Step.by1 ?_|refine SBlock_exit_ne (by decide) ?_|refine cz rfl ?_|refine Fork.by2 (fun h=>?_) fun h=>?_
 |((first|refine AW_region_AO ?_|refine AS_call1 (f:=66) rfl rfl (hc) rfl rfl rfl ?_);simp [gsV, vl, NetD.cells, H5, hkt, hkt', hg, hge])
 |(refine Split.by2 (fun h=>?_) (fun h=>?_)<;>(simp [h, gsV, vl, NetD.cells, H5, hkt, hkt', hg, hge]))
 |(apply hK;clear hK K)|refine AWh (by assumption) ?_)
          exact retq1 (conv_eq rfl rfl)
      · intro q hJ hF
        rw [numG_nil] at hF
        subst hF
        repeat' (first
 |refine AW_seq_k fun K hK=>?_|refine Step.by1 ?_|refine SBlock_exit_ne (by decide) ?_|refine cz rfl ?_|refine Fork.by2 (fun h=>?_) fun h=>?_
 |(refine AW_region_AO ?_;simp [gsV, vl, NetD.cells, H5])
 |(refine Split.by2 (fun h=>?_) (fun h=>?_)<;>(simp [h, gsV, vl, NetD.cells, H5]))
 |(apply hK;clear hK K)|refine AWh (by assumption) ?_)
        exact retq1 (.inr (.inl (conv1_own rfl (by simp))))
  · rw [if_pos hz] at hr
    subst hr
    repeat' (first
 |refine AW_seq_k fun K hK=>?_|refine Step.by1 ?_|refine SBlock_exit_ne (by decide) ?_|refine cz rfl ?_|refine Fork.by2 (fun h=>?_) fun h=>?_
 |((first|refine AW_region_AO ?_|refine AS_call1 (f:=10) rfl rfl (hN) rfl rfl rfl ?_);simp [gsV, vl, NetD.cells, hz])
 |(refine Split.by2 (fun h=>?_) (fun h=>?_)<;>(simp [h, gsV, vl, NetD.cells, hz]))
 |(apply hK;clear hK K)|refine AWh (by assumption) ?_)
    exact retq1 (conv_eq rfl rfl)
end Go.Proofs.YtgmlimipejcpgaaDoor
end

section
set_option linter.unusedVariables false
namespace Go.Proofs.YtgmlimipejcpgaaDoor
open Go Go.AM
theorem zco29 : Tryd.prog.cellsOf 29 = 1 := by kernel_rfl
theorem rnGoal : RdN KB Tryd.prog 29 (fun g : List PartD => [vl PartD.cells g]) okGoal :=
  (RdN_slice Tryd.underlying29 (by rw [zco89]; decide) rnPartD (fun _ => by rw [zco89]; rfl)).map id (fun _ => rfl) (fun _ h => h)
def okGoals (gs : List (List PartD)) : Prop := gs.length ≤ 1048576 ∧ ∀ g ∈ gs, okGoal g
theorem rnGoals : RdN KB Tryd.prog 27 (fun gs : List (List PartD) => [gsV gs]) okGoals :=
  (RdN_slice Tryd.underlying27 (by rw [zco29]; decide) rnGoal (fun _ => by rw [zco29]; rfl)).map id (fun _ => rfl) (fun _ h => h)
end Go.Proofs.YtgmlimipejcpgaaDoor
end

section
set_option linter.unusedVariables false
set_option linter.unusedSimpArgs false
namespace Go.AM
section
variable {P : Program} {ge : GEnv} {st : St} {Q : Exit → St → Prop} {ops : Array Oper}
variable {d : Option Tmp} {t : TypeId} {p : String} {af : Array Edge} {g : Option (Nat × Bool)}
/-- The walk of a region whose slices are built frozen. -/
def AOL (P : Program) (ge : GEnv) (ops : Array Oper) (Q : Exit → St → Prop) : List Oper → St → Prop
  | [], st => Q .normal st
  | ⟨d, .buildSlice T len parts, _, _, _, none⟩ :: rest, st => dstOk st.n d = true ∧ bsOk P ge st T len parts ∧
      AOL P ge ops Q rest ⟨st.n, putD d (.vec (rowsV (List.replicate len (zeroD P (elemOf P T))) (partsV ge st.tm parts.toList)) len) st.tm, st.h⟩
  | ⟨d, op, t, p, af, none⟩ :: rest, st =>
      if plainOp op = true then dstOk st.n d = true ∧ opOk P ge st op ∧ AOL P ge ops Q rest ⟨st.n, putD d (opVal P ge st op).1 st.tm, (opVal P ge st op).2⟩
      else AS P ge ops (⟨d, op, t, p, af, none⟩ :: rest) Q st
  | ⟨d, op, t, p, af, some g⟩ :: rest, st => AS P ge ops (⟨d, op, t, p, af, some g⟩ :: rest) Q st
theorem AS_of_AOL : ∀ {l : List Oper} {st : St}, AOL P ge ops Q l st → AS P ge ops l Q st
  | [], st, h => by rw [AOL] at h; exact AS_nil h
  | ⟨d, op, t, p, af, some g⟩ :: rest, st, h => by
    cases op <;> (rw [AOL] at h; try exact h) <;> (intro hh; cases hh)
  | ⟨d, op, t, p, af, none⟩ :: rest, st, h => by
    by_cases hb : ∃ T len parts, op = .buildSlice T len parts
    · obtain ⟨T, len, parts, rfl⟩ := hb
      rw [AOL] at h
      obtain ⟨h1, h2, h3⟩ := h
      exact AS_op rfl h1 (S_bsOk h2) (AS_of_AOL h3)
    · rw [AOL] at h
      · split at h
        · obtain ⟨h1, h2, h3⟩ := h
          exact AS_op rfl h1 (opS_of_ok h2) (AS_of_AOL h3)
        · exact h
      · intro T len parts e; exact hb ⟨T, len, parts, e⟩
theorem AW_region_AOL {id : Nat} (h : AOL P ge ops Q ops.toList st) : AW P ge (.region id ops false) Q st := AW_region (AS_of_AOL h)
end
mutual
def V.dn : V → V
  | .nils => .vec [] 0
  | .vec xs len => .vec (V.dnR xs) len
  | .agg cs => .agg (V.dns cs)
  | .tup cs => .tup (V.dns cs)
  | .fp cs off => .fp (V.dns cs) off
  | v => v
def V.dns : List V → List V
  | [] => []
  | v :: r => V.dn v :: V.dns r
def V.dnR : List (List V) → List (List V)
  | [] => []
  | x :: r => V.dns x :: V.dnR r
end
theorem dns_eq : ∀ cs : List V, V.dns cs = cs.map V.dn
  | [] => rfl
  | v :: r => by rw [V.dns, List.map_cons, dns_eq r]
theorem dnR_eq : ∀ xs : List (List V), V.dnR xs = xs.map V.dns
  | [] => rfl
  | x :: r => by rw [V.dnR, List.map_cons, dnR_eq r]
theorem R.dn {G : Gh} {w : World} {fr : Bool} {v : V} {c : Value} (h : R G w fr v c) : R G w fr v.dn c := by
  have tg : ∀ {cs : List V} {j : Nat} {v : V}, (V.dns cs)[j]? = some v → ∃ u, cs[j]? = some u ∧ v = u.dn := fun {cs j v} hv => by
    rw [dns_eq, List.getElem?_map] at hv
    obtain ⟨u, h1, h2⟩ := Option.map_eq_some_iff.1 hv
    exact ⟨u, h1, h2.symm⟩
  have rg : ∀ {xs : List (List V)} {i : Nat} {x : List V}, (V.dnR xs)[i]? = some x → ∃ y, xs[i]? = some y ∧ x = V.dns y := fun {xs i x} hx => by
    rw [dnR_eq, List.getElem?_map] at hx
    obtain ⟨y, h1, h2⟩ := Option.map_eq_some_iff.1 hx
    exact ⟨y, h1, h2.symm⟩
  induction h with
  | nils => exact .emp (Nat.zero_le _)
  | emp h => exact .emp h
  | @vec _ _ _ _ _ _ sz h1 h2 h3 hl hc ho hr ih =>
    refine .vec (sz := sz) (by rw [dnR_eq, List.length_map]; exact h1) (by rw [dnR_eq, List.length_map]; exact h2) h3 (fun i x hx => ?_) (fun i x j v hx hv => ?_) (fun i x j v hx hv => ?_) (fun i x j v hx hv => ?_)
    · obtain ⟨y, h4, rfl⟩ := rg hx; rw [dns_eq, List.length_map]; exact hl i y h4
    · obtain ⟨y, h4, rfl⟩ := rg hx; obtain ⟨u, h5, rfl⟩ := tg hv; exact hc i y j u h4 h5
    · obtain ⟨y, h4, rfl⟩ := rg hx; obtain ⟨u, h5, rfl⟩ := tg hv; exact ho i y j u h4 h5
    · obtain ⟨y, h4, rfl⟩ := rg hx; obtain ⟨u, h5, rfl⟩ := tg hv; exact ih i y j u h4 h5
  | fp hc ho hr ih =>
    refine .fp (fun j v hv => ?_) (fun j v hv => ?_) (fun j v hv => ?_)
    · obtain ⟨u, h5, rfl⟩ := tg hv; exact hc j u h5
    · obtain ⟨u, h5, rfl⟩ := tg hv; exact ho j u h5
    · obtain ⟨u, h5, rfl⟩ := tg hv; exact ih j u h5
  | agg hs ho hr ih =>
    refine .agg (by rw [dns_eq, List.length_map]; exact hs) (fun i v hv => ?_) (fun i v hv => ?_)
    · obtain ⟨u, h5, rfl⟩ := tg hv; exact ho i u h5
    · obtain ⟨u, h5, rfl⟩ := tg hv; exact ih i u h5
  | tup hs hr ih =>
    refine .tup (by rw [dns_eq, List.length_map]; exact hs) (fun i v hv => ?_)
    obtain ⟨u, h5, rfl⟩ := tg hv; exact ih i u h5
  | fn hs hr hs' hr' => exact .fn hs hr hs' hr'
  | ifc hr => exact .ifc hr
  | junk => exact .junk
  | void => exact .void
  | bool => exact .bool
  | int => exact .int
  | str => exact .str
  | nilp => exact .nilp
  | nilf => exact .nilf
  | nilm => exact .nilm
  | nili => exact .nili
  | ref hb hg hm hle => exact .ref hb hg hm hle
  | refn hb hg hm => exact .refn hb hg hm
  | ptr hb hm => exact .ptr hb hm
  | ep hb hg hm => exact .ep hb hg hm
  | mp hb hm => exact .mp hb hm
/-- A contract for what nil, deep inside the arguments, shows. -/
theorem PCall.dn {P : Program} {ge : GEnv} {f : Nat} {args args' : List V} {r : V} (hc : PCall P ge f args' r) (ha : V.dns args = args') : PCall P ge f args r := by
  subst ha
  refine ⟨hc.1, fun G w cargs h hg => hc.2 G w cargs ⟨by rw [dns_eq, List.length_map]; exact h.1, fun i v hv => ?_⟩ hg⟩
  rw [dns_eq, List.getElem?_map] at hv
  obtain ⟨u, h1, rfl⟩ := Option.map_eq_some_iff.1 hv
  exact (h.2 i u h1).dn
/-- A result, as it shows with nil deep inside. -/
theorem PCall.dnr {P : Program} {ge : GEnv} {f : Nat} {args : List V} {r r' : V} (hc : PCall P ge f args r) (hp : r.plain = true) (he : r.dn = r') (h1 : ∀ T xs, r' ≠ .own T xs) (h2 : ∀ vs, r' ≠ .tup vs) : PCall P ge f args r' := by
  refine ⟨hc.1, fun G w cargs ha hg => (hc.2 G w cargs ha hg).mono fun e w' ⟨c, G', k1, k2, k3⟩ => ⟨c, G', k1, k2, ?_⟩⟩
  have h4 := (k3.plain hp).dn
  rw [he] at h4
  cases r' <;> first | exact h4 | exact (h1 _ _ rfl).elim | exact (h2 _ rfl).elim
attribute [simp] AOL
end Go.AM
end

section
set_option linter.unusedVariables false
set_option linter.unusedSimpArgs false
namespace Go.Proofs.YtgmlimipejcpgaaDoor
open Go Go.AM Fx
theorem c_Max1 (c : Int) : PC 23 [.int .u8 c] (.bool true) := by
  refine PCall_body Tryd.func23 rfl (by decide) Tryd.ntmps23 (by simp) Tryd.results23 ?_
  repeat' (first
 |refine AW_seq_k fun K hK=>?_|refine Step.by1 ?_|refine SBlock_exit_ne (by decide) ?_|refine cz rfl ?_|refine Fork.by2 (fun h=>?_) fun h=>?_
 |(refine AW_region_AO ?_;simp)
 |(refine Split.by2 (fun h=>?_) (fun h=>?_)<;>(simp [h]))
 |(apply hK;clear hK K)|refine AWh (by assumption) ?_)
  exact retq1 (conv_eq rfl rfl)
theorem c_Max (n : NetD) (hn : n.ok) (gs : List (List PartD)) (hgl : gs.length ≤ 1048577) (hgs : ∀ g ∈ gs, okGoal g) : PC 7 [.agg n.cells, gsV gs] (numV (numbE n (fun _ => true) gs)) := by
  have hc := c_numbers n hn 23 (fun _ => true) c_Max1 gs hgl hgs
  simp only [gsV, vl, NetD.cells] at hc
  cases h : numbE n (fun _ => true) gs with
  | none =>
    rw [h] at hc
    simp only [numV] at hc ⊢
    refine PCall_body Tryd.func7 rfl (by decide) Tryd.ntmps7 (by simp) Tryd.results7 ?_
    repeat' (first
 |refine AW_seq_k fun K hK=>?_|refine Step.by1 ?_|refine SBlock_exit_ne (by decide) ?_|refine cz rfl ?_|refine Fork.by2 (fun h=>?_) fun h=>?_
 |((first|refine AW_region_AO ?_|refine AS_call1 (f:=22) rfl rfl (hc) rfl rfl rfl ?_);simp [gsV, vl, NetD.cells])
 |(refine Split.by2 (fun h=>?_) (fun h=>?_)<;>(simp [h, gsV, vl, NetD.cells]))
 |(apply hK;clear hK K)|refine AWh (by assumption) ?_)
    exact retq1 (conv_eq rfl rfl)
  | some o =>
    rw [h] at hc
    simp only [numV] at hc ⊢
    refine PCall_body Tryd.func7 rfl (by decide) Tryd.ntmps7 (by simp) Tryd.results7 ?_
    repeat' (first
 |refine AW_seq_k fun K hK=>?_|refine Step.by1 ?_|refine SBlock_exit_ne (by decide) ?_|refine cz rfl ?_|refine Fork.by2 (fun h=>?_) fun h=>?_
 |((first|refine AW_region_AO ?_|refine AS_callO (f:=22) rfl rfl (hc) rfl rfl ?_);simp [gsV, vl, NetD.cells])
 |(refine Split.by2 (fun h=>?_) (fun h=>?_)<;>(simp [h, gsV, vl, NetD.cells]))
 |(apply hK;clear hK K)|refine AWh (by assumption) ?_)
    exact retq1 (.inr (.inl (conv1_own rfl (by simp))))
def smallN : NetD := { clocks := [⟨#[120]⟩], vars := [], chans := [], autos := [{ name := ⟨#[65]⟩, locs := [{ name := ⟨#[97]⟩, kind := 0, inv := [{ clock := 1, other := 0, cmp := 2, n := 5 }] }, { name := ⟨#[98]⟩, kind := 0, inv := [] }], edges := [{ frm := 0, to := 1, guards := [{ clock := 1, other := 0, cmp := 4, n := 3 }], test := [], chan := 0, send := false, sets := [{ clock := 1, n := 0, var := 0, expr := [] }] }] }] }
theorem small_ok : smallN.ok := by
  simp [smallN, NetD.ok, AutoD.ok, LocD.ok, EdgeD.ok, GuardD.ok, SetD.ok, I64]
  decide
end Go.Proofs.YtgmlimipejcpgaaDoor
end

section
set_option linter.unusedVariables false
set_option linter.unusedSimpArgs false
namespace Go.AM
def refsV : Nat → List V → List V
  | _, [] => []
  | n, .own _ xs :: r => .ref n 0 0 xs.length :: refsV (n + 1) r
  | n, v :: r => v :: refsV n r
def rowsB : List V → List B
  | [] => []
  | .own T xs :: r => .row T 0 0 true xs :: rowsB r
  | _ :: r => rowsB r
theorem refsV_not {n : Nat} {v : V} {r : List V} (h : v.isOwn = false) : refsV n (v :: r) = v :: refsV n r := by cases v <;> first | rfl | cases h
theorem rowsB_not {v : V} {r : List V} (h : v.isOwn = false) : rowsB (v :: r) = rowsB r := by cases v <;> first | rfl | cases h
theorem isOwn_iff {v : V} (h : v.isOwn = true) : ∃ T xs, v = .own T xs := by cases v <;> first | exact ⟨_, _, rfl⟩ | cases h
section
variable {P : Program} {ge : GEnv} {st : St} {G : Gh} {w w' : World} {Q : Exit → St → Prop}
variable {d : Option Tmp} {t : TypeId} {p : String} {af : Array Edge}
theorem RO1_not {base : Nat} {v : V} {c : Value} (h : v.isOwn = false) (hr : RO1 P G w base v c) : R G w true v c := by cases v <;> first | exact hr | cases h
/-- A block that is no block yet. -/
theorem RH.push2 {h : List B} (rh : RH P ge G h w) {k : Option Nat} {sz cap : Nat} {x : B} (hx : RB P (G.push k sz cap) w G.n x)
    (hk : ∀ k', (G.push k sz cap).at G.n x = some k' → ∀ (b : Nat) (y : B), h[b]? = some y → G.at b y ≠ some k') : RH P ge (G.push k sz cap) (h ++ [x]) w := by
  have le := GLe.push rh (.refl w) k sz cap
  have hlt : ∀ {b y}, h[b]? = some y → b < G.n := fun {b y} hy => by have := (List.getElem?_eq_some_iff.1 hy).1; rw [rh.n] at this; exact this
  have part : ∀ {b y}, (h ++ [x])[b]? = some y → (h[b]? = some y ∧ b < G.n) ∨ (b = G.n ∧ y = x) := fun {b y} hy => by
    rcases Nat.lt_or_ge b h.length with h1 | h1
    · rw [List.getElem?_append_left h1] at hy; exact .inl ⟨hy, hlt hy⟩
    · rw [List.getElem?_append_right h1] at hy
      have h2 : b - h.length = 0 := by
        rcases Nat.eq_zero_or_pos (b - h.length) with h | h
        · exact h
        · rw [List.getElem?_eq_none (by simp; omega)] at hy; cases hy
      rw [h2] at hy; simp at hy
      exact .inr ⟨by rw [← rh.n]; omega, hy.symm⟩
  refine ⟨by simp [Gh.push, rh.n], ?_, ?_, ?_, ?_⟩
  · intro b y hy
    rcases part hy with ⟨hy, hb⟩ | ⟨rfl, rfl⟩
    · refine RB.keep le hb (by simp only [Gh.push]; rw [if_neg (by omega)]) (fun k' hk' => ⟨rfl, rfl⟩) (rh.bl b y hy)
    · exact hx
  · intro b b' y y' k' hy hy' h1 h2
    rcases part hy with ⟨oy, hb⟩ | ⟨rfl, rfl⟩ <;> rcases part hy' with ⟨oy', hb'⟩ | ⟨rfl, rfl⟩
    · rw [at_push (by omega)] at h1 h2; exact rh.inj b b' y y' k' oy oy' h1 h2
    · rw [at_push (by omega)] at h1
      exact absurd h1 (hk k' h2 b y oy)
    · rw [at_push (by omega)] at h2
      exact absurd h2 (hk k' h1 b' y' oy')
    · rfl
  · exact rh.fzlt
  · intro g cs hg; exact (rh.ge g cs hg).mono le
theorem owns_push {G0 G' : Gh} {h0 : List B} {w0 : World} : ∀ (us : List V) (cs : List Value) (Gc : Gh) (hc : List B), us.length = cs.length → RH P ge Gc hc w' → Ext G0 h0 w0 Gc hc w' → Gc.fz = G'.fz →
    (∀ (i : Nat) (u : V) (c : Value), us[i]? = some u → cs[i]? = some c → RO1 P G' w' w0.heap.size u c) →
    (∀ (i : Nat) (u : V) (c : Value) (k : Nat), us[i]? = some u → u.isOwn = true → cs[i]? = some c → blkOf c = some k → ∀ (b : Nat) (y : B), hc[b]? = some y → Gc.at b y ≠ some k) →
    (∀ (i j : Nat) (u v : V) (c e : Value) (k : Nat), us[i]? = some u → us[j]? = some v → u.isOwn = true → v.isOwn = true → cs[i]? = some c → cs[j]? = some e → blkOf c = some k → blkOf e = some k → i = j) →
    ∃ Gn, RH P ge Gn (hc ++ rowsB us) w' ∧ Ext G0 h0 w0 Gn (hc ++ rowsB us) w' ∧ GLe Gc w' Gn w' ∧ (refsV hc.length us).length = us.length ∧
      ∀ (i : Nat) (v : V) (c : Value), (refsV hc.length us)[i]? = some v → cs[i]? = some c → R Gn w' false v c
  | [], cs, Gc, hc, hl, rh, ext, hfz, h1, h2, h3 => ⟨Gc, by simpa [rowsB] using rh, by simpa [rowsB] using ext, .refl _ _, rfl, fun i v c hv => by simp [refsV] at hv⟩
  | u :: us, [], Gc, hc, hl, _, _, _, _, _, _ => by simp at hl
  | u :: us, c :: cs, Gc, hc, hl, rh, ext, hfz, h1, h2, h3 => by
    have hl' : us.length = cs.length := by simpa using hl
    cases ho : u.isOwn with
    | false =>
      obtain ⟨Gn, a1, a2, a3, a4, a5⟩ := owns_push us cs Gc hc hl' rh ext hfz (fun i u c hu hc => h1 (i + 1) u c (by simpa using hu) (by simpa using hc))
        (fun i u c k hu ho hc hk => h2 (i + 1) u c k (by simpa using hu) ho (by simpa using hc) hk)
        (fun i j u v c e k hu hv a b hc he a' b' => by have := h3 (i + 1) (j + 1) u v c e k (by simpa using hu) (by simpa using hv) a b (by simpa using hc) (by simpa using he) a' b'; omega)
      rw [refsV_not ho, rowsB_not ho]
      refine ⟨Gn, a1, a2, a3, by simp [a4], fun i v c' hv hc' => ?_⟩
      cases i with
      | zero =>
        simp at hv hc'; subst hv; subst hc'
        exact ((RO1_not ho (h1 0 u c (by simp) (by simp))).monoT (fun k => by rw [← hfz]; exact a3.fz k) (fun _ _ _ => rfl) rfl).weak rfl
      | succ i => exact a5 i v c' (by simpa using hv) (by simpa using hc')
    | true =>
      obtain ⟨T, xs, rfl⟩ := isOwn_iff ho
      obtain ⟨k, cap, hcv, hk1, hk2, hk3, hrb⟩ := RB_own (show OwnR P G' w' w0.heap.size T xs c from h1 0 (.own T xs) c (by simp) (by simp))
      have hat : (Gc.push k (szOf P T) cap).at Gc.n (.row T 0 0 true xs) = k := by simp [Gh.at, Gh.push]
      have hblk : ∀ j, k = some j → blkOf c = some j := fun j hj => by subst hj; rw [hcv]; rfl
      have rh1 := rh.push2 (hrb Gc hfz) (fun k' hk' b y hy => by rw [hat] at hk'; exact h2 0 _ c k' (by simp) ho (by simp) (hblk k' hk') b y hy)
      have le1 : GLe Gc w' (Gc.push k (szOf P T) cap) w' := GLe.push rh (.refl w') _ _ _
      have part : ∀ {b y}, (hc ++ [B.row T 0 0 true xs])[b]? = some y → (hc[b]? = some y ∧ b < Gc.n) ∨ (b = Gc.n ∧ y = .row T 0 0 true xs) := fun {b y} hy => by
        rcases Nat.lt_or_ge b hc.length with h3 | h3
        · rw [List.getElem?_append_left h3] at hy; exact .inl ⟨hy, by rw [← rh.n]; exact h3⟩
        · rw [List.getElem?_append_right h3] at hy
          have h4 : b - hc.length = 0 := by
            rcases Nat.eq_zero_or_pos (b - hc.length) with h | h
            · exact h
            · rw [List.getElem?_eq_none (by simp; omega)] at hy; cases hy
          rw [h4] at hy; simp at hy
          exact .inr ⟨by rw [← rh.n]; omega, hy.symm⟩
      have atp : ∀ {b y}, b < Gc.n → (Gc.push k (szOf P T) cap).at b y = Gc.at b y := fun {b y} hb => at_push (by omega)
      have ext1 : Ext G0 h0 w0 (Gc.push k (szOf P T) cap) (hc ++ [B.row T 0 0 true xs]) w' := by
        refine ⟨ext.le.trans le1, ext.size, fun j hj hn => ext.frame j hj hn, fun b y j hy hj => ?_, ext.os, ext.out⟩
        rcases part hy with ⟨hy, hb⟩ | ⟨rfl, rfl⟩
        · rw [atp hb] at hj; exact ext.fresh b y j hy hj
        · rw [hat] at hj; exact .inl (hk1 j hj)
      obtain ⟨Gn, a1, a2, a3, a4, a5⟩ := owns_push us cs (Gc.push k (szOf P T) cap) (hc ++ [B.row T 0 0 true xs]) hl' rh1 ext1 hfz (fun i u c hu hc => h1 (i + 1) u c (by simpa using hu) (by simpa using hc))
        (fun i u e k' hu hu' he hk' b y hy => by
          rcases part hy with ⟨hy, hb⟩ | ⟨rfl, rfl⟩
          · rw [atp hb]; exact h2 (i + 1) u e k' (by simpa using hu) hu' (by simpa using he) hk' b y hy
          · rw [hat]; intro hkk
            have := h3 0 (i + 1) _ u c e k' (by simp) (by simpa using hu) ho hu' (by simp) (by simpa using he) (hblk k' hkk) hk'
            omega)
        (fun i j u v c e k hu hv a b hc he a' b' => by have := h3 (i + 1) (j + 1) u v c e k (by simpa using hu) (by simpa using hv) a b (by simpa using hc) (by simpa using he) a' b'; omega)
      have hlen : (hc ++ [B.row T 0 0 true xs]).length = hc.length + 1 := by simp
      rw [hlen] at a4 a5
      simp only [refsV, rowsB]
      rw [List.append_assoc] at a1 a2
      refine ⟨Gn, a1, a2, le1.trans a3, by simp [a4], fun i v c' hv hc' => ?_⟩
      cases i with
      | zero =>
        simp at hv hc'; subst hv; subst hc'
        refine R.mono a3 ?_
        rw [rh.n]
        cases k with
        | none =>
          simp only at hcv
          subst hcv
          rw [hk2 rfl]
          exact .refn (by simp [Gh.push]) (by simp [Gh.push]) (by simp [Gh.push])
        | some k =>
          simp only at hcv
          subst hcv
          have := R.ref (G := Gc.push (some k) (szOf P T) cap) (w := w') (b := Gc.n) (g := 0) (off := 0) (len := xs.length) (k := k) (by simp [Gh.push]) (by simp [Gh.push]) (by simp [Gh.push])
            (by simp [Gh.push]; exact hk3 k rfl)
          simpa [Gh.push] using this
      | succ i => exact a5 i v c' (by simpa using hv) (by simpa using hc')
theorem GCall_owns {f : Nat} {args vs : List V} (hc : PCall P ge f args (.tup vs)) (hf : V.isFs args = true) (h : List B) :
    GCall P ge f args h fun v h' => v = .tup (refsV h.length vs) ∧ h' = h ++ rowsB vs := by
  refine ⟨hc.1, fun G w cargs ha hr => ?_⟩
  have ha' : ArgsR G w true args cargs := ⟨ha.1, fun i v hv => (ha.2 i v hv).frozen (V.isFs_get hf i v hv)⟩
  refine (hc.2 G w cargs ha' ⟨hr.fzlt, hr.ge⟩).mono ?_
  rintro e w' ⟨c, G', rfl, kept, arr, rfl, hsz, hro, hdis⟩
  obtain ⟨h1, h2⟩ := kept.rh hr
  have hget : ∀ (i : Nat) (c : Value), arr.toList[i]? = some c → arr.getD i undef = c := fun i c h => by
    have : arr[i]? = some c := by simpa using h
    rw [Array.getD_eq_getD_getElem?, this]; rfl
  obtain ⟨Gn, a1, a2, a3, a4, a5⟩ := owns_push (G' := G') vs arr.toList (G.withFz G'.fz) h (by simp [hsz]) h1 h2 rfl (fun i u c hu hc => by have := hro i u hu; rw [hget i c hc] at this; exact this)
    (fun i u c k hu ho hc hk b y hy hat => by
      have h3 := hro i u hu
      rw [hget i c hc] at h3
      obtain ⟨T, xs, rfl⟩ := isOwn_iff ho
      have h4 : G.at b y = some k := by cases y <;> exact hat
      have h5 := at_lt hr hy h4
      obtain ⟨_, ⟨rfl, rfl⟩ | ⟨k', cap, arr', rfl, hb, _⟩⟩ := h3
      · cases hk
      · simp only [blkOf, Option.some.injEq] at hk; subst hk; omega)
    (fun i j u v c e k hu hv a b hc he a' b' => hdis i j u v k hu hv a b (by rw [hget i c hc]; exact a') (by rw [hget j e he]; exact b'))
  refine ⟨_, Gn, _, _, rfl, ⟨rfl, rfl⟩, a1, .tup (by rw [a4]; exact hsz) (fun i v hv => ?_), a2⟩
  have hi : i < arr.size := by have := (List.getElem?_eq_some_iff.1 hv).1; omega
  have hc' : arr.toList[i]? = some arr[i] := by simp [hi]
  rw [hget i _ hc']
  exact a5 i v _ hv hc'
theorem AS_callT {ops : Array Oper} {rest : List Oper} {x : Operand} {xs : Array Operand} {ts : Array TypeId} {f : Nat} {A C args : List V} {vs : List V}
    (hx : ev ge st.tm x = .fn (.func f) A C) (ha : A ++ evs ge st.tm xs.toList ++ C = args) (hc : PCall P ge f args (.tup vs)) (hf : V.isFs args = true) (hd : dstOk st.n d = true)
    (h : AO P ge ops Q rest ⟨st.n, putD d (.tup (refsV st.h.length vs)) st.tm, st.h ++ rowsB vs⟩) :
    AS P ge ops (⟨d, .call { callee := .value x, args := xs, argTypes := ts }, t, p, af, none⟩ :: rest) Q st :=
  AS_callG hx ha (GCall_owns hc hf st.h) hd (by rintro v h' ⟨rfl, rfl⟩; exact h)
end
attribute [simp] refsV rowsB
end Go.AM
end

section
set_option linter.unusedVariables false
set_option linter.unusedSimpArgs false
namespace Go.AM
section
variable {P : Program} {ge : GEnv} {st : St} {Q : Exit → St → Prop} {G : Gh} {w : World}
/-- A symbolic heap, what is new behind it falls. -/
theorem Weak.sym {st : St} {tm : List (Nat × V)} {h x : List B} (hh : st.h = h ++ x) (hl : ∀ y ∈ h, y.lt h.length) (ht : ∀ p ∈ tm, lk st.tm p.1 = p.2 ∧ p.2.lt h.length = true) : Weak st ⟨st.n, tm, h⟩ := by
  refine ⟨rfl, by rw [hh]; simp, ht, fun b y hy => .inr ⟨?_, hl y (List.mem_of_getElem? hy)⟩⟩
  rw [hh, List.getElem?_append_left (List.getElem?_eq_some_iff.1 hy).1]; exact hy
theorem Leaves.sym {h0 h : List B} (h1 : h0.length ≤ h.length) (hl : ∀ y ∈ h, y.lt h.length) : Leaves h0 h h :=
  ⟨h1, Nat.le_refl _, fun b x hx => .inr ⟨hx, .inr (hl x (List.mem_of_getElem? hx))⟩⟩
end
end Go.AM
end

section
set_option linter.unusedVariables false
set_option linter.unusedSimpArgs false
namespace Go.Proofs.YtgmlimipejcpgaaDoor
open Go Go.AM Fx
theorem numb_len {n : NetD} {so : Int → Bool} {gs : List (List PartD)} {o : List Int} (h : numbE n so gs = some o) : o.length = n.clocks.length := by
  have key : ∀ (gs : List (List PartD)) (c o : List Int), numG n so gs c = some o → o.length = c.length := by
    intro gs
    induction gs with
    | nil => intro c o h; rw [numG_nil] at h; cases h; rfl
    | cons g r ih =>
      intro c o h
      rw [numG_cons] at h
      split at h
      · cases h
      · rw [ih _ _ h, raisePs_len]
  unfold numbE at h
  split at h
  · cases h
  · rw [key _ _ _ h, raiseL_len]; simp
end Go.Proofs.YtgmlimipejcpgaaDoor
end

section
set_option linter.unusedVariables false
set_option linter.unusedSimpArgs false
namespace Go.Proofs.YtgmlimipejcpgaaDoor
open Go Go.AM Fx
end Go.Proofs.YtgmlimipejcpgaaDoor
end

section
set_option linter.unusedVariables false
set_option linter.unusedSimpArgs false
namespace Go.Proofs.YtgmlimipejcpgaaDoor
open Go Go.AM Fx
end Go.Proofs.YtgmlimipejcpgaaDoor
end

section
set_option linter.unusedVariables false
set_option linter.unusedSimpArgs false
namespace Go.Proofs.YtgmlimipejcpgaaDoor
open Go Go.AM Fx
end Go.Proofs.YtgmlimipejcpgaaDoor
end

section
set_option linter.unusedVariables false
set_option linter.unusedSimpArgs false
namespace Go.Proofs.YtgmlimipejcpgaaDoor
open Go Go.AM Fx
end Go.Proofs.YtgmlimipejcpgaaDoor
end

section
set_option linter.unusedVariables false
set_option linter.unusedSimpArgs false
namespace Go.Proofs.YtgmlimipejcpgaaDoor
open Go Go.AM Fx
end Go.Proofs.YtgmlimipejcpgaaDoor
end

section
set_option linter.unusedVariables false
set_option linter.unusedSimpArgs false
namespace Go.Proofs.YtgmlimipejcpgaaDoor
open Go Go.AM Fx
/-- All references lead into the heap. -/
def HL (h : List B) : Prop := ∀ y ∈ h, y.lt h.length
theorem HL.set {h : List B} (hl : HL h) {i : Nat} {y : B} (hy : y.lt h.length) : HL (h.set i y) := fun z hz => by
  rw [List.length_set]
  rcases List.mem_or_eq_of_mem_set hz with h | h
  · exact hl z h
  · subst h; exact hy
theorem HL.get {h : List B} (hl : HL h) {i : Nat} {y : B} (hy : h[i]? = some y) : y.lt h.length := hl y (List.mem_of_getElem? hy)
theorem HL.push {h : List B} (hl : HL h) {y : B} (hy : y.lt (h.length + 1)) : HL (h ++ [y]) := fun z hz => by
  rw [List.length_append, List.length_singleton]
  rcases List.mem_append.1 hz with h | h
  · exact B.lt_mono (by omega) (hl z h)
  · rw [List.mem_singleton.1 h]; exact hy
theorem set_same {α : Type} {l : List α} {i : Nat} {a : α} (h : l[i]? = some a) : l.set i a = l := by
  obtain ⟨h1, h2⟩ := List.getElem?_eq_some_iff.1 h
  rw [← h2]; simp
theorem get_set_ne {h : List B} {i j : Nat} {y : B} (hne : i ≠ j) : (h.set i y)[j]? = h[j]? := by rw [List.getElem?_set, if_neg hne]
theorem get_set_eq {h : List B} {i : Nat} {y z : B} (hi : h[i]? = some z) : (h.set i y)[i]? = some y := by
  have := (List.getElem?_eq_some_iff.1 hi).1
  rw [List.getElem?_set, if_pos rfl, if_pos this]
def ivs (l : List Int) : List (List V) := l.map fun k => [V.int .i64 k]
def rv (x : Nat × Nat × Nat) : V := .ref x.1 x.2.1 0 x.2.2
theorem rowF_lt {T g f n : Nat} {xs : List (List V)} : (B.row T g f true xs).lt n := .inl rfl
theorem rowR_lt {T g f n : Nat} {fl : Bool} {xs : List (List V)} (h : ∀ x ∈ xs, V.lts n x = true) : (B.row T g f fl xs).lt n := .inr h
end Go.Proofs.YtgmlimipejcpgaaDoor
end

section
set_option linter.unusedVariables false
set_option linter.unusedSimpArgs false
namespace Go.Proofs.YtgmlimipejcpgaaDoor
open Go Go.AM Fx
theorem Leaves.symx {h0 h x : List B} (h1 : h0.length ≤ h.length) (hl : HL h) : Go.AM.Leaves h0 (h ++ x) h :=
  ⟨h1, by simp, fun b y hy => .inr ⟨by rw [List.getElem?_append_left (List.getElem?_eq_some_iff.1 hy).1]; exact hy, .inr (hl.get hy)⟩⟩
theorem set_app {h x : List B} {i : Nat} {y : B} (hi : i < h.length) : (h ++ x).set i y = h.set i y ++ x := by rw [List.set_append, if_pos hi]
theorem get_app {h x : List B} {i : Nat} (hi : i < h.length) : (h ++ x)[i]? = h[i]? := List.getElem?_append_left hi
end Go.Proofs.YtgmlimipejcpgaaDoor
end

section
set_option linter.unusedVariables false
set_option linter.unusedSimpArgs false
namespace Go.Proofs.YtgmlimipejcpgaaDoor
open Go Go.AM Fx
end Go.Proofs.YtgmlimipejcpgaaDoor
end

section
set_option linter.unusedVariables false
set_option linter.unusedSimpArgs false
namespace Go.Proofs.YtgmlimipejcpgaaDoor
open Go Go.AM Fx
def lookF (n : NetD) : List (List PartD) → Int
  | [] => 0
  | g :: r => if goalE n g ≠ 0 then goalE n g else lookF n r
theorem lookF_nil {n : NetD} : lookF n [] = 0 := rfl
theorem lookF_cons {n : NetD} {g : List PartD} {r : List (List PartD)} : lookF n (g :: r) = if goalE n g ≠ 0 then goalE n g else lookF n r := rfl
def lookE (n : NetD) (gs : List (List PartD)) : Int := if netE n ≠ 0 then netE n else lookF n gs
set_option maxRecDepth 20000 in
set_option maxHeartbeats 8000000 in
theorem c_look (n : NetD) (hn : n.ok) (gs : List (List PartD)) (hgl : gs.length ≤ 1048577) (hgs : ∀ g ∈ gs, okGoal g) : PC 48 [.agg n.cells, gsV gs] (.int .i64 (lookE n gs)) := by
  have hN := c_Net n hn
  obtain ⟨r, hr⟩ : ∃ r, lookE n gs = r := ⟨_, rfl⟩
  rw [hr]
  unfold lookE at hr
  simp only [vl, NetD.cells] at hN
  refine PCall_body Tryd.func48 rfl (by decide) Tryd.ntmps48 (by simp) Tryd.results48 ?_
  by_cases hz : netE n = 0
  · rw [if_neg (by simp [hz])] at hr
    rw [hz] at hN
    repeat' (first
 |refine AW_seq_k fun K hK=>?_|refine Step.by1 ?_|refine SBlock_exit_ne (by decide) ?_|refine cz rfl ?_|refine Fork.by2 (fun h=>?_) fun h=>?_
 |((first|refine AW_region_AO ?_|refine AS_call1 (f:=10) rfl rfl (hN) rfl rfl rfl ?_);simp [gsV, vl, NetD.cells])
 |(refine Split.by2 (fun h=>?_) (fun h=>?_)<;>(simp [h, gsV, vl, NetD.cells]))
 |(apply hK;clear hK K)|refine AWh (by assumption) ?_)
    refine AW_scan (r := r) gs 16 [2, 14, 15] (lookF n) hr (by apply Weak.mk' <;> simp [gsV, vl, NetD.cells]) ?_ ?_
    · intro i g _ hlt hg hF
      rw [lookF_cons] at hF
      have hc := c_Goal n hn g (hgs g (hg ▸ List.getElem_mem hlt))
      have hlt' : (i : Int) < gs.length := by omega
      have w1 : IntKind.i64.wrap ((i : Int) + 1) = i + 1 := wrap_i64 (by omega) (by omega)
      simp only [vl, NetD.cells] at hc
      generalize goalE n g = e at *
      by_cases he : e = 0
      · rw [if_neg (by simp [he])] at hF
        rw [he] at hc
        repeat' (first
 |refine AW_seq_k fun K hK=>?_|refine Step.by1 ?_|refine SBlock_exit_ne (by decide) ?_|refine cz rfl ?_|refine Fork.by2 (fun h=>?_) fun h=>?_
 |((first|refine AW_region_AO ?_|refine AS_call1 (f:=66) rfl rfl (hc) rfl rfl rfl ?_);simp [gsV, vl, NetD.cells, hlt, hlt', hg, w1])
 |(refine Split.by2 (fun h=>?_) (fun h=>?_)<;>(simp [h, gsV, vl, NetD.cells, hlt, hlt', hg, w1]))
 |(apply hK;clear hK K)|refine AWh (by assumption) ?_)
        refine ⟨hF, ?_⟩; apply Weak.mk' <;> simp [gsV, vl, NetD.cells]
      · rw [if_pos he] at hF
        subst hF
        repeat' (first
 |refine AW_seq_k fun K hK=>?_|refine Step.by1 ?_|refine SBlock_exit_ne (by decide) ?_|refine cz rfl ?_|refine Fork.by2 (fun h=>?_) fun h=>?_
 |((first|refine AW_region_AO ?_|refine AS_call1 (f:=66) rfl rfl (hc) rfl rfl rfl ?_);simp [gsV, vl, NetD.cells, hlt, hlt', hg, he])
 |(refine Split.by2 (fun h=>?_) (fun h=>?_)<;>(simp [h, gsV, vl, NetD.cells, hlt, hlt', hg, he]))
 |(apply hK;clear hK K)|refine AWh (by assumption) ?_)
        exact retq1 (conv_eq rfl rfl)
    · intro hF
      rw [lookF_nil] at hF
      repeat' (first
 |refine AW_seq_k fun K hK=>?_|refine Step.by1 ?_|refine SBlock_exit_ne (by decide) ?_|refine cz rfl ?_|refine Fork.by2 (fun h=>?_) fun h=>?_
 |(refine AW_region_AO ?_;simp [gsV, vl, NetD.cells])
 |(refine Split.by2 (fun h=>?_) (fun h=>?_)<;>(simp [h, gsV, vl, NetD.cells]))
 |(apply hK;clear hK K)|refine AWh (by assumption) ?_)
      exact retq1 (conv_eq (by rw [← hF]; rfl) rfl)
  · rw [if_pos hz] at hr
    subst hr
    repeat' (first
 |refine AW_seq_k fun K hK=>?_|refine Step.by1 ?_|refine SBlock_exit_ne (by decide) ?_|refine cz rfl ?_|refine Fork.by2 (fun h=>?_) fun h=>?_
 |((first|refine AW_region_AO ?_|refine AS_call1 (f:=10) rfl rfl (hN) rfl rfl rfl ?_);simp [gsV, vl, NetD.cells, hz])
 |(refine Split.by2 (fun h=>?_) (fun h=>?_)<;>(simp [h, gsV, vl, NetD.cells, hz]))
 |(apply hK;clear hK K)|refine AWh (by assumption) ?_)
    exact retq1 (conv_eq rfl rfl)
def bvs (l : List Bool) : List (List V) := l.map fun b => [V.bool b]
def useL (l : List GuardD) (m : List Bool) : List Bool := l.foldl (fun m g => m.set (g.clock - 1).toNat true) m
theorem useL_nil {m : List Bool} : useL [] m = m := rfl
theorem useL_cons {g : GuardD} {l : List GuardD} {m : List Bool} : useL (g :: l) m = useL l (m.set (g.clock - 1).toNat true) := rfl
theorem useL_len : ∀ {l : List GuardD} {m : List Bool}, (useL l m).length = m.length
  | [], m => rfl
  | g :: l, m => by rw [useL_cons, useL_len]; simp
set_option maxRecDepth 20000 in
set_option maxHeartbeats 8000000 in
theorem c_use {h : List B} {b g : Nat} {m : List Bool} (hl : HL h) (h1 : h[b]? = some (.row 4 g 0 true (bvs m))) (l : List GuardD) (hll : l.length ≤ 1048576) (hm : m.length ≤ 1048576) (hg : ∀ x ∈ l, okG m.length x) :
    GCall Tryd.prog GV 89 [.ref b g 0 m.length, vl GuardD.cells l] h (fun v h' => v = .tup [] ∧ h' = h.set b (.row 4 g 0 true (bvs (useL l m)))) := by
  have hb := (List.getElem?_eq_some_iff.1 h1).1
  have hlx : ∀ c : List Bool, HL (h.set b (.row 4 g 0 true (bvs c))) := fun c => hl.set rowF_lt
  have hbx : ∀ c : List Bool, (h.set b (.row 4 g 0 true (bvs c)))[b]? = some (.row 4 g 0 true (bvs c)) := fun c => get_set_eq h1
  have hnx : ∀ c : List Bool, (h.set b (.row 4 g 0 true (bvs c))).length = h.length := fun c => List.length_set ..
  have hsx : ∀ c d : List Bool, h.set b (.row 4 g 0 true (bvs d)) = (h.set b (.row 4 g 0 true (bvs c))).set b (.row 4 g 0 true (bvs d)) := fun c d => by rw [List.set_set]
  refine GCall_body Tryd.func89 rfl (by decide) Tryd.ntmps89 (by simp) Tryd.results89 ?_
  repeat' (first
 |refine AW_seq_k fun K hK=>?_|refine Step.by1 ?_|refine SBlock_exit_ne (by decide) ?_|refine cz rfl ?_|refine Fork.by2 (fun h=>?_) fun h=>?_
 |(refine AW_region_AO ?_;simp [vl])
 |(refine Split.by2 (fun h=>?_) (fun h=>?_)<;>(simp [h, vl]))
 |(apply hK;clear hK K)|refine AWh (by assumption) ?_)
  refine AW_range (r := useL l m) l 8 [0, 6, 7] (fun _ : List Bool => []) (fun c => h.set b (.row 4 g 0 true (bvs c))) (fun i c => c.length = m.length) useL m
    rfl rfl (Weak.sym (x := []) (by simp [set_same h1]) (hlx m) (by simp [vl, hb])) (fun _ c _ => by rw [hnx]) ?_ ?_
  · intro i c x _ hlt hx hJ hF
    rw [useL_cons] at hF
    obtain ⟨g1, g2⟩ := hg x (hx ▸ List.getElem_mem hlt)
    have hlt' : (i : Int) < l.length := by omega
    have w1 : IntKind.i64.wrap ((i : Int) + 1) = i + 1 := wrap_i64 (by omega) (by omega)
    have w2 : IntKind.i64.wrap (x.clock - 1) = x.clock - 1 := wrap_i64 (by omega) (by omega)
    obtain ⟨p, hp⟩ := Int.eq_ofNat_of_zero_le (show 0 ≤ x.clock - 1 by omega)
    have hpl : p < c.length := by omega
    have hpm : p < m.length := by omega
    have hpm' : (p : Int) < m.length := by omega
    rw [hp] at hF w2
    have hpt : ((p : Int)).toNat = p := by omega
    rw [hpt] at hF
    have f1 := hlx c
    have f2 := hbx c
    have f3 := hnx c
    have f4 := hsx c (c.set p true)
    have f5 := hlx (c.set p true)
    have f6 := hnx (c.set p true)
    have hbc : b < (h.set b (.row 4 g 0 true (bvs c))).length := by rw [f3]; exact hb
    have hcl : (bvs c).length = m.length := by simp [bvs, hJ]
    have hcp : (bvs c)[p]'(by rw [hcl]; exact hpm) = [V.bool c[p]] := by simp [bvs]
    have hbs : (bvs c).set p [V.bool true] = bvs (c.set p true) := by simp [bvs, List.map_set]
    generalize h.set b (.row 4 g 0 true (bvs c)) = hc at *
    repeat' (first
 |refine AW_seq_k fun K hK=>?_|refine Step.by1 ?_|refine SBlock_exit_ne (by decide) ?_|refine cz rfl ?_|refine Fork.by2 (fun h=>?_) fun h=>?_
 |(refine AW_region_AO ?_;simp [vl, GuardD.cells, hlt, hlt', hx, w1, hp, w2, f2, get_app hbc, hpm, hpm', hcl, hcp, hbs])
 |(refine Split.by2 (fun h=>?_) (fun h=>?_)<;>(simp [h, vl, GuardD.cells, hlt, hlt', hx, w1, hp, w2, f2, get_app hbc, hpm, hpm', hcl, hcp, hbs]))
 |(apply hK;clear hK K)|refine AWh (by assumption) ?_)
    refine ⟨c.set p true, hF, by simp [hJ], Weak.sym (x := [.var x.cells]) (by rw [f4]; simp [set_app hbc, GuardD.cells]) f5 (by simp [vl, f6, hb])⟩
  · intro c hJ hF
    rw [useL_nil] at hF
    subst hF
    repeat' (first
 |refine AW_seq_k fun K hK=>?_|refine Step.by1 ?_|refine SBlock_exit_ne (by decide) ?_|refine cz rfl ?_|refine Fork.by2 (fun h=>?_) fun h=>?_
 |(refine AW_region_AO ?_;simp [vl])
 |(refine Split.by2 (fun h=>?_) (fun h=>?_)<;>(simp [h, vl]))
 |(apply hK;clear hK K)|refine AWh (by assumption) ?_)
    exact ⟨.inl rfl, _, _, ⟨[], rfl, trivial⟩, ⟨rfl, rfl⟩, rfl, Go.AM.Leaves.sym (by rw [hnx]; exact Nat.le_refl _) (hlx _)⟩
end Go.Proofs.YtgmlimipejcpgaaDoor
end

section
set_option linter.unusedVariables false
set_option linter.unusedSimpArgs false
namespace Go.Proofs.YtgmlimipejcpgaaDoor
open Go Go.AM Fx
def namedB (c : Int) (l : List GuardD) : Bool := anyL (fun g => decide (g.clock = c)) l
def setsB (c : Int) (l : List SetD) : Bool := anyL (fun s => decide (s.clock = c)) l
theorem namedB_nil {c : Int} : namedB c [] = false := anyL_nil
theorem namedB_cons {c : Int} {g : GuardD} {l : List GuardD} : namedB c (g :: l) = (decide (g.clock = c) || namedB c l) := anyL_cons
theorem setsB_nil {c : Int} : setsB c [] = false := anyL_nil
theorem setsB_cons {c : Int} {s : SetD} {l : List SetD} : setsB c (s :: l) = (decide (s.clock = c) || setsB c l) := anyL_cons
/-- A clock that guards name at a location, on an edge from there, or in a goal. -/
def usedPs (c : Int) (X : Bool) : List PartD → Bool
  | [] => X
  | p :: l => namedB c p.guards || usedPs c X l
def usedGs (c : Int) : List (List PartD) → Bool
  | [] => false
  | g :: l => usedPs c (usedGs c l) g
def usedEs (i : Nat) (c : Int) (X : Bool) : List EdgeD → Bool
  | [] => X
  | e :: l => (decide (e.frm = i) && namedB c e.guards) || usedEs i c X l
theorem usedPs_nil {c : Int} {X : Bool} : usedPs c X [] = X := rfl
theorem usedPs_cons {c : Int} {X : Bool} {p : PartD} {l : List PartD} : usedPs c X (p :: l) = (namedB c p.guards || usedPs c X l) := rfl
theorem usedGs_nil {c : Int} : usedGs c [] = false := rfl
theorem usedGs_cons {c : Int} {g : List PartD} {l : List (List PartD)} : usedGs c (g :: l) = usedPs c (usedGs c l) g := rfl
theorem usedEs_cons {i : Nat} {c : Int} {X : Bool} {e : EdgeD} {l : List EdgeD} : usedEs i c X (e :: l) = ((decide (e.frm = i) && namedB c e.guards) || usedEs i c X l) := rfl
def usedB (a : AutoD) (gs : List (List PartD)) (i : Nat) (c : Int) : Bool := namedB c (a.locs.getD i default).inv || usedEs i c (usedGs c gs) a.edges
end Go.Proofs.YtgmlimipejcpgaaDoor
end

section
set_option linter.unusedVariables false
set_option linter.unusedSimpArgs false
namespace Go.Proofs.YtgmlimipejcpgaaDoor
open Go Go.AM Fx
inductive Act (a : AutoD) (gs : List (List PartD)) (c : Int) : Nat → Prop
  | use {i : Nat} (hi : i < a.locs.length) (h : usedB a gs i c = true) : Act a gs c i
  | edge {e : EdgeD} (he : e ∈ a.edges) (hto : Act a gs c e.to.toNat) (hs : setsB c e.sets = false) : Act a gs c e.frm.toNat
open Classical in
noncomputable def actB (a : AutoD) (gs : List (List PartD)) (c : Int) (i : Nat) : Bool := decide (Act a gs c i)
/-- Edges that lead from and to places of the automaton. -/
def okE (a : AutoD) : Prop := ∀ e ∈ a.edges, (0 ≤ e.frm ∧ e.frm < a.locs.length) ∧ (0 ≤ e.to ∧ e.to < a.locs.length)
def falses (l : List Bool) : Nat := (l.filter fun b => !b).length
theorem falses_set : ∀ {l : List Bool} {i : Nat}, l[i]? = some false → falses (l.set i true) + 1 = falses l
  | [], i, h => by simp at h
  | b :: l, 0, h => by simp at h; subst h; simp [falses]
  | b :: l, i + 1, h => by
    have := falses_set (l := l) (i := i) (by simpa using h)
    cases b <;> simp [falses] at this ⊢ <;> omega
end Go.Proofs.YtgmlimipejcpgaaDoor
end

section
set_option linter.unusedVariables false
set_option linter.unusedSimpArgs false
namespace Go.Proofs.YtgmlimipejcpgaaDoor
open Go Go.AM Fx
end Go.Proofs.YtgmlimipejcpgaaDoor
end

section
set_option linter.unusedVariables false
set_option linter.unusedSimpArgs false
namespace Go.Proofs.YtgmlimipejcpgaaDoor
open Go Go.AM Fx
theorem edges_ok {n : NetD} (h : wholeE n = 0) : ∀ a ∈ n.autos, okE a := by
  unfold wholeE at h
  have h1 := (firstE_zero (firstE_zero (firstE_zero (firstE_zero (firstE_zero (firstE_zero h).2).2).2).2).2).1
  intro a ha e he
  unfold edgesE at h1
  by_cases hb : anyL (fun a => anyL (edgeB n a) a.edges) n.autos = true
  · rw [if_pos hb] at h1; cases h1
  · have h2 : edgeB n a e = false := by
      cases hc : edgeB n a e
      · rfl
      · exact absurd (List.any_eq_true.2 ⟨a, ha, List.any_eq_true.2 ⟨e, he, hc⟩⟩) hb
    simp only [edgeB, isLoc, Bool.or_eq_false_iff, Bool.not_eq_false', decide_eq_true_eq] at h2
    exact ⟨by omega, by omega⟩
/-- The clocks, counted from 1, that are active. -/
noncomputable def actL (a : AutoD) (gs : List (List PartD)) (loc k : Nat) : List Int := ((List.range k).filter fun c : Nat => actB a gs ((c : Int) + 1) loc).map fun c : Nat => (c : Int) + 1
theorem actL_succ {a : AutoD} {gs : List (List PartD)} {loc k : Nat} : actL a gs loc (k + 1) = if actB a gs ((k : Int) + 1) loc = true then actL a gs loc k ++ [(k : Int) + 1] else actL a gs loc k := by
  unfold actL
  rw [List.range_succ, List.filter_append, List.map_append]
  by_cases h : actB a gs ((k : Int) + 1) loc = true <;> simp [h]
theorem actL_len {a : AutoD} {gs : List (List PartD)} {loc k : Nat} : (actL a gs loc k).length ≤ k := by
  unfold actL
  rw [List.length_map]
  exact Nat.le_trans (List.length_filter_le _ _) (by simp)
def badLoc (n : NetD) (au lo : Int) : Prop := au < 0 ∨ (n.autos.length : Int) ≤ au ∨ lo < 0 ∨ ((n.autos.getD au.toNat default).locs.length : Int) ≤ lo
instance {n : NetD} {au lo : Int} : Decidable (badLoc n au lo) := by unfold badLoc; infer_instance
/-- The clocks and the error: what both tell. -/
noncomputable def clksL (n : NetD) (au lo : Int) (gs : List (List PartD)) : List Int :=
  if lookE n gs ≠ 0 then [] else if badLoc n au lo then [] else actL (n.autos.getD au.toNat default) gs lo.toNat n.clocks.length
def clksE (n : NetD) (au lo : Int) (gs : List (List PartD)) : Int :=
  if lookE n gs ≠ 0 then lookE n gs else if badLoc n au lo then 122 else 0
end Go.Proofs.YtgmlimipejcpgaaDoor
end

section
set_option linter.unusedVariables false
set_option linter.unusedSimpArgs false
namespace Go.Proofs.YtgmlimipejcpgaaDoor
open Go Go.AM Fx
theorem PCall.nilfst {f : Nat} {args vs : List V} (hc : PCall Tryd.prog GV f args (.tup (.nils :: vs))) (hv : ∀ v ∈ vs, v.isOwn = false) : PCall Tryd.prog GV f args (.tup (.own 3 [] :: vs)) :=
  ⟨hc.1, fun G w cargs ha hg => (hc.2 G w cargs ha hg).mono fun e w' ⟨c, G', h1, h2, arr, h3, h4, h5, h6⟩ => ⟨c, G', h1, h2, arr, h3, by simpa using h4, fun i v hi => by
    cases i with
    | zero =>
      simp at hi; subst hi
      have h7 : R G' w' true .nils (arr.getD 0 undef) := h5 0 .nils (by simp)
      generalize arr.getD 0 undef = x at *
      cases h7
      exact ⟨by simp, .inl ⟨rfl, rfl⟩⟩
    | succ i => exact h5 (i + 1) v (by simpa using hi), fun i j u v k hi hj hu hv' hk hk' => by
    have own0 : ∀ (i : Nat) (u : V), (V.own 3 [] :: vs)[i]? = some u → u.isOwn = true → i = 0 := fun i u hi hu => by
      cases i with
      | zero => rfl
      | succ i => rw [hv u (List.mem_of_getElem? (by simpa using hi))] at hu; cases hu
    rw [own0 i u hi hu, own0 j v hj hv']⟩⟩
end Go.Proofs.YtgmlimipejcpgaaDoor
end

section
set_option linter.unusedVariables false
set_option linter.unusedSimpArgs false
namespace Go.AM
open Go.MapKept
def imap (l : List (Int × V)) : List (V × V) := l.map fun p => (.int .i64 p.1, p.2)
def iget (l : List (Int × V)) (s : Int) : Option V := (l.find? fun p => p.1 = s).map (·.2)
def iput (l : List (Int × V)) (s : Int) (v : V) : List (Int × V) := match l.findIdx? fun p => p.1 = s with
  | some j => l.set j (s, v)
  | none => l ++ [(s, v)]
section
variable {P : Program} {ge : GEnv} {st : St} {Q : Exit → St → Prop}
variable {d : Option Tmp} {t : TypeId} {p : String} {af : Array Edge} {g : Option (Nat × Bool)}
/-- The keys of a map's entries are the ints. -/
theorem ents_keysI {G : Gh} {w : World} {l : List (Int × V)} {ents : Array MapEntry} (hs : ents.size = (imap l).length)
    (hc : ∀ (i : Nat) (e : V × V) (c : MapEntry), (imap l)[i]? = some e → ents[i]? = some c → R G w true e.1 c.key ∧ R G w true e.2 c.val) :
    (∀ x ∈ ents.toList, IsKey (.int .i64) x.key) ∧ ∀ (j : Nat) (c : MapEntry), ents[j]? = some c → ∃ q, l[j]? = some q ∧ c.key = .int .i64 q.1 ∧ R G w true q.2 c.val := by
  have key : ∀ (j : Nat) (c : MapEntry), ents[j]? = some c → ∃ q, l[j]? = some q ∧ c.key = .int .i64 q.1 ∧ R G w true q.2 c.val := fun j c hj => by
    have hlt := (Array.getElem?_eq_some_iff.1 hj).1
    have hl : j < l.length := by rw [hs] at hlt; simpa [imap] using hlt
    have he : (imap l)[j]? = some (.int .i64 l[j].1, l[j].2) := by simp [imap, hl]
    obtain ⟨h1, h2⟩ := hc j _ c he hj
    exact ⟨l[j], List.getElem?_eq_getElem hl, h1.inv_int, h2⟩
  refine ⟨fun x hx => ?_, key⟩
  obtain ⟨j, hj⟩ := List.getElem?_of_mem hx
  obtain ⟨q, _, hq, _⟩ := key j x (by simpa using hj)
  rw [hq]; simp [IsKey]
theorem find_atI {l : List (Int × V)} (hn : (l.map (·.1)).Nodup) {j : Nat} {q : Int × V} (hj : l[j]? = some q) : iget l q.1 = some q.2 ∧ l.findIdx? (fun p => p.1 = q.1) = some j := by
  induction l generalizing j with
  | nil => simp at hj
  | cons a r ih =>
    rw [List.map_cons, List.nodup_cons] at hn
    cases j with
    | zero =>
      simp at hj; subst hj
      exact ⟨by simp [iget], by simp [List.findIdx?_cons]⟩
    | succ j =>
      have hj' : r[j]? = some q := by simpa using hj
      obtain ⟨h1, h2⟩ := ih hn.2 hj'
      have hne : ¬ a.1 = q.1 := fun e => hn.1 (by rw [e]; exact List.mem_map_of_mem (List.mem_of_getElem? hj'))
      refine ⟨?_, ?_⟩
      · unfold iget at h1 ⊢; rw [List.find?_cons]; simp only [hne, decide_false]; exact h1
      · rw [List.findIdx?_cons]; simp [hne, h2]
theorem find_noneI {l : List (Int × V)} {s : Int} (h : ∀ q ∈ l, q.1 ≠ s) : iget l s = none ∧ l.findIdx? (fun p => p.1 = s) = none := by
  constructor
  · unfold iget
    rw [List.find?_eq_none.2 (fun x hx => by simpa using h x hx)]; rfl
  · rw [List.findIdx?_eq_none_iff]; intro x hx; simpa using h x hx
theorem S_lookupI {T kt et : TypeId} {x y : Operand} {b : Nat} {l : List (Int × V)} {s : Int} {zv : Value} (hT : P.underlying T = some (.map kt et)) (hkt : P.underlying kt = some (.int .i64)) (hz : (P.info? et).bind (·.zero) = some zv)
    (hx : ev ge st.tm x = .mp b) (hb : st.h[b]? = some (.map (imap l))) (hy : ev ge st.tm y = .int .i64 s) (hn : (l.map (·.1)).Nodup) :
    OpS P ge st ⟨d, .lookup T x y false, t, p, af, g⟩ ((iget l s).getD (V.ofCell zv)) st.h := by
  refine OpS_pure fun G a w hr => ?_
  have hvx := hr.ev x
  have hvy := hr.ev y
  rw [hx] at hvx
  rw [hy] at hvy
  obtain ⟨k, hck, hm⟩ := inv_mp hvx
  have hcy := hvy.inv_int
  obtain ⟨h00, k', ents, clock, hm', hh, hs, hc⟩ := hr.rh.bl b _ hb
  rw [hm] at hm'; cases hm'
  obtain ⟨hks, hkey⟩ := ents_keysI hs hc
  rcases findNow_spec (d := .int .i64) (k := .int .i64 s) (by simp [IsKey]) ents.toList 0 hks with ⟨h1, h2⟩ | ⟨j, e, h1, h2, h3⟩
  · have hnone : iget l s = none := (find_noneI fun q hq e => by
      obtain ⟨j, hj⟩ := List.getElem?_of_mem hq
      have hl := (List.getElem?_eq_some_iff.1 hj).1
      have hl2 : j < ents.size := by rw [hs]; simpa [imap] using hl
      obtain ⟨q', h4, h5, _⟩ := hkey j ents[j] (Array.getElem?_eq_getElem hl2)
      rw [hj] at h4; cases h4
      exact h2 ents[j] (Array.getElem_mem_toList hl2) (by rw [h5, e])).1
    rw [hnone]
    refine ⟨zv, ?_, .ofCell zv⟩
    simp [execOp, Instr.lookup, hck, hcy, run_underlying hT, MapKept.run_getObj_map hh, MapKept.run_checkKey (d := .int .i64) (k := .int .i64 s) hkt (by simp [IsKey]), MapKept.run_findKey hkt h1, run_zero hz, Result.andThen]
  · obtain ⟨q, h4, h5, h6⟩ := hkey j e (by simpa using h2)
    have hqs : q.1 = s := by rw [h5] at h3; cases h3; rfl
    have := (find_atI hn h4).1
    rw [hqs] at this
    rw [this]
    refine ⟨e.val, ?_, h6.weak rfl⟩
    simp [execOp, Instr.lookup, hck, hcy, run_underlying hT, MapKept.run_getObj_map hh, MapKept.run_checkKey (d := .int .i64) (k := .int .i64 s) hkt (by simp [IsKey]), MapKept.run_findKey hkt h1, Result.andThen]
theorem S_mapUpdateI {T kt et : TypeId} {x y z : Operand} {b : Nat} {l : List (Int × V)} {s : Int} (hT : P.underlying T = some (.map kt et)) (hkt : P.underlying kt = some (.int .i64))
    (hx : ev ge st.tm x = .mp b) (hb : st.h[b]? = some (.map (imap l))) (hy : ev ge st.tm y = .int .i64 s) (hn : (l.map (·.1)).Nodup) (hv : (ev ge st.tm z).isF = true) :
    OpS P ge st ⟨d, .mapUpdate T x y z, t, p, af, g⟩ .void (st.h.set b (.map (imap (iput l s (ev ge st.tm z))))) := by
  intro G a w hr
  have hvx := hr.ev x
  have hvy := hr.ev y
  have hvz := (hr.ev z).frozen hv
  rw [hx] at hvx
  rw [hy] at hvy
  obtain ⟨k, hck, hm⟩ := inv_mp hvx
  have hcy := hvy.inv_int
  obtain ⟨h00, k', ents, clock, hm', hh, hs, hc⟩ := hr.rh.bl b _ hb
  rw [hm] at hm'; cases hm'
  obtain ⟨hks, hkey⟩ := ents_keysI hs hc
  have hlt : k < w.heap.size := (Array.getElem?_eq_some_iff.1 hh).1
  have up : ∀ (ents' : Array MapEntry) (clock' : Nat) (l' : List (Int × V)), ents'.size = l'.length →
      (∀ (i : Nat) (q : Int × V) (c : MapEntry), l'[i]? = some q → ents'[i]? = some c → c.key = .int .i64 q.1 ∧ R G w true q.2 c.val) →
      RH P ge G (st.h.set b (.map (imap l'))) { w with heap := w.heap.setIfInBounds k (.map ents' clock') } ∧ Ext G st.h w G (st.h.set b (.map (imap l'))) { w with heap := w.heap.setIfInBounds k (.map ents' clock') } := by
    intro ents' clock' l' h1 h2
    have hother : ∀ k', k' ≠ k → (w.heap.setIfInBounds k (.map ents' clock'))[k']? = w.heap[k']? := (heap_set hh).2
    have le : GLe G w G { w with heap := w.heap.setIfInBounds k (.map ents' clock') } := ⟨fun _ => Nat.le_refl _, fun k' o ho => by
      by_cases e : k' = k
      · subst e
        simp [World.cell?, hh, (heap_set hh).1]
      · exact cell_eq (hother k' e), Nat.le_refl _, fun _ _ => Nat.le_refl _, fun _ _ _ _ => rfl, fun _ _ => rfl, fun _ _ _ _ => rfl⟩
    refine RH_upd hr.rh hb hm (by simp) hother rfl ⟨rfl, rfl⟩ le ⟨h00, k, ents', clock', hm, (heap_set hh).1, by simp [imap, h1], fun i e c he hcc => ?_⟩ hm
    rw [imap, List.getElem?_map] at he
    obtain ⟨q, hq, rfl⟩ := Option.map_eq_some_iff.1 he
    obtain ⟨h3, h4⟩ := h2 i q c hq hcc
    rw [h3]
    exact ⟨.int, h4.mono le⟩
  rcases findNow_spec (d := .int .i64) (k := .int .i64 s) (by simp [IsKey]) ents.toList 0 hks with ⟨h1, h2⟩ | ⟨j, e, h1, h2, h3⟩
  · have hnone : l.findIdx? (fun p => p.1 = s) = none := (find_noneI fun q hq e => by
      obtain ⟨j, hj⟩ := List.getElem?_of_mem hq
      have hl := (List.getElem?_eq_some_iff.1 hj).1
      have hl2 : j < ents.size := by rw [hs]; simpa [imap] using hl
      obtain ⟨q', h4, h5, _⟩ := hkey j ents[j] (Array.getElem?_eq_getElem hl2)
      rw [hj] at h4; cases h4
      exact h2 ents[j] (Array.getElem_mem_toList hl2) (by rw [h5, e])).2
    have hsz : ents.size = l.length := by simpa [imap] using hs
    obtain ⟨r1, r2⟩ := up (ents.push { key := .int .i64 s, val := a.eval z, born := clock }) (clock + 1) (l ++ [(s, ev ge st.tm z)]) (by simp [hsz]) (fun i q c hq hcc => by
      rw [Array.getElem?_push] at hcc
      split at hcc
      · rename_i e
        cases hcc
        rw [hsz] at e
        subst e
        rw [List.getElem?_append_right (Nat.le_refl _), Nat.sub_self] at hq
        cases hq
        exact ⟨rfl, hvz⟩
      · have hi := (Array.getElem?_eq_some_iff.1 hcc).1
        rw [List.getElem?_append_left (by omega)] at hq
        obtain ⟨q', h4, h5, h6⟩ := hkey i c hcc
        rw [hq] at h4; cases h4
        exact ⟨h5, h6⟩)
    refine ⟨undef, G, { w with heap := w.heap.setIfInBounds k (.map (ents.push { key := .int .i64 s, val := a.eval z, born := clock }) (clock + 1)) }, .inr ⟨?_, rfl⟩, ?_, .void, ?_⟩
    rotate_left
    · unfold iput; rw [hnone]; exact r1
    · unfold iput; rw [hnone]; exact r2
    · simp [execOp, Instr.mapUpdate, hck, hcy, run_underlying hT, MapKept.run_getObj_map hh, MapKept.run_checkKey (d := .int .i64) (k := .int .i64 s) hkt (by simp [IsKey]), MapKept.run_findKey hkt h1, MapKept.run_setObj_map _ hh, Result.andThen]
  · have hj : ents[j]? = some e := by simpa using h2
    obtain ⟨q, h4, h5, h6⟩ := hkey j e hj
    have hqs : q.1 = s := by rw [h5] at h3; cases h3; rfl
    have hfi := (find_atI hn h4).2
    rw [hqs] at hfi
    have hsz : ents.size = l.length := by simpa [imap] using hs
    have hjl := (List.getElem?_eq_some_iff.1 h4).1
    obtain ⟨r1, r2⟩ := up (ents.modify j fun e => { e with key := .int .i64 s, val := a.eval z }) clock (l.set j (s, ev ge st.tm z)) (by simp [hsz]) (fun i q' c hq hcc => by
      rw [Array.getElem?_modify] at hcc
      rw [List.getElem?_set] at hq
      split at hcc
      · rename_i e'
        subst e'
        rw [if_pos rfl, if_pos hjl] at hq
        rw [hj] at hcc
        cases hcc; cases hq
        exact ⟨rfl, hvz⟩
      · rename_i e'
        rw [if_neg e'] at hq
        obtain ⟨q'', h7, h8, h9⟩ := hkey i c hcc
        rw [hq] at h7; cases h7
        exact ⟨h8, h9⟩)
    refine ⟨undef, G, { w with heap := w.heap.setIfInBounds k (.map (ents.modify j fun e => { e with key := .int .i64 s, val := a.eval z }) clock) }, .inr ⟨?_, rfl⟩, ?_, .void, ?_⟩
    rotate_left
    · unfold iput; rw [hfi]; exact r1
    · unfold iput; rw [hfi]; exact r2
    · simp [execOp, Instr.mapUpdate, hck, hcy, run_underlying hT, MapKept.run_getObj_map hh, MapKept.run_checkKey (d := .int .i64) (k := .int .i64 s) hkt (by simp [IsKey]), MapKept.run_findKey hkt h1, hj, h3, MapKept.run_keyThatStays (d := .int .i64) (k := .int .i64 s) (by simp [IsKey]), MapKept.run_setObj_map _ hh, Result.andThen]
end
end Go.AM
end

section
set_option linter.unusedVariables false
set_option linter.unusedSimpArgs false
namespace Go.AM
section
variable {P : Program} {ge : GEnv} {st : St} {Q : Exit → St → Prop}
theorem AW_loopG {σ : Type} (S : σ → St) (I : σ → Prop) (μ : σ → Nat) {c : Code} {x0 : σ} (h0 : I x0) (hst : Weak st (S x0)) (hlen : ∀ x, I x → st.h.length ≤ (S x).h.length)
    (round : ∀ x, I x → AW P ge c (SThen (fun s => ∃ x', I x' ∧ μ x' < μ x ∧ Weak s (S x')) Q) (S x)) : AW P ge (.loop c) Q st := by
  intro G0 a0 w0 hr0 b k cs
  have key : ∀ (n : Nat) (x : σ) (G : Gh) (a : Act) (w : World), μ x = n → I x → Rep P ge G (S x) a w → Ext G0 st.h w0 G (S x).h w →
      ∃ e a' w', CPost P ge Q G0 st.h w0 e a' w' ∧ Arrives P (lone (b.at a (.code c :: .inLoop c :: k)) cs w) b k cs e a' w' := by
    intro n
    induction n using Nat.strongRecOn with
    | _ n ih =>
      intro x G a w hn hI hr hx
      obtain ⟨e, a1, w1, hq, harr⟩ := round x hI G a w hr b (.inLoop c :: k) cs
      obtain ⟨G', s, q, r, ex⟩ := hq
      cases e with
      | normal =>
        obtain ⟨x', hI', hlt, hw⟩ := q
        have hl := hlen x' hI'
        obtain ⟨e2, a2, w2, hq2, harr2⟩ := ih (μ x') (hn ▸ hlt) x' _ a1 w1 rfl hI' (hw.rep r) (Ext.cut hw (hx.trans ex) (by rw [← hr0.rh.n]; exact hl))
        exact ⟨e2, a2, w2, hq2, .of_steps (Steps.trans harr (.one step_inLoop)) harr2⟩
      | exit id => exact ⟨_, a1, w1, ⟨G', s, q, r, hx.trans ex⟩, .pass (x := .inLoop c) rfl (fun _ _ => .inl (by simp)) harr⟩
      | goto l => exact ⟨_, a1, w1, ⟨G', s, q, r, hx.trans ex⟩, .pass (x := .inLoop c) rfl (fun _ _ => .inl (by simp)) harr⟩
      | ret => exact ⟨_, a1, w1, ⟨G', s, q, r, hx.trans ex⟩, .pass (x := .inLoop c) rfl (fun _ _ => .inl (by simp)) harr⟩
      | panic ch => exact ⟨_, a1, w1, ⟨G', s, q, r, hx.trans ex⟩, .pass (x := .inLoop c) rfl (fun _ _ => .inl (by simp)) harr⟩
      | outgrown => exact ⟨_, a1, w1, ⟨G', s, q, r, hx.trans ex⟩, .pass (x := .inLoop c) rfl (fun _ _ => .inl (by simp)) harr⟩
  obtain ⟨e, a', w', hq, harr⟩ := key _ x0 _ a0 w0 rfl h0 (hst.rep hr0) (Ext.cut hst (.refl _ _ _) (by rw [← hr0.rh.n]; exact hlen x0 h0))
  exact ⟨e, a', w', hq, .of_steps (.one step_loop) harr⟩
theorem AW_loopGL {σ : Type} (L : List Nat) (vs : σ → List (Nat × V)) (H : σ → List B) (I : σ → Prop) (μ : σ → Nat) {c : Code} (x0 : σ) (h0 : I x0)
    (hst : Weak st (headSt st L (vs x0) (H x0))) (hlen : ∀ x, I x → st.h.length ≤ (H x).length)
    (round : ∀ x, I x → AW P ge c (SThen (fun s => ∃ x', I x' ∧ μ x' < μ x ∧ Weak s (headSt st L (vs x') (H x'))) Q) (headSt st L (vs x) (H x))) : AW P ge (.loop c) Q st :=
  AW_loopG (fun x => headSt st L (vs x) (H x)) I μ h0 hst hlen round
end
end Go.AM
end
