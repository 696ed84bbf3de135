/-
  YtgmlimipejcpgaaDoorCb01: steps of the proof of a law of the program: what these texts prove holds under the hypotheses that their theorems name, and no others.
-/
import Derived.Test.YtgmlimipejcpgaaDoorCb00
import Derived.Test.YtgmlimipejcpgaaDoorCd20
section
set_option linter.unusedSimpArgs false
set_option linter.unusedVariables false
namespace Go.Proofs.YtgmlimipejcpgaaDoor
open Go Go.AM Fx
theorem raisePs_len {so : Int → Bool} {l : List PartD} {o : List Int} : (raisePs so l o).length = o.length := raiseL_len
def numG (n : NetD) (so : Int → Bool) : List (List PartD) → List Int → Option (List Int)
  | [], o => some o
  | g :: r, o => if goalE n g ≠ 0 then none else numG n so r (raisePs so g o)
theorem numG_nil {n : NetD} {so : Int → Bool} {o : List Int} : numG n so [] o = some o := rfl
theorem numG_cons {n : NetD} {so : Int → Bool} {g : List PartD} {r : List (List PartD)} {o : List Int} : numG n so (g :: r) o = if goalE n g ≠ 0 then none else numG n so r (raisePs so g o) := rfl
def numbE (n : NetD) (so : Int → Bool) (gs : List (List PartD)) : Option (List Int) :=
  if netE n ≠ 0 then none else numG n so gs (raiseL so (guardsL n) (List.replicate n.clocks.length (-1)))
/-- Numbers, or nil. -/
def numV : Option (List Int) → V
  | none => .nils
  | some o => .own 3 (o.map fun k => [V.int .i64 k])
theorem set_next {c : List Int} {i : Nat} (h : ∀ j, j < i → c[j]? = some (-1)) (hi : i < c.length) : ∀ j, j < i + 1 → (c.set i (-1))[j]? = some (-1) := fun j hj => by
  rw [List.getElem?_set]
  by_cases e : i = j
  · subst e; simp [hi]
  · rw [if_neg e]; exact h j (by omega)
theorem all_set {c : List Int} {N : Nat} (hN : c.length = N) (h : ∀ j, j < N → c[j]? = some (-1)) : c = List.replicate N (-1) := by
  apply List.ext_getElem?
  intro i
  by_cases hi : i < N
  · rw [h i hi]; simp [hi]
  · rw [List.getElem?_eq_none (by omega), List.getElem?_eq_none (by simp; omega)]
set_option maxRecDepth 20000 in
set_option maxHeartbeats 16000000 in
theorem c_numbers (n : NetD) (hn : n.ok) (fso : Nat) (so : Int → Bool) (hso : ∀ c, PC fso [.int .u8 c] (.bool (so c))) (gs : List (List PartD)) (hgl : gs.length ≤ 1048577) (hgs : ∀ g ∈ gs, okGoal g) :
    PC 22 [.agg n.cells, gsV gs, .fn (.func fso) [] []] (numV (numbE n so gs)) := by
  have hN := c_Net n hn
  have hcl : n.clocks.length ≤ 1048576 := hn.1.1
  obtain ⟨r, hr⟩ : ∃ r, numbE n so gs = r := ⟨_, rfl⟩
  rw [hr]
  unfold numbE at hr
  simp only [vl, NetD.cells] at hN
  refine pB Tryd.func22 rfl (by decide) Tryd.ntmps22 (by simp) Tryd.results22 ?_
  by_cases hz : netE n = 0
  · rw [if_neg (by simp [hz])] at hr
    rw [hz] at hN
    have hgd := whole_guards (netE_whole hz)
    have b1 : (n.clocks.length : Int) * 8 ≤ 281474976710656 := by omega
    repeat' (first
 |refine aK fun K hK=>?_|refine Step.by1 ?_|refine sE (by decide) ?_|refine cz rfl ?_|refine Fork.by2 (fun h=>?_) fun h=>?_
 |((first|refine aR ?_|refine aC (f:=10) rfl rfl (hN) rfl rfl rfl ?_);simp [gsV, vl, NetD.cells, b1])
 |(refine Split.by2 (fun h=>?_) (fun h=>?_)<;>(simp [h, gsV, vl, NetD.cells, b1]))
 |(apply hK;clear hK K)|refine AWh ‹_› ?_)
    refine aL [1, 3, 5, 7, 22] (fun s : Nat × List Int => [(23, .int .i64 s.1)]) (fun s => [.var n.cells, .var [.fn (.func fso) [] []], .row 3 0 0 true (s.2.map fun k => [V.int .i64 k]), .var [.ref 2 0 0 n.clocks.length]]) (fun s => s.1 ≤ n.clocks.length ∧ s.2.length = n.clocks.length ∧ ∀ j, j < s.1 → s.2[j]? = some (-1)) (fun s => n.clocks.length - s.1) (0, List.replicate n.clocks.length 0) ⟨Nat.zero_le _, by simp, fun j hj => by omega⟩ (by apply Weak.mk' <;> simp [vl, NetD.cells]) (fun _ _ => rfl) ?_
    rintro ⟨i, c⟩ ⟨hi, hlen, hset⟩
    simp only at hi hlen hset
    by_cases hlt : i < n.clocks.length
    · have hlt' : (i : Int) < n.clocks.length := by omega
      have hic : i < c.length := by omega
      have w1 : IntKind.i64.wrap ((i : Int) + 1) = i + 1 := wI (by omega) (by omega)
      repeat' (first
 |refine aK fun K hK=>?_|refine Step.by1 ?_|refine sE (by decide) ?_|refine cz rfl ?_|refine Fork.by2 (fun h=>?_) fun h=>?_
 |(refine aR ?_;simp [gsV, vl, NetD.cells, hlt, hlt', hic, hlen, w1])
 |(refine Split.by2 (fun h=>?_) (fun h=>?_)<;>(simp [h, gsV, vl, NetD.cells, hlt, hlt', hic, hlen, w1]))
 |(apply hK;clear hK K)|refine AWh ‹_› ?_)
      refine ⟨i + 1, c.set i (-1), ⟨by omega, by simp [hlen], set_next hset hic⟩, by omega, ?_⟩
      apply Weak.mk' <;> simp [vl, NetD.cells]
    · have hlt' : ¬ (i : Int) < n.clocks.length := by omega
      have hc := all_set hlen (fun j hj => hset j (by omega))
      rw [← hc] at hr
      clear hset
      have hS := c_searchG n hn fso so hso c (by omega) (by rw [hlen]; exact hgd)
      have hl2 : (raiseL so (guardsL n) c).length = n.clocks.length := by rw [raiseL_len, hlen]
      generalize raiseL so (guardsL n) c = o at *
      clear hc
      repeat' (first
 |refine aK fun K hK=>?_|refine Step.by1 ?_|refine sE (by decide) ?_|refine cz rfl ?_|refine Fork.by2 (fun h=>?_) fun h=>?_
 |(refine aR ?_;simp [gsV, vl, NetD.cells, hlt, hlt'])
 |(refine Split.by2 (fun h=>?_) (fun h=>?_)<;>(simp [h, gsV, vl, NetD.cells, hlt, hlt']))
 |(refine aG (f := 63) rfl rfl (hS.imp (by simp [vl, NetD.cells]) (by simp [H5, NetD.cells, vl, hlen])) rfl (fun v h' hq => ?_); obtain ⟨rfl, rfl⟩ := hq; simp [vl, H5, NetD.cells])
 |(apply hK;clear hK K)|refine AWh ‹_› ?_)
      refine AW_range (r := r) gs 37 [3, 7, 9, 35, 36] (fun c : List Int => []) (fun c => H5 n fso c) (fun i c => c.length = n.clocks.length) (numG n so) o
        hr hl2 (by apply Weak.mk' <;> simp [vl, NetD.cells, H5]) (fun _ _ _ => by simp [H5_len, H5]) ?_ ?_
      · intro k q g _ hkt hg hJ hF
        rw [numG_cons] at hF
        have hgo := hgs g (hg ▸ List.getElem_mem hkt)
        have hc := c_Goal n hn g hgo
        obtain ⟨hg1, hg2⟩ := hgo
        have hgg := goal_guards (n := n) (g := g)
        have hkt' : (k : Int) < gs.length := by omega
        have w1 : IntKind.i64.wrap ((k : Int) + 1) = k + 1 := wI (by omega) (by omega)
        simp only [vl, NetD.cells] at hc
        generalize goalE n g = ge at *
        by_cases hge : ge = 0
        · rw [if_neg (by simp [hge])] at hF
          rw [hge] at hc
          have hgg := hgg hge
          repeat' (first
 |refine aK fun K hK=>?_|refine Step.by1 ?_|refine sE (by decide) ?_|refine cz rfl ?_|refine Fork.by2 (fun h=>?_) fun h=>?_
 |((first|refine aR ?_|refine aC (f:=66) rfl rfl (hc) rfl rfl rfl ?_);simp [gsV, vl, NetD.cells, H5, hkt, hkt', hg])
 |(refine Split.by2 (fun h=>?_) (fun h=>?_)<;>(simp [h, gsV, vl, NetD.cells, H5, hkt, hkt', hg]))
 |(apply hK;clear hK K)|refine AWh ‹_› ?_)
          obtain ⟨o2, ho2⟩ : ∃ o2, raisePs so g q = o2 := ⟨_, rfl⟩
          have hl3 : o2.length = n.clocks.length := by rw [← ho2, raisePs_len, hJ]
          rw [ho2] at hF
          refine AW_range (r := o2) g 47 [3, 7, 9, 35, 36, 37, 45, 46] (fun c : List Int => []) (fun c => H5 n fso c) (fun i c => c.length = n.clocks.length) (raisePs so) q
            ho2 hJ (by apply Weak.mk' <;> simp [vl, NetD.cells, H5]) (fun _ _ _ => by simp [H5_len, H5]) ?_ ?_
          · intro m q2 p _ hmt hp hJ2 hG
            rw [raisePs_cons] at hG
            have hmp : p ∈ g := hp ▸ List.getElem_mem hmt
            have hR := c_raise n fso so hso p.guards q2 [.var p.cells] (by omega) (hg2 p hmp).2.1.1 (fun x hx => by rw [hJ2]; exact hgg p hmp x hx) (by simp [PartD.cells, vl])
            have hl4 : (raiseL so p.guards q2).length = n.clocks.length := by rw [raiseL_len, hJ2]
            have hmt' : (m : Int) < g.length := by omega
            have w2 : IntKind.i64.wrap ((m : Int) + 1) = m + 1 := wI (by omega) (by omega)
            generalize raiseL so p.guards q2 = q' at *
            repeat' (first
 |refine aK fun K hK=>?_|refine Step.by1 ?_|refine sE (by decide) ?_|refine cz rfl ?_|refine Fork.by2 (fun h=>?_) fun h=>?_
 |(refine aR ?_;simp [gsV, vl, NetD.cells, PartD.cells, H5, hmt, hmt', hp, w2])
 |(refine Split.by2 (fun h=>?_) (fun h=>?_)<;>(simp [h, gsV, vl, NetD.cells, PartD.cells, H5, hmt, hmt', hp, w2]))
 |(refine aG (f := 62) rfl rfl (hR.imp (by simp [vl]) (by simp [H5, NetD.cells, PartD.cells, vl])) rfl (fun v h' hq => ?_); obtain ⟨rfl, rfl⟩ := hq; simp [vl, H5, NetD.cells, PartD.cells])
 |(apply hK;clear hK K)|refine AWh ‹_› ?_)
            exact ⟨q', hG, hl4, by apply Weak.mk' <;> simp [vl, NetD.cells, H5]⟩
          · intro q2 hJ2 hG
            rw [raisePs_nil] at hG
            subst hG
            repeat' (first
 |refine aK fun K hK=>?_|refine Step.by1 ?_|refine sE (by decide) ?_|refine cz rfl ?_|refine Fork.by2 (fun h=>?_) fun h=>?_
 |(refine aR ?_;simp [gsV, vl, NetD.cells, H5, w1])
 |(refine Split.by2 (fun h=>?_) (fun h=>?_)<;>(simp [h, gsV, vl, NetD.cells, H5, w1]))
 |(apply hK;clear hK K)|refine AWh ‹_› ?_)
            exact ⟨q2, hF, hJ2, by apply Weak.mk' <;> simp [vl, NetD.cells, H5]⟩
        · rw [if_pos hge] at hF
          subst hF
          repeat' (first
 |refine aK fun K hK=>?_|refine Step.by1 ?_|refine sE (by decide) ?_|refine cz rfl ?_|refine Fork.by2 (fun h=>?_) fun h=>?_
 |((first|refine aR ?_|refine aC (f:=66) rfl rfl (hc) rfl rfl rfl ?_);simp [gsV, vl, NetD.cells, H5, hkt, hkt', hg, hge])
 |(refine Split.by2 (fun h=>?_) (fun h=>?_)<;>(simp [h, gsV, vl, NetD.cells, H5, hkt, hkt', hg, hge]))
 |(apply hK;clear hK K)|refine AWh ‹_› ?_)
          exact r1q (cE rfl rfl)
      · intro q hJ hF
        rw [numG_nil] at hF
        subst hF
        repeat' (first
 |refine aK fun K hK=>?_|refine Step.by1 ?_|refine sE (by decide) ?_|refine cz rfl ?_|refine Fork.by2 (fun h=>?_) fun h=>?_
 |(refine aR ?_;simp [gsV, vl, NetD.cells, H5])
 |(refine Split.by2 (fun h=>?_) (fun h=>?_)<;>(simp [h, gsV, vl, NetD.cells, H5]))
 |(apply hK;clear hK K)|refine AWh ‹_› ?_)
        exact r1q (.inr (.inl (conv1_own rfl (by simp))))
  · rw [if_pos hz] at hr
    subst hr
    repeat' (first
 |refine aK fun K hK=>?_|refine Step.by1 ?_|refine sE (by decide) ?_|refine cz rfl ?_|refine Fork.by2 (fun h=>?_) fun h=>?_
 |((first|refine aR ?_|refine aC (f:=10) rfl rfl (hN) rfl rfl rfl ?_);simp [gsV, vl, NetD.cells, hz])
 |(refine Split.by2 (fun h=>?_) (fun h=>?_)<;>(simp [h, gsV, vl, NetD.cells, hz]))
 |(apply hK;clear hK K)|refine AWh ‹_› ?_)
    exact r1q (cE rfl rfl)
end Go.Proofs.YtgmlimipejcpgaaDoor
end
section
set_option linter.unusedVariables false
set_option linter.unusedSimpArgs false
namespace Go.AM
section
variable {P : Program} {ge : GEnv} {st : St} {Q : Exit → St → Prop}
/-- A nil result as an empty one. -/
theorem AW_retemp (s : Nat) (hs : lk st.tm s = .nils) (h : Q .ret ⟨st.n, (s, .vec [] 0) :: st.tm, st.h⟩) : AW P ge .ret Q st := fun G a w hr =>
  wp_ret ⟨G, _, h, ⟨hr.rh, fun t => by
    simp only [lk]
    split
    · rename_i e
      have h1 := hr.tm s
      rw [hs] at h1
      subst e
      have := inv_nils h1
      rw [this]; exact .emp (Nat.zero_le _)
    · exact hr.tm t, hr.n, hr.d⟩, .refl _ _ _⟩
end
end Go.AM
end
section
set_option linter.unusedSimpArgs false
set_option linter.unusedVariables false
namespace Go.Proofs.YtgmlimipejcpgaaDoor
open Go Go.AM Fx
set_option maxHeartbeats 4000000 in
theorem c_CloneS (l : List ByteArray) (hl : l.length ≤ 1048576) : PC 24 [vl (fun x : ByteArray => [V.str x]) l] (vl (fun x : ByteArray => [V.str x]) l) := by
  refine pB Tryd.func24 rfl (by decide) Tryd.ntmps24 (by simp) Tryd.results24 ?_
  have b1 : l.length * 16 ≤ 140737488355328 := by omega
  have tk : List.take l.length (l.map (fun x : ByteArray => [V.str x])) = l.map (fun x : ByteArray => [V.str x]) := List.take_of_length_le (by simp)
  repeat' (first
 |(refine AW_retemp 2 rfl ?_)
 |(refine AW_region (id := 1) ?_; refine AS_op rfl rfl S_move ?_; refine AS_eqnil Tryd.underlying22 (by rfl) (by rfl) (by rfl) (fun b hb => ?_); refine AS_nil ?_; cases b)
 |refine aK fun K hK=>?_|refine Step.by1 ?_|refine sE (by decide) ?_|refine cz rfl ?_|refine Fork.by2 (fun h=>?_) fun h=>?_
 |(refine aR ?_;simp [vl, b1, tk])
 |(refine Split.by2 (fun h=>?_) (fun h=>?_)<;>(simp [h, vl, b1, tk]))
 |(apply hK;clear hK K)|refine AWh ‹_› ?_)
  · exact r1q (.inl ⟨1, by simp [Go.AM.frz, vl], rfl⟩)
  · have := List.eq_nil_of_length_eq_zero (hb rfl)
    subst this
    exact r1q (cE rfl rfl)
set_option maxHeartbeats 4000000 in
theorem c_CloneV (l : List VarD) (hl : l.length ≤ 1048576) : PC 25 [vl VarD.cells l] (vl VarD.cells l) := by
  refine pB Tryd.func25 rfl (by decide) Tryd.ntmps25 (by simp) Tryd.results25 ?_
  have b1 : l.length * 40 ≤ 140737488355328 := by omega
  have tk : List.take l.length (l.map VarD.cells) = l.map VarD.cells := List.take_of_length_le (by simp)
  repeat' (first
 |(refine AW_retemp 2 rfl ?_)
 |(refine AW_region (id := 1) ?_; refine AS_op rfl rfl S_move ?_; refine AS_eqnil Tryd.underlying23 (by rfl) (by rfl) (by rfl) (fun b hb => ?_); refine AS_nil ?_; cases b)
 |refine aK fun K hK=>?_|refine Step.by1 ?_|refine sE (by decide) ?_|refine cz rfl ?_|refine Fork.by2 (fun h=>?_) fun h=>?_
 |(refine aR ?_;simp [vl, b1, tk])
 |(refine Split.by2 (fun h=>?_) (fun h=>?_)<;>(simp [h, vl, b1, tk]))
 |(apply hK;clear hK K)|refine AWh ‹_› ?_)
  · exact r1q (.inl ⟨1, by simp [Go.AM.frz, vl], rfl⟩)
  · have := List.eq_nil_of_length_eq_zero (hb rfl)
    subst this
    exact r1q (cE rfl rfl)
set_option maxHeartbeats 4000000 in
theorem c_CloneG (l : List GuardD) (hl : l.length ≤ 1048576) : PC 30 [vl GuardD.cells l] (vl GuardD.cells l) := by
  refine pB Tryd.func30 rfl (by decide) Tryd.ntmps30 (by simp) Tryd.results30 ?_
  have b1 : l.length * 32 ≤ 140737488355328 := by omega
  have tk : List.take l.length (l.map GuardD.cells) = l.map GuardD.cells := List.take_of_length_le (by simp)
  repeat' (first
 |(refine AW_retemp 2 rfl ?_)
 |(refine AW_region (id := 1) ?_; refine AS_op rfl rfl S_move ?_; refine AS_eqnil Tryd.underlying43 (by rfl) (by rfl) (by rfl) (fun b hb => ?_); refine AS_nil ?_; cases b)
 |refine aK fun K hK=>?_|refine Step.by1 ?_|refine sE (by decide) ?_|refine cz rfl ?_|refine Fork.by2 (fun h=>?_) fun h=>?_
 |(refine aR ?_;simp [vl, b1, tk])
 |(refine Split.by2 (fun h=>?_) (fun h=>?_)<;>(simp [h, vl, b1, tk]))
 |(apply hK;clear hK K)|refine AWh ‹_› ?_)
  · exact r1q (.inl ⟨1, by simp [Go.AM.frz, vl], rfl⟩)
  · have := List.eq_nil_of_length_eq_zero (hb rfl)
    subst this
    exact r1q (cE rfl rfl)
set_option maxHeartbeats 4000000 in
theorem c_CloneN (l : List NodeD) (hl : l.length ≤ 1048576) : PC 33 [vl NodeD.cells l] (vl NodeD.cells l) := by
  refine pB Tryd.func33 rfl (by decide) Tryd.ntmps33 (by simp) Tryd.results33 ?_
  have b1 : l.length * 16 ≤ 140737488355328 := by omega
  have tk : List.take l.length (l.map NodeD.cells) = l.map NodeD.cells := List.take_of_length_le (by simp)
  repeat' (first
 |(refine AW_retemp 2 rfl ?_)
 |(refine AW_region (id := 1) ?_; refine AS_op rfl rfl S_move ?_; refine AS_eqnil Tryd.underlying46 (by rfl) (by rfl) (by rfl) (fun b hb => ?_); refine AS_nil ?_; cases b)
 |refine aK fun K hK=>?_|refine Step.by1 ?_|refine sE (by decide) ?_|refine cz rfl ?_|refine Fork.by2 (fun h=>?_) fun h=>?_
 |(refine aR ?_;simp [vl, b1, tk])
 |(refine Split.by2 (fun h=>?_) (fun h=>?_)<;>(simp [h, vl, b1, tk]))
 |(apply hK;clear hK K)|refine AWh ‹_› ?_)
  · exact r1q (.inl ⟨1, by simp [Go.AM.frz, vl], rfl⟩)
  · have := List.eq_nil_of_length_eq_zero (hb rfl)
    subst this
    exact r1q (cE rfl rfl)
set_option maxHeartbeats 4000000 in
theorem c_eachSet (f : Nat) (l : List SetD) (hl : l.length ≤ 1048576) (hf : ∀ x ∈ l, PC f [.agg x.cells] (.agg x.cells)) : PC 34 [vl SetD.cells l, .fn (.func f) [] []] (vl SetD.cells l) := by
  refine pB Tryd.func34 rfl (by decide) Tryd.ntmps34 (by simp) Tryd.results34 ?_
  repeat' (first
 |refine aK fun K hK=>?_|refine Step.by1 ?_|refine sE (by decide) ?_|refine cz rfl ?_|refine Fork.by2 (fun h=>?_) fun h=>?_
 |(refine aR ?_;simp [vl])
 |(refine Split.by2 (fun h=>?_) (fun h=>?_)<;>(simp [h, vl]))
 |(apply hK;clear hK K)|refine AWh ‹_› ?_)
  refine AW_nilrow 5 82 rfl (by simp) ?_
  refine aL [1, 8, 9] (fun i : Nat => [(5, .ref 0 i 0 i), (10, .int .i64 i)]) (fun i => [.row 82 i 0 true ((l.take i).map SetD.cells)]) (fun i => i ≤ l.length) (fun i => l.length - i) 0 (Nat.zero_le _) (by apply Weak.mk' <;> simp [vl]) (fun _ _ => rfl) ?_
  intro i hi
  by_cases hlt : i < l.length
  · obtain ⟨x, hx⟩ : ∃ x, l[i] = x := ⟨_, rfl⟩
    have hc := hf x (hx ▸ List.getElem_mem hlt)
    have hlt' : (i : Int) < l.length := by omega
    have w1 : IntKind.i64.wrap ((i : Int) + 1) = i + 1 := wI (by omega) (by omega)
    have hby : (i + 1) * 48 ≤ 140737488355328 := by omega
    have hli : min i l.length = i := by omega
    have hts : List.take (i + 1) (l.map SetD.cells) = List.take i (l.map SetD.cells) ++ [x.cells] := by rw [List.take_add_one, List.getElem?_map, List.getElem?_eq_getElem hlt, hx]; simp
    simp only [SetD.cells, vl] at hc hts
    repeat' (first
 |refine aK fun K hK=>?_|refine Step.by1 ?_|refine sE (by decide) ?_|refine cz rfl ?_|refine Fork.by2 (fun h=>?_) fun h=>?_
 |(refine aR ?_;simp [vl, SetD.cells, hlt, hlt', hx, w1, hby, hli])
 |(refine Split.by2 (fun h=>?_) (fun h=>?_)<;>(simp [h, vl, SetD.cells, hlt, hlt', hx, w1, hby, hli]))
 |(refine aC (f := f) rfl rfl hc rfl rfl rfl ?_; simp [vl, SetD.cells, hby, hli])
 |(apply hK;clear hK K)|refine AWh ‹_› ?_)
    refine ⟨i + 1, by omega, by omega, ?_⟩
    apply Weak.mk' <;> simp [vl, hts]
  · obtain rfl : i = l.length := by omega
    repeat' (first
 |refine aK fun K hK=>?_|refine Step.by1 ?_|refine sE (by decide) ?_|refine cz rfl ?_|refine Fork.by2 (fun h=>?_) fun h=>?_
 |(refine aR ?_;simp [vl])
 |(refine Split.by2 (fun h=>?_) (fun h=>?_)<;>(simp [h, vl]))
 |(apply hK;clear hK K)|refine AWh ‹_› ?_)
    exact r1q (.inl ⟨1, by simp [Go.AM.frz, vl], rfl⟩)
set_option maxHeartbeats 4000000 in
theorem c_CopySet (x : SetD) (hx : x.ok) : PC 35 [.agg x.cells] (.agg x.cells) := by
  have hc := c_CloneN x.expr hx.2.2.2.1
  simp only [vl] at hc
  refine pB Tryd.func35 rfl (by decide) Tryd.ntmps35 (by simp) Tryd.results35 ?_
  repeat' (first
 |refine aK fun K hK=>?_|refine Step.by1 ?_|refine sE (by decide) ?_|refine cz rfl ?_|refine Fork.by2 (fun h=>?_) fun h=>?_
 |((first|refine aR ?_|refine aC (f:=33) rfl rfl (hc) rfl rfl rfl ?_);simp [vl, SetD.cells])
 |(refine Split.by2 (fun h=>?_) (fun h=>?_)<;>(simp [h, vl, SetD.cells]))
 |(apply hK;clear hK K)|refine AWh ‹_› ?_)
  exact retqc rfl (by simp) (cE (by simp [vl, SetD.cells]) (by simp))
set_option maxHeartbeats 4000000 in
theorem c_CopyLoc (x : LocD) (hx : x.ok) : PC 29 [.agg x.cells] (.agg x.cells) := by
  have hc := c_CloneG x.inv hx.2.2.1
  simp only [vl] at hc
  refine pB Tryd.func29 rfl (by decide) Tryd.ntmps29 (by simp) Tryd.results29 ?_
  repeat' (first
 |refine aK fun K hK=>?_|refine Step.by1 ?_|refine sE (by decide) ?_|refine cz rfl ?_|refine Fork.by2 (fun h=>?_) fun h=>?_
 |((first|refine aR ?_|refine aC (f:=30) rfl rfl (hc) rfl rfl rfl ?_);simp [vl, LocD.cells])
 |(refine Split.by2 (fun h=>?_) (fun h=>?_)<;>(simp [h, vl, LocD.cells]))
 |(apply hK;clear hK K)|refine AWh ‹_› ?_)
  exact retqc rfl (by simp) (cE (by simp [vl, LocD.cells]) (by simp))
set_option maxHeartbeats 4000000 in
theorem c_CopyEdge (x : EdgeD) (hx : x.ok) : PC 32 [.agg x.cells] (.agg x.cells) := by
  have hg := c_CloneG x.guards hx.2.2.1.1
  have ht := c_CloneN x.test hx.2.2.2.1.1
  have hs := c_eachSet 35 x.sets hx.2.2.2.2.2.2.1 (fun y hy => c_CopySet y (hx.2.2.2.2.2.2.2 y hy))
  simp only [vl] at hg ht hs
  refine pB Tryd.func32 rfl (by decide) Tryd.ntmps32 (by simp) Tryd.results32 ?_
  repeat' (first
 |refine aK fun K hK=>?_|refine Step.by1 ?_|refine sE (by decide) ?_|refine cz rfl ?_|refine Fork.by2 (fun h=>?_) fun h=>?_
 |((first|refine aR ?_|refine aX (id:=1) 7 mixed (by decide) ?_|refine aP1 (f:=30) rfl rfl (hg) rfl rfl rfl ?_|refine aP1 (f:=33) rfl rfl (ht) rfl rfl rfl ?_|refine aC (f:=34) rfl rfl (hs) rfl rfl rfl ?_);simp [vl, EdgeD.cells])
 |(refine Split.by2 (fun h=>?_) (fun h=>?_)<;>(simp [h, vl, EdgeD.cells]))
 |(apply hK;clear hK K)|refine AWh ‹_› ?_)
  exact retqc rfl (by simp) (cE (by simp [vl, EdgeD.cells]) (by simp))
theorem c_Max1 (c : Int) : PC 23 [.int .u8 c] (.bool true) := by
  refine pB Tryd.func23 rfl (by decide) Tryd.ntmps23 (by simp) Tryd.results23 ?_
  repeat' (first
 |refine aK fun K hK=>?_|refine Step.by1 ?_|refine sE (by decide) ?_|refine cz rfl ?_|refine Fork.by2 (fun h=>?_) fun h=>?_
 |(refine aR ?_;simp)
 |(refine Split.by2 (fun h=>?_) (fun h=>?_)<;>(simp [h]))
 |(apply hK;clear hK K)|refine AWh ‹_› ?_)
  exact r1q (cE rfl rfl)
theorem c_Lower1 (c : Int) : PC 67 [.int .u8 c] (.bool (lowB c)) := by
  refine pB Tryd.func67 rfl (by decide) Tryd.ntmps67 (by simp) Tryd.results67 ?_
  repeat' (first
 |refine aK fun K hK=>?_|refine Step.by1 ?_|refine sE (by decide) ?_|refine cz rfl ?_|refine Fork.by2 (fun h=>?_) fun h=>?_
 |(refine aR ?_;simp)
 |(refine Split.by2 (fun h=>?_) (fun h=>?_)<;>(simp [h]))
 |(apply hK;clear hK K)|refine AWh ‹_› ?_)
  all_goals first
    | exact r1q (cE (by simp [lowB, *]; done) rfl)
    | exact r1q (cE (by simp [lowB, *]; omega) rfl)
theorem c_Max (n : NetD) (hn : n.ok) (gs : List (List PartD)) (hgl : gs.length ≤ 1048577) (hgs : ∀ g ∈ gs, okGoal g) : PC 7 [.agg n.cells, gsV gs] (numV (numbE n (fun _ => true) gs)) := by
  have hc := c_numbers n hn 23 (fun _ => true) c_Max1 gs hgl hgs
  simp only [gsV, vl, NetD.cells] at hc
  cases h : numbE n (fun _ => true) gs with
  | none =>
    rw [h] at hc
    simp only [numV] at hc ⊢
    refine pB Tryd.func7 rfl (by decide) Tryd.ntmps7 (by simp) Tryd.results7 ?_
    repeat' (first
 |refine aK fun K hK=>?_|refine Step.by1 ?_|refine sE (by decide) ?_|refine cz rfl ?_|refine Fork.by2 (fun h=>?_) fun h=>?_
 |((first|refine aR ?_|refine aC (f:=22) rfl rfl (hc) rfl rfl rfl ?_);simp [gsV, vl, NetD.cells])
 |(refine Split.by2 (fun h=>?_) (fun h=>?_)<;>(simp [h, gsV, vl, NetD.cells]))
 |(apply hK;clear hK K)|refine AWh ‹_› ?_)
    exact r1q (cE rfl rfl)
  | some o =>
    rw [h] at hc
    simp only [numV] at hc ⊢
    refine pB Tryd.func7 rfl (by decide) Tryd.ntmps7 (by simp) Tryd.results7 ?_
    repeat' (first
 |refine aK fun K hK=>?_|refine Step.by1 ?_|refine sE (by decide) ?_|refine cz rfl ?_|refine Fork.by2 (fun h=>?_) fun h=>?_
 |((first|refine aR ?_|refine AS_callO (f:=22) rfl rfl (hc) rfl rfl ?_);simp [gsV, vl, NetD.cells])
 |(refine Split.by2 (fun h=>?_) (fun h=>?_)<;>(simp [h, gsV, vl, NetD.cells]))
 |(apply hK;clear hK K)|refine AWh ‹_› ?_)
    exact r1q (.inr (.inl (conv1_own rfl (by simp))))
theorem c_Lower (n : NetD) (hn : n.ok) (gs : List (List PartD)) (hgl : gs.length ≤ 1048577) (hgs : ∀ g ∈ gs, okGoal g) : PC 37 [.agg n.cells, gsV gs] (numV (numbE n lowB gs)) := by
  have hc := c_numbers n hn 67 lowB c_Lower1 gs hgl hgs
  simp only [gsV, vl, NetD.cells] at hc
  cases h : numbE n lowB gs with
  | none =>
    rw [h] at hc
    simp only [numV] at hc ⊢
    refine pB Tryd.func37 rfl (by decide) Tryd.ntmps37 (by simp) Tryd.results37 ?_
    repeat' (first
 |refine aK fun K hK=>?_|refine Step.by1 ?_|refine sE (by decide) ?_|refine cz rfl ?_|refine Fork.by2 (fun h=>?_) fun h=>?_
 |((first|refine aR ?_|refine aC (f:=22) rfl rfl (hc) rfl rfl rfl ?_);simp [gsV, vl, NetD.cells])
 |(refine Split.by2 (fun h=>?_) (fun h=>?_)<;>(simp [h, gsV, vl, NetD.cells]))
 |(apply hK;clear hK K)|refine AWh ‹_› ?_)
    exact r1q (cE rfl rfl)
  | some o =>
    rw [h] at hc
    simp only [numV] at hc ⊢
    refine pB Tryd.func37 rfl (by decide) Tryd.ntmps37 (by simp) Tryd.results37 ?_
    repeat' (first
 |refine aK fun K hK=>?_|refine Step.by1 ?_|refine sE (by decide) ?_|refine cz rfl ?_|refine Fork.by2 (fun h=>?_) fun h=>?_
 |((first|refine aR ?_|refine AS_callO (f:=22) rfl rfl (hc) rfl rfl ?_);simp [gsV, vl, NetD.cells])
 |(refine Split.by2 (fun h=>?_) (fun h=>?_)<;>(simp [h, gsV, vl, NetD.cells]))
 |(apply hK;clear hK K)|refine AWh ‹_› ?_)
    exact r1q (.inr (.inl (conv1_own rfl (by simp))))
def smallG : List (List PartD) := [[{ locs := [], guards := [{ clock := 1, other := 0, cmp := 5, n := 7 }], test := [] }]]
def bareN : NetD := { clocks := [], vars := [], chans := [], autos := [] }
theorem bare_ok : bareN.ok := by simp [bareN, NetD.ok]
theorem smallG_ok : ∀ g ∈ smallG, okGoal g := by
  simp [smallG, okGoal, PartD.ok, GuardD.ok, I64]
set_option maxRecDepth 20000 in
set_option maxHeartbeats 4000000 in
theorem c_small : PC 36 [] (.agg smallN.cells) := by
  have h : PC 36 [] (.agg [.vec [[.str ⟨#[120]⟩]] 1, .nils, .nils, .vec [[.str ⟨#[65]⟩, .vec [[.str ⟨#[97]⟩, .int .u8 0, .vec [[.int .i64 1, .int .i64 0, .int .u8 2, .int .i64 5]] 1], [.str ⟨#[98]⟩, .int .u8 0, .nils]] 2, .vec [[.int .i64 0, .int .i64 1, .vec [[.int .i64 1, .int .i64 0, .int .u8 4, .int .i64 3]] 1, .nils, .int .i64 0, .bool false, .vec [[.int .i64 1, .int .i64 0, .int .i64 0, .nils]] 1]] 1]] 1]) := by
    refine pB Tryd.func36 rfl (by decide) Tryd.ntmps36 (by simp) Tryd.results36 ?_
    repeat' (first
 |(refine AW_region_AOL (id := 1) ?_;simp)
 |refine aK fun K hK=>?_|refine Step.by1 ?_|refine sE (by decide) ?_|refine cz rfl ?_|refine Fork.by2 (fun h=>?_) fun h=>?_
 |(refine aR ?_;simp)
 |(refine Split.by2 (fun h=>?_) (fun h=>?_)<;>(simp [h]))
 |(apply hK;clear hK K)|refine AWh ‹_› ?_)
    exact retqc rfl (by simp) (cE (by simp) (by simp))
  exact h.dnr rfl rfl (fun _ _ h => by cases h) (fun _ h => by cases h)
end Go.Proofs.YtgmlimipejcpgaaDoor
end
section
set_option linter.unusedVariables false
set_option linter.unusedSimpArgs false
namespace Go.AM
section
variable {P : Program} {ge : GEnv} {st : St} {Q : Exit → St → Prop} {G : Gh} {w : World}
/-- A loop that ends in its first round. -/
theorem AW_loop0 {c : Code} (h : AW P ge c (SThen (fun _ => False) Q) st) : AW P ge (.loop c) Q st := by
  intro G a w hr
  refine wp_loop (fun a' w' => a' = a ∧ w' = w) (fun _ _ => 0) ⟨rfl, rfl⟩ ?_
  rintro a' w' ⟨rfl, rfl⟩
  refine wp_mono (h G a' w' hr) ?_
  rintro e a1 w1 ⟨G', s, q, r, ex⟩
  cases e <;> simp only [SThen, Exit.then] at q ⊢ <;> first | exact q.elim | exact ⟨G', s, q, r, ex⟩
end
end Go.AM
end
