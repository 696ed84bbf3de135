/-
  YtbgooadmonnjaaaGreatDoorRc32: steps of the proof of a law of the program: what these texts prove holds under the hypotheses that their theorems name, and no others.
-/
import Derived.Test.YtbgooadmonnjaaaGreatDoorRc29
import Derived.Test.YtbgooadmonnjaaaGreatDoorRc18
section
set_option linter.unusedSimpArgs false
set_option linter.unusedVariables false
namespace Go.Proofs.YtbgooadmonnjaaaGreatDoor
open Go Go.AM Fx
theorem c_bitsMul (x y : Int) (hx : 0 ≤ x) (hx' : x < 18446744073709551616) (hy : 0 ≤ y) (hy' : y < 18446744073709551616) : PC 141 [.int .u64 x, .int .u64 y] (.tup [.int .u64 (x * y / 18446744073709551616), .int .u64 (x * y % 18446744073709551616)]) := by
  have hc := c_mul64 x y hx hx' hy hy'
  refine pB Tryz.func141 rfl (by decide) Tryz.ntmps141 (by simp) Tryz.results141 ?_
  repeat' (first
 |refine aK fun K hK=>?_|refine Step.by1 ?_|refine sE (by decide) ?_|refine cz rfl ?_|refine Fork.by2 (fun h=>?_) fun h=>?_
 |((first|refine aR ?_|refine aC (f:=159) rfl rfl (hc) rfl rfl rfl ?_);simp)
 |(refine Split.by2 (fun h=>?_) (fun h=>?_)<;>(simp [h]))
 |(apply hK;clear hK K)|refine AWh ‹_› ?_)
  exact retq2 (cE rfl rfl)
def repR (n k : Nat) (x : RatD) : List RatD := List.replicate k x ++ List.replicate (n - k) ⟨0, 0⟩
theorem repR_len {n k : Nat} {x : RatD} (h : k ≤ n) : ((repR n k x).map RatD.cells).length = n := by simp [repR]; omega
theorem repR_cp {n k m : Nat} {x : RatD} (h : k + m ≤ n) : ((repR n k x).map RatD.cells).take k ++ (List.replicate m x).map RatD.cells ++ ((repR n k x).map RatD.cells).drop (k + m) = (repR n (k + m) x).map RatD.cells := by
  have : (repR n k x).take k ++ List.replicate m x ++ (repR n k x).drop (k + m) = repR n (k + m) x := by
    have e1 : (repR n k x).take k = List.replicate k x := by simp [repR]
    have e2 : (repR n k x).drop (k + m) = List.replicate (n - (k + m)) ⟨0, 0⟩ := by
      rw [repR, ← List.drop_drop, List.drop_left' (by simp)]; simp; omega
    rw [e1, e2, List.replicate_append_replicate]; rfl
  rw [← this]; simp
theorem repR_src {n k m : Nat} {x : RatD} (h : m ≤ k) : (((repR n k x).map RatD.cells).drop 0).take m = (List.replicate m x).map RatD.cells := by
  have : (repR n k x).take m = List.replicate m x := by
    rw [repR, List.take_append_of_le_length (by simpa using h)]; simp; omega
  rw [List.drop_zero, ← this]; simp
set_option maxHeartbeats 8000000 in
theorem c_repR (x : RatD) (n : Nat) (hn : n ≤ 1048576) : PC 73 [.vec [x.cells] 1, .int .i64 n] (.own 38 ((List.replicate n x).map RatD.cells)) := by
  have hc := c_bitsMul 1 n (by omega) (by omega) (by omega) (by omega)
  have e1 : (1 : Int) * n / 18446744073709551616 = 0 := by omega
  have e2 : (1 : Int) * n % 18446744073709551616 = n := by omega
  have w1 : IntKind.u64.wrap n = n := by rw [wrap_u64]; omega
  have w2 : IntKind.i64.wrap n = n := wI (by omega) (by omega)
  have k1 : ¬ (n : Int) < 0 := by omega
  have k2 : ¬ (9223372036854775807 : Int) < n := by omega
  have k3 : (n : Int) * 16 ≤ 281474976710656 := by omega
  rw [e1, e2] at hc
  have hz : List.replicate n [V.int .i64 0, V.int .i64 0] = (repR n 0 x).map RatD.cells := by simp [repR, RatD.cells]
  have hm1 : Nat.min 1 n ≤ n := Nat.min_le_right _ _
  have hm2 : Nat.min 1 n = 0 → n = 0 := fun h => by
    rcases Nat.eq_zero_or_pos n with h0 | h0
    · exact h0
    · have : Nat.min 1 n = 1 := Nat.min_eq_left h0
      omega
  have hm3 : Nat.min 1 n ≤ 1 := Nat.min_le_left _ _
  have hcp : ((repR n 0 x).map RatD.cells).take 0 ++ (List.replicate (Nat.min 1 n) x).map RatD.cells ++ ((repR n 0 x).map RatD.cells).drop (0 + Nat.min 1 n) = (repR n (Nat.min 1 n) x).map RatD.cells := by
    have := repR_cp (n := n) (k := 0) (m := Nat.min 1 n) (x := x) (by omega)
    rw [Nat.zero_add] at this ⊢; exact this
  generalize hm : Nat.min 1 n = m at *
  have hs1 : List.take m [x.cells] = (List.replicate m x).map RatD.cells := by
    rcases Nat.lt_or_ge m 1 with h | h
    · obtain rfl : m = 0 := by omega
      rfl
    · obtain rfl : m = 1 := by omega
      rfl
  have hx2 : ∀ z ∈ [x.cells], z.length = 2 := by intro z hz; rw [List.mem_singleton.1 hz]; rfl
  refine pB Tryz.func73 rfl (by decide) Tryz.ntmps73 (by simp) Tryz.results73 ?_
  repeat' (first
 |refine aK fun K hK=>?_|refine Step.by1 ?_|refine sE (by decide) ?_|refine cz rfl ?_|refine Fork.by2 (fun h=>?_) fun h=>?_
 |((first|refine aR ?_|refine aC (f:=141) rfl rfl (hc) rfl rfl rfl ?_);simp [w1, w2, k1, k2, k3, hz])
 |(refine Split.by2 (fun h=>?_) (fun h=>?_)<;>(simp [h, w1, w2, k1, k2, k3, hz]))
 |(refine AS_op1 rfl (S_copyN (T := 33) (T2 := 33) (e := 38) (T0 := 38) (b := 0) (g := 0) (off := 0) (len := n) (m := m) (sz := 2) (xs := (repR n 0 x).map RatD.cells) (zs := List.take m [x.cells]) rfl (by simp) (info_szN (by decide) (by simp)) (by decide) rfl rfl (by rw [repR_len (Nat.zero_le _)]; omega) (by simp) (by rw [hs1]; simp) hm1 (srcN_vec rfl (by decide) hx2 hm (by simp))) ?_; rw [hs1, hcp]; simp [hm])
 |(apply hK;clear hK K)|refine AWh ‹_› ?_)
  clear hcp hs1 hm hm3
  generalize m = m0 at *
  refine aL [7] (fun k : Nat => [(8, .int .i64 k)]) (fun k => [B.row 38 0 0 true ((repR n k x).map RatD.cells)]) (fun k => k ≤ n ∧ (k = 0 → n = 0)) (fun k => n - k) m0 ⟨hm1, hm2⟩ (by apply Weak.mk' <;> simp) (fun _ _ => rfl) ?_
  rintro k ⟨hk, hk0⟩
  have hrl := repR_len (x := x) hk
  by_cases hlt : k < n
  · have hlt' : (k : Int) < n := by omega
    obtain ⟨m, hm⟩ : ∃ m, Nat.min k (n - k) = m := ⟨_, rfl⟩
    have q1 : m ≤ k := by rw [← hm]; exact Nat.min_le_left _ _
    have q2 : m ≤ n - k := by rw [← hm]; exact Nat.min_le_right _ _
    have q3 : 0 < m := by rw [← hm]; exact Nat.lt_min.2 ⟨by omega, by omega⟩
    have w3 : IntKind.i64.wrap ((k : Int) + m) = k + m := wI (by omega) (by omega)
    repeat' (first
 |refine aK fun K hK=>?_|refine Step.by1 ?_|refine sE (by decide) ?_|refine cz rfl ?_|refine Fork.by2 (fun h=>?_) fun h=>?_
 |(refine aR ?_;simp [hlt, hlt'])
 |(refine Split.by2 (fun h=>?_) (fun h=>?_)<;>(simp [h, hlt, hlt']))
 |(apply hK;clear hK K)|refine AWh ‹_› ?_)
    refine AW_region_chain 9 10 [0, 1, 2, 3, 4, 5, 6] (fun H => ∃ zs, H[0]? = some (B.row 38 0 0 true zs) ∧ zs.length = n) mixed (by decide) (by decide) rfl ⟨_, rfl, hrl⟩ ?_
    simp only [List.take_succ_cons, List.take_zero]
    refine PX_op rfl rfl rfl rfl (fun h hs => ⟨trivial, rfl⟩) ?_
    refine PX_op rfl rfl rfl rfl (fun h hs => ⟨trivial, rfl⟩) ?_
    refine PX_op rfl rfl rfl rfl (fun h hs => ⟨trivial, rfl⟩) ?_
    refine PX_op (v := .ref 0 0 k (n - k)) rfl rfl rfl rfl (fun h hs => by obtain ⟨zs, z1, z2⟩ := hs; simp [z1, z2]; omega) ?_
    refine PX_op rfl rfl rfl rfl (fun h hs => ⟨trivial, rfl⟩) ?_
    refine PX_op rfl rfl rfl rfl (fun h hs => ⟨trivial, rfl⟩) ?_
    refine PX_op (v := .ref 0 0 0 k) rfl rfl rfl rfl (fun h hs => by obtain ⟨zs, z1, z2⟩ := hs; simp [z1, z2]; omega) ?_
    refine PX_skip rfl ?_
    refine PX_skip rfl ?_
    refine PX_nil ?_
    simp
    refine Ch_1 7 (by decide) (by decide) ?_
    refine ChS_gen (v := .int .i64 m) (h' := [B.row 38 0 0 true ((repR n (k + m) x).map RatD.cells)]) rfl rfl rfl ?_ ⟨_, rfl, repR_len (by omega)⟩ ?_
    · intro S hn hh he
      have hset : S.h.set 0 (.row 38 0 0 true (((repR n k x).map RatD.cells).take k ++ (List.replicate m x).map RatD.cells ++ ((repR n k x).map RatD.cells).drop (k + m))) = [B.row 38 0 0 true ((repR n (k + m) x).map RatD.cells)] := by
        rw [repR_cp (by omega), hh]; simp
      rw [← hset]
      exact S_copyN (T := 33) (T2 := 33) (e := 38) (T0 := 38) (x := .tmp 41) (y := .tmp 44) (b := 0) (g := 0) (off := k) (len := n - k) (m := m) (sz := 2) (xs := (repR n k x).map RatD.cells) (zs := (List.replicate m x).map RatD.cells) rfl (by simp) (info_szN (by decide) (by simp)) (by decide) (by rw [he _ (by simp [Op.operands, Call.operands])]; rfl) (by rw [hh]; rfl) (by rw [hrl]; omega) (by simp) (by simp) q2 (by rw [← repR_src (n := n) q1]; exact srcN_own (b := 0) (by rw [he _ (by simp [Op.operands, Call.operands])]; rfl) (by rw [hh]; rfl) (by rw [hrl]; omega) (by decide) (by simp) hm)
    simp
    refine Ch_1 8 (by decide) (by decide) ?_
    refine cS1 rfl rfl rfl rfl (by simp) ⟨_, rfl, repR_len (by omega)⟩ ?_
    simp [w3]
    refine Ch_end (by decide) ?_
    refine AS_of_AO ?_
    simp
    repeat' (first
 |refine aK fun K hK=>?_|refine Step.by1 ?_|refine sE (by decide) ?_|refine cz rfl ?_|refine Fork.by2 (fun h=>?_) fun h=>?_
 |(refine aR ?_;simp [w3])
 |(refine Split.by2 (fun h=>?_) (fun h=>?_)<;>(simp [h, w3]))
 |(apply hK;clear hK K)|refine AWh ‹_› ?_)
    exact ⟨k + m, ⟨by omega, by omega⟩, by omega, by apply Weak.mk' <;> simp⟩
  · obtain rfl : k = n := by omega
    have hfin : (repR k k x).map RatD.cells = (List.replicate k x).map RatD.cells := by simp [repR]
    repeat' (first
 |refine aK fun K hK=>?_|refine Step.by1 ?_|refine sE (by decide) ?_|refine cz rfl ?_|refine Fork.by2 (fun h=>?_) fun h=>?_
 |(refine aR ?_;simp [hlt])
 |(refine Split.by2 (fun h=>?_) (fun h=>?_)<;>(simp [h, hlt]))
 |(apply hK;clear hK K)|refine AWh ‹_› ?_)
    exact r1q (.inr (.inl (conv1_own (by rw [← hfin]; rfl) (by simp))))
def iniF (l : List VarD) (c : Nat × List Int) : List Int := c.2 ++ l.map (·.init)
theorem iniF_nil {c : Nat × List Int} : iniF [] c = c.2 := by simp [iniF]
theorem iniF_cons (g : Nat) {x : VarD} {l : List VarD} {c : Nat × List Int} : iniF (x :: l) c = iniF l (g, c.2 ++ [x.init]) := by simp [iniF]
set_option maxHeartbeats 8000000 in
theorem c_First13 (n : NetD) (hn : n.ok) (hw : wholeE n = 0) : PC 72 [.agg n.cells] (.tup [.agg (firstC n).st.cells, .int .i64 0]) := by
  have h1 := c_netRight n hn
  rw [decide_eq_true hw] at h1
  have hcells : n.cells = [.vec (n.clocks.map fun x => [.str x]) n.clocks.length, .vec (n.vars.map VarD.cells) n.vars.length, .vec (n.chans.map fun x => [.str x]) n.chans.length, .vec (n.autos.map AutoD.cells) n.autos.length] := rfl
  have hal := hn.2.2.2.1
  have hvl := hn.2.1.1
  have by1 : (n.autos.length : Int) * 8 ≤ 281474976710656 := by omega
  rw [hcells] at h1
  obtain ⟨E, hE⟩ : ∃ E, iniF n.vars (0, []) = E := ⟨_, rfl⟩
  have hE2 : n.vars.map (·.init) = E := by rw [← hE]; simp [iniF]
  simp only [firstC, hE2, hcells]
  refine pB Tryz.func72 rfl (by decide) Tryz.ntmps72 (by simp) Tryz.results72 ?_
  repeat' (first
 |refine AW_nilcell 3 1 3 rfl rfl (by simp) ?_
 |refine aK fun K hK=>?_|refine Step.by1 ?_|refine sE (by decide) ?_|refine cz rfl ?_|refine Fork.by2 (fun h=>?_) fun h=>?_
 |((first|refine aR ?_|refine aC (f:=137) rfl rfl (h1) rfl rfl rfl ?_);simp [by1])
 |(refine Split.by2 (fun h=>?_) (fun h=>?_)<;>(simp [h, by1]))
 |(apply hK;clear hK K)|refine AWh ‹_› ?_)
  refine AW_range n.vars 19 [2, 4, 17, 18] (fun c : Nat × List Int => []) (fun c => [.var n.cells, .var [.nils, .nils],   .row 3 0 0 true (List.replicate n.autos.length [.int .i64 0]), .var [.ref 2 0 0 n.autos.length, .ref 4 c.1 0 c.2.length], .row 3 c.1 0 true (ivs c.2)]) (fun i c => c.2.length = i) iniF (0, []) (r := E) hE rfl (by apply Weak.mk' <;> simp [hcells, ivs]) (fun _ _ _ => rfl) ?_ ?_
  · rintro i ⟨g, out⟩ x _ hlt hx hJ hF
    rw [iniF_cons (g + 1)] at hF
    simp only at hJ hF
    have hlt' : (i : Int) < n.vars.length := by omega
    have w1 : IntKind.i64.wrap ((i : Int) + 1) = i + 1 := wI (by omega) (by omega)
    have hby : (out.length + 1) * 8 ≤ 140737488355328 := by omega
    have hol : (ivs out).length = out.length := by simp [ivs]
    have hpu : ivs out ++ [[V.int .i64 x.init]] = ivs (out ++ [x.init]) := by simp [ivs]
    repeat' (first
 |refine aK fun K hK=>?_|refine Step.by1 ?_|refine sE (by decide) ?_|refine cz rfl ?_|refine Fork.by2 (fun h=>?_) fun h=>?_
 |(refine aR ?_;simp [hcells, hlt, hlt', hx, VarD.cells, w1, hby, hol])
 |(refine Split.by2 (fun h=>?_) (fun h=>?_)<;>(simp [h, hcells, hlt, hlt', hx, VarD.cells, w1, hby, hol]))
 |(apply hK;clear hK K)|refine AWh ‹_› ?_)
    exact ⟨g + 1, out ++ [x.init], hF, by simp; omega, by apply Weak.mk' <;> simp [hcells, hpu, hol]⟩
  · rintro ⟨g, out⟩ hJ hF
    rw [iniF_nil] at hF
    simp only at hF
    subst hF
    have hol : (ivs out).length = out.length := by simp [ivs]
    repeat' (first
 |refine aK fun K hK=>?_|refine Step.by1 ?_|refine sE (by decide) ?_|refine cz rfl ?_|refine Fork.by2 (fun h=>?_) fun h=>?_
 |(refine aR ?_;simp [hcells])
 |(refine Split.by2 (fun h=>?_) (fun h=>?_)<;>(simp [h, hcells]))
 |(apply hK;clear hK K)|refine AWh ‹_› ?_)
    refine retq2ct rfl (by simp) (.inl ⟨3, ?_, rfl⟩)
    simp [frz, StateD.cells, hol, Go.AM.V.isF, ivs]
def fsF : List V := [.fn (.func 117) [] [.ptr 3 0], .fn (.func 71) [] [.ptr 0 0, .ptr 2 0], .fn (.func 124) [] [.ptr 5 0, .ptr 4 0]]
def FHp (n : NetD) (x y z : V) : List B := [.var n.cells, .var [.nils, .nils, .nils], .var [x, y, z], .var n.cells, .var [.int .i64 212], .var [.fn (.func 74) [] [.ptr 0 0, .ptr 2 0]], rowF fsF]
theorem FHp_len {n : NetD} {x y z : V} : (FHp n x y z).length = 7 := rfl
theorem FHp_ok {n : NetD} {x y z : V} (hx : x.lt 7 = true) (hy : y.lt 7 = true) (hz : z.lt 7 = true) : HL (FHp n x y z) := by
  intro q hq
  rw [FHp_len]
  simp only [FHp, rowF, fsF, List.mem_cons, List.not_mem_nil, or_false] at hq
  rcases hq with rfl | rfl | rfl | rfl | rfl | rfl | rfl
  all_goals (simp [NetD.cells, vl, hx, hy, hz])
set_option maxHeartbeats 8000000 in
theorem g_First1 (n : NetD) (hn : n.ok) (hw : wholeE n = 0) (x y z : V) : GCall Tryz.prog GV 71 [.ptr 0 0, .ptr 2 0] (FHp n x y z) (fun v h' => v = .int .i64 0 ∧ h' = FHp n (.vec (ivs (firstC n).st.locs) (firstC n).st.locs.length) (.vec (ivs (firstC n).st.vars) (firstC n).st.vars.length) (vl RatD.cells (firstC n).clocks)) := by
  have h1 := c_First13 n hn hw
  have h2 := c_Of 0
  have h3 := (c_repR ⟨0, 1⟩ n.clocks.length hn.1.1).freeze
  have hcells : n.cells = [.vec (n.clocks.map fun x => [.str x]) n.clocks.length, .vec (n.vars.map VarD.cells) n.vars.length, .vec (n.chans.map fun x => [.str x]) n.chans.length, .vec (n.autos.map AutoD.cells) n.autos.length] := rfl
  have hck : (firstC n).clocks = List.replicate n.clocks.length ⟨0, 1⟩ := rfl
  have h4 : PC 73 [.vec [[.int .i64 0, .int .i64 1]] 1, .int .i64 n.clocks.length] (vl RatD.cells (firstC n).clocks) := by
    rw [hck]; simpa [vl, RatD.cells] using h3
  have hL : ∀ a b c, HL (FHp n (.vec (ivs a) b) (.vec (ivs a) b) (vl RatD.cells c)) := fun a b c => FHp_ok (by simp) (by simp) (by simp [vl])
  clear h3
  obtain ⟨s, hs⟩ : ∃ s, (firstC n).st = s := ⟨_, rfl⟩
  rw [hs] at h1 ⊢
  obtain ⟨k, hk⟩ : ∃ k, (firstC n).clocks = k := ⟨_, rfl⟩
  rw [hk] at h4 ⊢
  have hL := FHp_ok (n := n) (x := .vec (ivs s.locs) s.locs.length) (y := .vec (ivs s.vars) s.vars.length) (z := vl RatD.cells k) (by simp) (by simp) (by simp [vl])
  simp only [hcells, StateD.cells, RatD.cells, vl] at h1 h2 h4
  refine gB1 Tryz.func71 rfl (by decide) Tryz.ntmps71 (by simp) Tryz.results71 ?_
  repeat' (first
 |refine aK fun K hK=>?_|refine Step.by1 ?_|refine sE (by decide) ?_|refine cz rfl ?_|refine Fork.by2 (fun h=>?_) fun h=>?_
 |((first|refine aR ?_|refine aC (f:=72) rfl rfl (h1) rfl rfl rfl ?_|refine aX (id:=2) 7 mixed (by decide) ?_|refine aP1 (f:=69) rfl rfl (h2) rfl rfl rfl ?_|refine aP1 (f:=73) rfl rfl (h4) rfl rfl rfl ?_);simp [FHp, hcells])
 |(refine Split.by2 (fun h=>?_) (fun h=>?_)<;>(simp [h, FHp, hcells]))
 |(refine AP_lit rfl (by simp [FHp, hcells]) ?_;simp [FHp, hcells])
 |(apply hK;clear hK K)|refine AWh ‹_› ?_)
  exact retg1 (h' := FHp n (.vec (ivs s.locs) s.locs.length) (.vec (ivs s.vars) s.vars.length) (vl RatD.cells k)) ⟨rfl, rfl⟩ (by simp) (Go.AM.Leaves.sym (by simp [FHp]) hL)
/-- Where a whole network begins is one of its states. -/
theorem first_right {n : NetD} (hw : wholeE n = 0) : rightSE n (firstC n).st = true := by
  have hw0 := hw
  unfold wholeE at hw
  have k1 := (fZ hw).1
  have k4 := (fZ (fZ (fZ (fZ hw).2).2).2).1
  refine right_join ⟨hw0, ?_, ?_⟩
  · refine eqF_of (by simp [firstC]) fun j a k ha hk => ?_
    have hk0 : k = 0 := by
      simp only [firstC, List.getElem?_replicate] at hk
      split at hk
      · cases hk; rfl
      · cases hk
    subst hk0
    unfold someE at k1
    have ham := List.mem_of_getElem? ha
    have hne : a.locs.length ≠ 0 := fun h => by
      have : anyL noLocs n.autos = true := List.any_eq_true.2 ⟨a, ham, by simp [noLocs, h]⟩
      rw [if_pos (.inr this)] at k1; cases k1
    simp only [atLB, Bool.and_eq_true, decide_eq_true_eq]
    omega
  · refine eqF_of (by simp [firstC]) fun j v x hv hx => ?_
    have hx0 : x = v.init := by
      simp only [firstC, List.getElem?_map, hv, Option.map_some, Option.some.injEq] at hx
      exact hx.symm
    subst hx0
    unfold varE at k4
    have hvm := List.mem_of_getElem? hv
    cases hb : varV v
    · simp only [varV, decide_eq_false_iff_not] at hb
      simp only [hasB, Bool.and_eq_true, decide_eq_true_eq]
      omega
    · rw [if_pos (List.any_eq_true.2 ⟨v, hvm, hb⟩)] at k4; cases k4
theorem sizes_clocks {n : NetD} (hw : wholeE n = 0) : n.clocks.length ≤ 8 := by
  unfold wholeE at hw
  have k := (fZ (fZ hw).2).1
  unfold sizesE sizeNet at k
  by_cases h : 8 < n.clocks.length
  · exfalso
    rw [if_pos (by simp [h])] at k; cases k
  · omega
theorem first_conf {n : NetD} (hw : wholeE n = 0) : confB n (firstC n) = true := by
  refine conf_iff.2 ⟨first_right hw, by simp [firstC], ptRight_iff.2 ⟨by simp [firstC]; exact sizes_clocks hw, fun r hr => ?_⟩⟩
  obtain rfl : r = ⟨0, 1⟩ := by simp [firstC] at hr; exact hr.2
  exact ⟨by decide, by decide⟩
theorem first_ok {n : NetD} (hn : n.ok) : (firstC n).ok := by
  refine ⟨⟨by simp [firstC]; exact hn.2.2.2.1, by simp [firstC]; exact hn.2.1.1⟩, by simp [firstC]; exact hn.1.1, fun r hr => ?_⟩
  obtain rfl : r = ⟨0, 1⟩ := by simp [firstC] at hr; exact hr.2
  exact ⟨by show I64 0; unfold I64; omega, by show I64 1; unfold I64; omega⟩
theorem first_chain (n : NetD) (hn : n.ok) : ∃ x y z, (x.lt 7 = true ∧ y.lt 7 = true ∧ z.lt 7 = true) ∧ ((firstS n).1 = 0 → [x, y, z] = (firstS n).2.cells) ∧ Chain 6 (rowF fsF) fsF (FHp n .nils .nils .nils) (firstS n).1 (FHp n x y z) := by
  obtain ⟨H0, hH0e⟩ : ∃ H0, FHp n .nils .nils .nils = H0 := ⟨_, rfl⟩
  have hH0 : HL H0 := by rw [← hH0e]; exact FHp_ok rfl rfl rfl
  have a1 : Callee (.fn (.func 117) [] [.ptr 3 0]) H0 (netE n) H0 := ⟨_, _, rfl, g_right1 _ n hn 3 (by rw [← hH0e]; rfl)⟩
  have hb0 : H0[6]? = some (rowF fsF) := by rw [← hH0e]; rfl
  rw [hH0e]
  unfold firstS
  by_cases e1 : netE n = 0
  rotate_left
  · rw [if_pos e1]
    refine ⟨.nils, .nils, .nils, ⟨rfl, rfl, rfl⟩, fun h => absurd h e1, ?_⟩
    rw [hH0e]
    exact .stop a1 e1 rfl hH0
  rw [if_neg (by simp [e1])]
  rw [e1] at a1
  have hw := netE_whole e1
  have a2 : Callee (.fn (.func 71) [] [.ptr 0 0, .ptr 2 0]) H0 0 (FHp n (.vec (ivs (firstC n).st.locs) (firstC n).st.locs.length) (.vec (ivs (firstC n).st.vars) (firstC n).st.vars.length) (vl RatD.cells (firstC n).clocks)) := ⟨_, _, rfl, by rw [← hH0e]; exact g_First1 n hn hw _ _ _⟩
  have hcf := first_conf hw
  have hok := first_ok hn
  generalize firstC n = c at *
  have hH1 : HL (FHp n (.vec (ivs c.st.locs) c.st.locs.length) (.vec (ivs c.st.vars) c.st.vars.length) (vl RatD.cells c.clocks)) := FHp_ok (by simp) (by simp) (by simp [vl])
  have hl1 : (FHp n (.vec (ivs c.st.locs) c.st.locs.length) (.vec (ivs c.st.vars) c.st.vars.length) (vl RatD.cells c.clocks)).length = H0.length := by rw [← hH0e]; rfl
  have a3 : Callee (.fn (.func 124) [] [.ptr 5 0, .ptr 4 0]) (FHp n (.vec (ivs c.st.locs) c.st.locs.length) (.vec (ivs c.st.vars) c.st.vars.length) (vl RatD.cells c.clocks)) (if keptB n c = true then 0 else 212) (FHp n (.vec (ivs c.st.locs) c.st.locs.length) (.vec (ivs c.st.vars) c.st.vars.length) (vl RatD.cells c.clocks)) := ⟨_, _, rfl, g_other1 _ 5 4 _ _ 212 (keptB n c) rfl rfl (g_keptF _ n hn e1 c hok hcf 0 2 _ _ _ rfl rfl rfl)⟩
  refine ⟨.vec (ivs c.st.locs) c.st.locs.length, .vec (ivs c.st.vars) c.st.vars.length, vl RatD.cells c.clocks, ⟨by simp, by simp, by simp [vl]⟩, fun hz => ?_, ?_⟩
  · cases e5 : keptB n c
    · rw [e5, if_neg (by simp)] at hz; cases hz
    · rw [if_pos rfl]; rfl
  · refine .go _ a1 rfl hH0 hb0 (.go _ a2 hl1 hH1 rfl ?_)
    cases e5 : keptB n c
    · rw [e5] at a3
      rw [if_neg (by simp)]
      exact .stop a3 (by simp) rfl hH1
    · rw [e5] at a3
      rw [if_pos rfl]
      exact .go _ a3 rfl hH1 rfl .nil
theorem first_err {n : NetD} (h : (firstS n).1 ≠ 0) : (firstS n).2 = noC := by
  unfold firstS at h ⊢
  split
  · rfl
  · rename_i q1
    rw [if_neg q1] at h
    split
    · rename_i q5
      rw [if_pos q5] at h; exact absurd rfl h
    · rfl
set_option maxRecDepth 40000 in
set_option maxHeartbeats 16000000 in
theorem c_First1 (n : NetD) (hn : n.ok) : PC 25 [.agg n.cells] (.tup [stC (firstS n), .int .i64 (firstS n).1]) := by
  obtain ⟨x, y, z, ⟨hx, hy, hz⟩, hX2, hch⟩ := first_chain n hn
  have hcells : n.cells = [.vec (n.clocks.map fun x => [.str x]) n.clocks.length, .vec (n.vars.map VarD.cells) n.vars.length, .vec (n.chans.map fun x => [.str x]) n.chans.length, .vec (n.autos.map AutoD.cells) n.autos.length] := rfl
  obtain ⟨w, hw⟩ : ∃ w, firstS n = w := ⟨_, rfl⟩
  rw [hw] at hch hX2 ⊢
  have a1 := g_right [.var n.cells, .var [.nils, .nils, .nils], .var [.nils, .nils, .nils]] (by simp [HL, hcells]) n
  have a2 := g_otherwise [.var n.cells, .var [.nils, .nils, .nils], .var [.nils, .nils, .nils], .var n.cells] (by simp [HL, hcells]) 212 74 [.ptr 0 0, .ptr 2 0] (by simp)
  have a3 := g_first 6 fsF (FHp n .nils .nils .nils) (FHp n x y z) w.1 (FHp_ok rfl rfl rfl) rfl (by decide) hch
  by_cases hw0 : w.1 = 0
  · have hc := hX2 hw0
    simp only [CfgD.cells, List.cons.injEq, and_true] at hc
    obtain ⟨rfl, rfl, rfl⟩ := hc
    simp only [hcells]
    refine pB Tryz.func25 rfl (by decide) Tryz.ntmps25 (by simp) Tryz.results25 ?_
    repeat' (first
 |refine aK fun K hK=>?_|refine Step.by1 ?_|refine sE (by decide) ?_|refine cz rfl ?_|refine Fork.by2 (fun h=>?_) fun h=>?_
 |(refine aR ?_;simp [hw0])
 |(refine Split.by2 (fun h=>?_) (fun h=>?_)<;>(simp [h, hw0]))
 |(refine aG (f := 46) rfl rfl (a1.imp (by simp [hcells]) (by simp [hcells])) rfl (fun v h' hq => ?_); obtain ⟨rfl, rfl⟩ := hq; simp [hcells])
 |(refine aG (f := 53) rfl rfl (a2.imp (by simp [hcells]) (by simp [hcells])) rfl (fun v h' hq => ?_); obtain ⟨rfl, rfl⟩ := hq; simp [hcells])
 |(refine aG (f := 45) rfl rfl (a3.imp (by simp [fsF]) (by simp [FHp, fsF, rowF, hcells])) rfl (fun v h' hq => ?_); obtain ⟨rfl, rfl⟩ := hq; simp [FHp, rowF, fsF, hcells])
 |(apply hK;clear hK K)|refine AWh ‹_› ?_)
    exact retq2ct rfl (by simp) (cE (by simp [stC, hw0, CfgD.cells, vl]) (by simp [vl]))
  · simp only [hcells]
    refine pB Tryz.func25 rfl (by decide) Tryz.ntmps25 (by simp) Tryz.results25 ?_
    repeat' (first
 |refine aK fun K hK=>?_|refine Step.by1 ?_|refine sE (by decide) ?_|refine cz rfl ?_|refine Fork.by2 (fun h=>?_) fun h=>?_
 |(refine aR ?_;simp [hw0])
 |(refine Split.by2 (fun h=>?_) (fun h=>?_)<;>(simp [h, hw0]))
 |(refine aG (f := 46) rfl rfl (a1.imp (by simp [hcells]) (by simp [hcells])) rfl (fun v h' hq => ?_); obtain ⟨rfl, rfl⟩ := hq; simp [hcells])
 |(refine aG (f := 53) rfl rfl (a2.imp (by simp [hcells]) (by simp [hcells])) rfl (fun v h' hq => ?_); obtain ⟨rfl, rfl⟩ := hq; simp [hcells])
 |(refine aG (f := 45) rfl rfl (a3.imp (by simp [fsF]) (by simp [FHp, fsF, rowF, hcells])) rfl (fun v h' hq => ?_); obtain ⟨rfl, rfl⟩ := hq; simp [FHp, rowF, fsF, hcells])
 |(apply hK;clear hK K)|refine AWh ‹_› ?_)
    exact retq2ct rfl (by simp) (cE (by simp [stC, hw0]) (by simp))
theorem c_First (n : NetD) (hn : n.ok) : PC 25 [.agg n.cells] (.tup [.agg (firstS n).2.cells, .int .i64 (firstS n).1]) := by
  have h1 := c_First1 n hn
  by_cases h : (firstS n).1 = 0
  · rw [stC, if_pos h] at h1; exact h1
  · rw [stC, if_neg h] at h1
    rw [first_err h]
    exact h1.dnt (by simp [V.isOwn]) (by simp [V.dns, V.dn, noC, CfgD.cells, ivs, vl]) (by simp [V.isOwn])
end Go.Proofs.YtbgooadmonnjaaaGreatDoor
end
