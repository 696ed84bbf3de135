/-
  YtgmlimipejcpgaaGreatDoorPart16: steps of the proof of a law of the program: what these texts prove holds under the hypotheses that their theorems name, and no others.
-/
import Derived.Test.YtgmlimipejcpgaaGreatDoorPart12
import Derived.Test.YtgmlimipejcpgaaGreatDoorPart14
import Derived.Test.YtgmlimipejcpgaaGreatDoorPart05
import Derived.Test.YtgmlimipejcpgaaGreatDoorPart15
section
set_option linter.unusedVariables false
set_option linter.unusedSimpArgs false
namespace Go.Proofs.YtgmlimipejcpgaaGreatDoor
open Go Go.AM Fx
theorem num_small : numbE smallN (fun _ => true) [] = some [5] := by kernel_rfl
theorem num_smallG : numbE smallN lowB smallG = some [7] := by kernel_rfl
theorem net_small : netE smallN = 0 := by kernel_rfl
theorem net_bare : netE bareN = 2 := by kernel_rfl
set_option maxRecDepth 20000 in
set_option maxHeartbeats 4000000 in
theorem c_live12 : PC 14 [] (.bool true) := by
  have h0 := c_small
  have h1 := c_Max smallN small_ok [] (by simp) (by simp)
  rw [num_small] at h1
  have h1' := PCall.denil (args := [.agg smallN.cells, .nils]) h1 rfl
  have h2 := c_Lower smallN small_ok smallG (by simp [smallG]) smallG_ok
  rw [num_smallG] at h2
  have h2' := PCall.dn (args := [.agg smallN.cells, .vec [[.vec [[.nils, .vec [[.int .i64 1, .int .i64 0, .int .u8 5, .int .i64 7]] 1, .nils]] 1]] 1]) h2 rfl
  have h3 := c_Net smallN small_ok
  rw [net_small] at h3
  have h4 := c_Net bareN bare_ok
  rw [net_bare] at h4
  have h4' := PCall.dn (args := [.agg [.nils, .nils, .nils, .nils]]) h4 rfl
  clear h1 h2 h4
  have hcs : smallN.cells = [.vec [[.str ⟨#[120]⟩]] 1, .vec [] 0, .vec [] 0, .vec [[.str ⟨#[65]⟩, .vec [[.str ⟨#[97]⟩, .int .u8 0, .vec [[.int .i64 1, .int .i64 0, .int .u8 2, .int .i64 5]] 1], [.str ⟨#[98]⟩, .int .u8 0, .vec [] 0]] 2, .vec [[.int .i64 0, .int .i64 1, .vec [[.int .i64 1, .int .i64 0, .int .u8 4, .int .i64 3]] 1, .vec [] 0, .int .i64 0, .bool false, .vec [[.int .i64 1, .int .i64 0, .int .i64 0, .vec [] 0]] 1]] 1]] 1] := rfl
  simp only [numV, List.map_cons, List.map_nil] at h1' h2'
  rw [hcs] at h0 h1' h2' h3
  refine PCall_body Tryz.func14 rfl (by decide) Tryz.ntmps14 (by simp) Tryz.results14 ?_
  repeat' (first
    |(refine AW_region_AOL (id := 3) ?_;simp)
    |refine AW_seq_k fun K hK=>?_|refine Step.by1 ?_|refine SBlock_exit_ne (by decide) ?_
    |((first|refine AW_region_AO ?_|refine AS_call1 (f:=69) rfl rfl (h0) rfl rfl rfl ?_|refine AS_callO (f:=22) rfl rfl (h1') rfl rfl ?_|refine AS_callO (f:=23) rfl rfl (h2') rfl rfl ?_|refine AS_call1 (f:=15) rfl rfl (h3) rfl rfl rfl ?_|refine AS_call1 (f:=15) rfl rfl (h4') rfl rfl rfl ?_);simp)
    |(refine Split.by2 (fun h=>?_) (fun h=>?_)<;>(simp [h]))
    |refine ct rfl ?_|refine cf rfl ?_|refine cnd rfl (fun h=>?_) (fun h=>?_)|refine cd rfl (fun h=>?_) (fun h=>?_)|refine cn rfl (fun h=>?_) (fun h=>?_)|refine cc rfl (fun h=>?_) (fun h=>?_)
    |(apply hK;clear hK K)|(refine AWh (by assumption) ?_))
  exact retq1 (conv_eq rfl rfl)
end Go.Proofs.YtgmlimipejcpgaaGreatDoor
end

section
set_option linter.unusedVariables false
set_option linter.unusedSimpArgs false
namespace Go.Proofs.YtgmlimipejcpgaaGreatDoor
open Go Go.AM Fx
/-! The law CheckNets. -/
set_option maxRecDepth 40000 in
set_option maxHeartbeats 16000000 in
theorem c_CheckNets (n : NetD) (hn : n.ok) : PC 3 [.agg n.cells] (.bool true) := by
  have h0 := c_HandNet n hn
  have h1 := PCall.trim (args := [.agg n.hcells]) (c_Where n hn) (trims_netArg n [])
  have h2 := r_Where n hn
  have h3 := c_live12
  have h4 := PCall.trim (args := [.agg n.hcells]) (c_Net n hn) (trims_netArg n [])
  have h5 := r_Net n hn
  have h6 := c_KeptNet n hn
  unfold netE at h4 h5
  generalize whereE n = s at *
  obtain ⟨⟨s1, s2, s3⟩, s4⟩ := s
  have hl1 : ∀ k, V.lts k n.cells = true := fun k => cells_lt n k
  obtain ⟨c1, c2, c3, c4, hcc⟩ : ∃ c1 c2 c3 c4, n.hcells = [c1, c2, c3, c4] := ⟨_, _, _, _, rfl⟩
  simp only [spotE, spotV] at h1 h2
  refine PCall_body Tryz.func3 rfl (by decide) Tryz.ntmps3 (by simp) Tryz.results3 ?_
  simp only [NetD.cells, vl, NetD.hcells] at h0 h1 h2 h4 h5 h6 ⊢
  repeat' (first
    |refine AW_seq_k fun K hK=>?_|refine Step.by1 ?_|refine SBlock_exit_ne (by decide) ?_
    |((first|refine AW_region_AO ?_|refine AW_region_APx (id:=4) 40 mixed (by decide) ?_|refine AS_call1 (f:=11) rfl rfl (h0) rfl rfl rfl ?_|refine AS_call1 (f:=12) rfl rfl (h1) rfl rfl rfl ?_|refine AS_call1 (f:=13) rfl rfl (h2) rfl rfl rfl ?_|refine AP_call1 (f:=14) rfl rfl (h3) rfl rfl rfl ?_|refine AP_call1 (f:=15) rfl rfl (h4) rfl rfl rfl ?_|refine AP_call1 (f:=16) rfl rfl (h5) rfl rfl rfl ?_|refine AP_call1 (f:=17) rfl rfl (h6) rfl rfl rfl ?_);simp [vl, handV])
    |(refine Split.by2 (fun h=>?_) (fun h=>?_)<;>(simp [h, vl, handV]))
    |refine ct rfl ?_|refine cf rfl ?_|refine cnd rfl (fun h=>?_) (fun h=>?_)|refine cd rfl (fun h=>?_) (fun h=>?_)|refine cn rfl (fun h=>?_) (fun h=>?_)|refine cc rfl (fun h=>?_) (fun h=>?_)
    |(apply hK;clear hK K)|(refine AWh (by assumption) ?_))
  exact retq1 (conv_eq rfl rfl)
end Go.Proofs.YtgmlimipejcpgaaGreatDoor
end

section
/-! AM, part Xb: a call on rows of one's own, as they are seen, where the order is fixed. -/
set_option linter.unusedVariables false
set_option linter.unusedSimpArgs false
namespace Go.AM
section
variable {P : Program} {ge : GEnv} {st : St} {Q : Exit → St → Prop}
variable {d : Option Tmp} {t : TypeId} {p : String} {af : Array Edge}
theorem AS_seen1 {ops : Array Oper} {rest : List Oper} {x : Operand} {xs : Array Operand} {ts : Array TypeId} {f : Nat} {args' : List V} {r : V}
    (hx : ev ge st.tm x = .fn (.func f) [] []) (hs : (evs ge st.tm xs.toList).map (seenV st.h) = args') (hc : PCall P ge f args' r) (hf : V.isFs args' = true) (hp : r.scal = true) (hd : dstOk st.n d = true)
    (h : AO P ge ops Q rest ⟨st.n, putD d r st.tm, st.h⟩) :
    AS P ge ops (⟨d, .call { callee := .value x, args := xs, argTypes := ts }, t, p, af, none⟩ :: rest) Q st := by
  rw [evs_eq] at hs
  exact AS_scall (C := []) hx hd hc (by simpa using hs) hf hp (AS_of_AO h)
end
end Go.AM
end

section
set_option linter.unusedVariables false
set_option linter.unusedSimpArgs false
namespace Go.Proofs.YtgmlimipejcpgaaGreatDoor
open Go Go.AM Fx
/-! The law CheckMost. -/
theorem PCall.ownnil {f : Nat} {args : List V} (hc : PCall Tryz.prog GV f args .nils) : PCall Tryz.prog GV f args (.own 3 []) :=
  ⟨hc.1, fun G w cargs ha hg => (hc.2 G w cargs ha hg).mono fun e w' ⟨c, G', h1, h2, h3⟩ => ⟨c, G', h1, h2, by
    have h4 : R G' w' true .nils c := h3
    cases h4
    exact ⟨by simp, .inl ⟨rfl, rfl⟩⟩⟩⟩
def numO : Option (List Int) → List Int
  | none => []
  | some l => l
theorem numV_own {f : Nat} {args : List V} {o : Option (List Int)} (hc : PCall Tryz.prog GV f args (numV o)) : PCall Tryz.prog GV f args (.own 3 (ivs (numO o))) := by
  cases o with
  | none => exact PCall.ownnil hc
  | some l => exact hc
theorem numb_isSome {n : NetD} {so so' : Int → Bool} {gs : List (List PartD)} : (numbE n so gs).isSome = (numbE n so' gs).isSome := by
  have key : ∀ (gs : List (List PartD)) (c d : List Int), (numG n so gs c).isSome = (numG n so' gs d).isSome := by
    intro gs
    induction gs with
    | nil => intro c d; rfl
    | cons g r ih =>
      intro c d
      rw [numG_cons, numG_cons]
      split
      · rfl
      · exact ih _ _
  unfold numbE
  split
  · rfl
  · exact key _ _ _
theorem numbR_cases (n : NetD) (gs : List (List PartD)) : (numbR n gs = none ∧ numbE n lowB gs = none ∧ numbE n upB gs = none ∧ numbE n (fun _ => true) gs = none) ∨
    ∃ a b, numbR n gs = some (a, b) ∧ numbE n lowB gs = some a ∧ numbE n upB gs = some b ∧ numbE n (fun _ => true) gs = some (maxL a b) := by
  have h1 := numb_isSome (n := n) (so := lowB) (so' := upB) (gs := gs)
  have h2 := numbR_eq n gs
  have h3 := numb_max n gs
  cases ha : numbE n lowB gs <;> cases hb : numbE n upB gs <;> rw [ha, hb] at h1 h2 <;> simp at h1 h2
  · rw [h2] at h3
    exact .inl ⟨h2, rfl, rfl, h3⟩
  · rw [h2] at h3
    exact .inr ⟨_, _, h2, rfl, rfl, h3⟩
theorem keptF_len : ∀ {l : List Int} {s : Nat × List Int}, (keptF l s).length ≤ s.2.length + l.length
  | [], s => by rw [keptF_nil]; simp
  | x :: r, s => by
    rw [keptF_cons]
    refine Nat.le_trans keptF_len ?_
    by_cases h : 0 ≤ x
    · simp [h]; omega
    · simp [h]
theorem inj_of_nodup {refs : List (Nat × Nat × Nat)} (h : (refs.map (·.1)).Nodup) (i j : Nat) (x y : Nat × Nat × Nat) (hx : refs[i]? = some x) (hy : refs[j]? = some y) (e : x.1 = y.1) : i = j := by
  have hi : i < (refs.map (·.1)).length := by have := (List.getElem?_eq_some_iff.1 hx).1; simpa using this
  refine (List.getElem?_inj hi h).1 ?_
  rw [List.getElem?_map, List.getElem?_map, hx, hy]; simp [e]
/-- The numbers, told by both. -/
structure Nums (n : NetD) (gs : List (List PartD)) (A B C D : List Int) : Prop where
  a : PC 22 [.agg n.cells, gsV gs] (.own 3 (ivs A))
  b : PC 23 [.agg n.cells, gsV gs] (.own 3 (ivs B))
  c : PC 24 [.agg n.cells, gsV gs] (.own 3 (ivs C))
  d : PC 25 [.agg n.cells, gsV gs] (.own 3 (ivs D))
  a' : PC 27 [.agg n.cells, gsV gs] (.own 3 (ivs A))
  b' : PC 28 [.agg n.cells, gsV gs] (.own 3 (ivs B))
  c' : PC 29 [.agg n.cells, gsV gs] (.own 3 (ivs C))
  d' : PC 30 [.agg n.cells, gsV gs] (.own 3 (ivs D))
  al : A.length ≤ 1048576
  bl : B.length ≤ 1048576
  cl : C.length ≤ 1048576
  dl : D.length ≤ 1048576
theorem nums (n : NetD) (hn : n.ok) (gs : List (List PartD)) (hgl : gs.length ≤ 1048576) (hgs : ∀ g ∈ gs, okGoal g) : ∃ A B C D, Nums n gs A B C D := by
  have ha := c_Max n hn gs hgl hgs
  have hb := c_Lower n hn gs hgl hgs
  have hc := c_Upper n hn gs hgl hgs
  have hd := c_Kept n hn gs hgl hgs
  have ha' := r_Max n hn gs hgl hgs
  have hb' := r_Lower n hn gs hgl hgs
  have hc' := r_Upper n hn gs hgl hgs
  have hd' := r_Kept n hn gs hgl hgs
  have hnl := hn.1.1
  rcases numbR_cases n gs with ⟨h1, h2, h3, h4⟩ | ⟨a, b, h1, h2, h3, h4⟩
  · rw [h4] at ha hd; rw [h2] at hb; rw [h3] at hc; rw [h1] at ha' hb' hc' hd'
    exact ⟨[], [], [], [], PCall.ownnil ha, PCall.ownnil hb, PCall.ownnil hc, hd, PCall.ownnil ha', PCall.ownnil hb', PCall.ownnil hc', hd', by simp, by simp, by simp, by simp⟩
  · rw [h4] at ha hd; rw [h2] at hb; rw [h3] at hc; rw [h1] at ha' hb' hc' hd'
    have l2 := numb_len h2
    have l3 := numb_len h3
    have l4 := numb_len h4
    exact ⟨_, _, _, _, ha, hb, hc, hd, ha', hb', hc', hd', by omega, by omega, by omega, by have := keptF_len (l := maxL a b) (s := (0, [])); simp only [List.length_nil] at this; omega⟩
set_option maxRecDepth 40000 in
set_option maxHeartbeats 16000000 in
theorem c_CheckMost (n : NetD) (hn : n.ok) (gs : List (List PartD)) (hgl : gs.length ≤ 1048576) (hgs : ∀ g ∈ gs, okGoal g) : PC 5 [.agg n.cells, gsV gs] (.bool true) := by
  obtain ⟨A, B, C, D, ⟨ha, hb, hc, hd, ha', hb', hc', hd', al, bl, cl, dl⟩⟩ := nums n hn gs hgl hgs
  have h3 := c_live12
  replace ha' := ha'.freeze
  replace hb' := hb'.freeze
  replace hc' := hc'.freeze
  replace hd' := hd'.freeze
  have sa := c_SameInts A (by omega)
  have sb := c_SameInts B (by omega)
  have sc := c_SameInts C (by omega)
  have sd := c_SameInts D (by omega)
  refine PCall_body Tryz.func5 rfl (by decide) Tryz.ntmps5 (by simp) Tryz.results5 ?_
  simp only [NetD.cells, vl, gsV, isV, ivs, List.length_map] at ha hb hc hd ha' hb' hc' hd' sa sb sc sd ⊢
  repeat' (first
    |refine AW_nilcell 5 2 47 rfl rfl (by simp) ?_
    |refine AW_seq_k fun K hK=>?_|refine Step.by1 ?_|refine SBlock_exit_ne (by decide) ?_
    |((first|refine AW_region_AO ?_|refine AS_callO (f:=22) rfl rfl (ha) rfl rfl ?_|refine AS_callO (f:=23) rfl rfl (hb) rfl rfl ?_|refine AS_callO (f:=24) rfl rfl (hc) rfl rfl ?_|refine AS_callO (f:=25) rfl rfl (hd) rfl rfl ?_|refine AS_call1 (f:=14) rfl rfl (h3) rfl rfl rfl ?_|refine AS_call1 (f:=27) rfl rfl (ha') rfl rfl rfl ?_|refine AS_call1 (f:=28) rfl rfl (hb') rfl rfl rfl ?_|refine AS_call1 (f:=29) rfl rfl (hc') rfl rfl rfl ?_|refine AS_call1 (f:=30) rfl rfl (hd') rfl rfl rfl ?_);simp [bookB])
    |(refine Split.by2 (fun h=>?_) (fun h=>?_)<;>(simp [h, bookB]))
    |refine ct rfl ?_|refine cf rfl ?_|refine cnd rfl (fun h=>?_) (fun h=>?_)|refine cd rfl (fun h=>?_) (fun h=>?_)|refine cn rfl (fun h=>?_) (fun h=>?_)|refine cc rfl (fun h=>?_) (fun h=>?_)
    |(refine AS_seen1 (f:=26) rfl ?_ (sa) rfl rfl rfl ?_;(focus (first|rfl|(simp [seenV, bookB];done)));simp [bookB])
    |(refine AS_seen1 (f:=26) rfl ?_ (sb) rfl rfl rfl ?_;(focus (first|rfl|(simp [seenV, bookB];done)));simp [bookB])
    |(refine AS_seen1 (f:=26) rfl ?_ (sc) rfl rfl rfl ?_;(focus (first|rfl|(simp [seenV, bookB];done)));simp [bookB])
    |(refine AS_seen1 (f:=26) rfl ?_ (sd) rfl rfl rfl ?_;(focus (first|rfl|(simp [seenV, bookB];done)));simp [bookB])
    |(refine AS_callG (f := 31) rfl rfl (g_Take (by simp [HL]) rfl rfl (by simp) rfl (by simp) (by simp)) rfl (fun v h' hq => ?_); obtain ⟨rfl, rfl⟩ := hq; simp [bookB])
    |(apply hK;clear hK K)|(refine AWh (by assumption) ?_))
  refine AS_callG (f := 32) rfl rfl (g_Alone (bk := 5) (r := 6) (g := 5) (refs := [(1, 0, A.length), (2, 0, B.length), (3, 0, C.length), (4, 0, D.length), (7, 0, A.length)]) ?_ (by simp) (by simp; omega)) rfl (fun v h' hq => ?_)
  · refine ⟨by simp [HL], rfl, rfl, fun j x hx => ?_, inj_of_nodup (by simp)⟩
    rcases j with _ | _ | _ | _ | _ | j <;> simp at hx <;> subst hx
    · exact ⟨A, rfl, rfl⟩
    · exact ⟨B, rfl, rfl⟩
    · exact ⟨C, rfl, rfl⟩
    · exact ⟨D, rfl, rfl⟩
    · exact ⟨A, rfl, rfl⟩
  · obtain ⟨rfl, _⟩ := hq
    simp
    repeat' (first
    |refine AW_seq_k fun K hK=>?_|refine Step.by1 ?_|refine SBlock_exit_ne (by decide) ?_
    |((first|refine AW_region_AO ?_);simp)
    |(refine Split.by2 (fun h=>?_) (fun h=>?_)<;>(simp [h]))
    |refine ct rfl ?_|refine cf rfl ?_|refine cnd rfl (fun h=>?_) (fun h=>?_)|refine cd rfl (fun h=>?_) (fun h=>?_)|refine cn rfl (fun h=>?_) (fun h=>?_)|refine cc rfl (fun h=>?_) (fun h=>?_)
    |(apply hK;clear hK K)|(refine AWh (by assumption) ?_))
    exact retq1 (conv_eq rfl rfl)
end Go.Proofs.YtgmlimipejcpgaaGreatDoor
end
