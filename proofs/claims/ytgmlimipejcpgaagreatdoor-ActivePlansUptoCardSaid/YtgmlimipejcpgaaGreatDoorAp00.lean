/-
  YtgmlimipejcpgaaGreatDoorAp00: steps of the proof of a law of the program: what these texts prove holds under the hypotheses that their theorems name, and no others.
-/
import Derived.Test.YtgmlimipejcpgaaGreatDoorCo24
section
set_option linter.unusedVariables false
set_option linter.unusedSimpArgs false
namespace Go.AM
section
variable {P : Program} {ge : GEnv} {st : St} {G G' : Gh} {w w' : World} {Q : Exit → St → Prop}
variable {d : Option Tmp} {t : TypeId} {p : String} {af : Array Edge} {g : Option (Nat × Bool)}
theorem AW_view {c : Code} (s : Nat) {b gg off len : Nat} {T : TypeId} {fzn : Nat} {xs : List (List V)} (hs : lk st.tm s = .ref b gg off len) (hb : st.h[b]? = some (.row T gg fzn true xs)) (hle : off + len ≤ xs.length)
    (h : AW P ge c Q { st with tm := (s, .vec (xs.drop off) len) :: st.tm, h := st.h.set b (.row T gg xs.length true xs) }) : AW P ge c Q st := by
  intro G a w hr
  obtain ⟨G', hr', ext⟩ := Rep_view hr hs hb hle
  exact wp_mono (h G' a w hr') fun _ _ _ hp => hp.mono ext fun _ _ h => h
end
end Go.AM
end
section
set_option maxRecDepth 100000
namespace Go.Proofs.YtgmlimipejcpgaaGreatDoor
open Go.AM
namespace Fx
@[simp] theorem sz4 : szOf Tryz.prog 4 = 1 := by kernel_rfl
@[simp] theorem by4 : bytesOf Tryz.prog 4 = 1 := by kernel_rfl
@[simp] theorem zo4 : (zeroOf Tryz.prog 4).isSome = true := by kernel_rfl
@[simp] theorem zd4 : zeroD Tryz.prog 4 = [(.bool false)] := by kernel_rfl
@[simp] theorem ia46 : isAggT Tryz.prog 46 = false := by kernel_rfl
@[simp] theorem fi82_0 : fInfo Tryz.prog 82 0 = some (0, 1) := by kernel_rfl
@[simp] theorem fi82_1 : fInfo Tryz.prog 82 1 = some (1, 1) := by kernel_rfl
@[simp] theorem sz90 : szOf Tryz.prog 90 = 2 := by kernel_rfl
@[simp] theorem ia90 : isAggT Tryz.prog 90 = true := by kernel_rfl
@[simp] theorem fo90_0 : fieldOff Tryz.prog 90 0 = some 0 := by kernel_rfl
@[simp] theorem fo90_1 : fieldOff Tryz.prog 90 1 = some 1 := by kernel_rfl
@[simp] theorem ia140 : isAggT Tryz.prog 140 = false := by kernel_rfl
@[simp] theorem sz144 : szOf Tryz.prog 144 = 1 := by kernel_rfl
@[simp] theorem by144 : bytesOf Tryz.prog 144 = 24 := by kernel_rfl
@[simp] theorem zo144 : (zeroOf Tryz.prog 144).isSome = true := by kernel_rfl
@[simp] theorem zd144 : zeroD Tryz.prog 144 = [.nils] := by kernel_rfl
@[simp] theorem ia144 : isAggT Tryz.prog 144 = false := by kernel_rfl
@[simp] theorem is144 : isSliceT Tryz.prog 144 = true := by kernel_rfl
@[simp] theorem el144 : Go.AM.elemOf Tryz.prog 144 = 4 := by kernel_rfl
@[simp] theorem es144 : elemSz Tryz.prog 144 = 1 := by kernel_rfl
@[simp] theorem is145 : isSliceT Tryz.prog 145 = true := by kernel_rfl
@[simp] theorem el145 : Go.AM.elemOf Tryz.prog 145 = 144 := by kernel_rfl
@[simp] theorem es145 : elemSz Tryz.prog 145 = 1 := by kernel_rfl
end Fx
end Go.Proofs.YtgmlimipejcpgaaGreatDoor
end
section
set_option linter.unusedVariables false
set_option linter.unusedSimpArgs false
namespace Go.AM
section
variable {P : Program} {ge : GEnv}
/-- A prefix has turned; what stands behind it stays; what is new falls. -/
theorem Leaves.tail {a a' e x : List B} (hl : a'.length = a.length) (ha : ∀ y ∈ a', y.lt a'.length) : Leaves (a ++ e) (a' ++ (e ++ x)) (a' ++ e) := by
  refine ⟨by simp [hl], by simp, fun b y hy => .inr ⟨?_, ?_⟩⟩
  · have hlt := (List.getElem?_eq_some_iff.1 hy).1
    rw [← List.append_assoc, List.getElem?_append_left hlt]; exact hy
  · rcases Nat.lt_or_ge b a'.length with h | h
    · rw [List.getElem?_append_left h] at hy
      exact .inr (B.lt_mono (by simp) (ha y (List.mem_of_getElem? hy)))
    · rw [List.getElem?_append_right h] at hy
      refine .inl ?_
      rw [List.getElem?_append_right (by omega), ← hl]; exact hy
end
end Go.AM
end
section
set_option linter.unusedSimpArgs false
set_option linter.unusedVariables false
namespace Go.Proofs.YtgmlimipejcpgaaGreatDoor
open Go Go.AM Fx
def H5 (n : NetD) (fso : Nat) (o : List Int) : List B := [.var n.cells, .var [.fn (.func fso) [] []], .row 3 0 0 true (o.map fun k => [V.int .i64 k]), .var [.ref 2 0 0 o.length], .var [.fn (.func 157) [] [.ptr 1 0, .ptr 3 0]]]
theorem H5_len {n : NetD} {fso : Nat} {o : List Int} : (H5 n fso o).length = 5 := rfl
theorem cells_lt (n : NetD) (k : Nat) : V.lts k n.cells = true := by simp [NetD.cells, vl]
theorem H5_lt {n : NetD} {fso : Nat} {o : List Int} {k : Nat} (hk : 5 ≤ k) : ∀ y ∈ H5 n fso o, y.lt k := by
  intro y hy
  simp only [H5, List.mem_cons, List.not_mem_nil, or_false] at hy
  rcases hy with rfl | rfl | rfl | rfl | rfl
  · exact cells_lt n k
  · simp
  · simp
  · simp; omega
  · simp; omega
set_option maxRecDepth 20000 in
set_option maxHeartbeats 8000000 in
theorem c_raise (n : NetD) (fso : Nat) (so : Int → Bool) (hso : ∀ c, PC fso [.int .u8 c] (.bool (so c))) (l : List GuardD) (o : List Int) (e : List B) (hN : o.length ≤ 1048576) (hl : l.length ≤ 1048576) (hg : ∀ g ∈ l, okG o.length g) (hE : ∀ y ∈ e, y.lt (5 + e.length)) :
    GCall Tryz.prog GV 157 [vl GuardD.cells l, .ptr 1 0, .ptr 3 0] (H5 n fso o ++ e) (fun v h' => v = .int .i64 0 ∧ h' = H5 n fso (raiseL so l o) ++ e) := by
  refine gB1 Tryz.func157 rfl (by decide) Tryz.ntmps157 (by simp) Tryz.results157 ?_
  repeat' (first
 |refine aK fun K hK=>?_|refine Step.by1 ?_|refine sE (by decide) ?_|refine cz rfl ?_|refine Fork.by2 (fun h=>?_) fun h=>?_
 |(refine aR ?_;simp [vl])
 |(refine Split.by2 (fun h=>?_) (fun h=>?_)<;>(simp [h, vl]))
 |(apply hK;clear hK K)|refine AWh ‹_› ?_)
  refine AW_range (r := raiseL so l o) l 9 [1, 2, 7, 8] (fun c : List Int => []) (fun c => H5 n fso c ++ e) (fun i c => c.length = o.length) (raiseL so) o
    rfl rfl (Weak.tail (x := []) (by simp) (by simp [vl, H5_len]; omega) (H5_lt (by simp [H5_len])) (fun y hy => by have := hE y hy; simpa [H5_len, Nat.add_comm] using this)) (fun _ _ _ => by simp [H5_len]) ?_ ?_
  · intro i c x _ hlt hx hJ hF
    rw [raiseL_cons] at hF
    obtain ⟨g1, g2⟩ := hg x (hx ▸ List.getElem_mem hlt)
    have hlt' : (i : Int) < l.length := by omega
    have w1 : IntKind.i64.wrap ((i : Int) + 1) = i + 1 := wI (by omega) (by omega)
    have w2 : IntKind.i64.wrap (x.clock - 1) = x.clock - 1 := wI (by omega) (by omega)
    obtain ⟨p, hp⟩ := Int.eq_ofNat_of_zero_le (show 0 ≤ x.clock - 1 by omega)
    have hpl : p < c.length := by omega
    have hpl' : (p : Int) < c.length := by omega
    have hc := hso x.cmp
    have h1 : raise1 so c x = if so x.cmp = true then c.set p (if x.n > c[p] then x.n else c[p]) else c := by
      unfold raise1; rw [hp]; simp [hpl]
    rw [h1] at hF
    obtain ⟨y, hy⟩ : ∃ y, c[p] = y := ⟨_, rfl⟩
    rw [hy] at hF
    rw [hp] at w2
    cases hs : so x.cmp
    · rw [hs] at hc hF
      rw [if_neg (by simp)] at hF
      repeat' (first
 |refine aK fun K hK=>?_|refine Step.by1 ?_|refine sE (by decide) ?_|refine cz rfl ?_|refine Fork.by2 (fun h=>?_) fun h=>?_
 |(refine aR ?_;simp [vl, H5, GuardD.cells, hlt, hlt', hx, w1])
 |(refine Split.by2 (fun h=>?_) (fun h=>?_)<;>(simp [h, vl, H5, GuardD.cells, hlt, hlt', hx, w1]))
 |(refine aC (f := fso) rfl rfl hc rfl rfl rfl ?_; simp [vl, H5, GuardD.cells])
 |(apply hK;clear hK K)|refine AWh ‹_› ?_)
      refine ⟨c, hF, hJ, ?_⟩
      refine Weak.tail (a := H5 n fso c) (e := e) (x := [B.var x.cells]) (by simp [H5, GuardD.cells]) (by simp [vl, H5_len]; omega) (H5_lt (by simp [H5_len])) (fun y hy => by have := hE y hy; simpa [H5_len, Nat.add_comm] using this)
    · rw [hs] at hc hF
      rw [if_pos rfl] at hF
      repeat' (first
 |refine aK fun K hK=>?_|refine Step.by1 ?_|refine sE (by decide) ?_|refine cz rfl ?_|refine Fork.by2 (fun h=>?_) fun h=>?_
 |((first|refine aR ?_|refine aX (id:=5) 14 mixed (by decide) ?_);simp [vl, H5, GuardD.cells, hlt, hlt', hx, w1, hp, w2, hpl, hpl', hy])
 |(refine Split.by2 (fun h=>?_) (fun h=>?_)<;>(simp [h, vl, H5, GuardD.cells, hlt, hlt', hx, w1, hp, w2, hpl, hpl', hy]))
 |(refine aC (f := fso) rfl rfl hc rfl rfl rfl ?_; simp [vl, H5, GuardD.cells])
 |(apply hK;clear hK K)|refine AWh ‹_› ?_)
      refine ⟨_, hF, by simp [hJ], ?_⟩
      refine Weak.tail (a := H5 n fso _) (e := e) (x := [B.var x.cells]) (by simp [H5, GuardD.cells, hp]) (by simp [vl, H5_len]; omega) (H5_lt (by simp [H5_len])) (fun y hy => by have := hE y hy; simpa [H5_len, Nat.add_comm] using this)
  · intro c hJ hF
    rw [raiseL_nil] at hF
    subst hF
    repeat' (first
 |refine aK fun K hK=>?_|refine Step.by1 ?_|refine sE (by decide) ?_|refine cz rfl ?_|refine Fork.by2 (fun h=>?_) fun h=>?_
 |(refine aR ?_;simp [vl])
 |(refine Split.by2 (fun h=>?_) (fun h=>?_)<;>(simp [h, vl]))
 |(apply hK;clear hK K)|refine AWh ‹_› ?_)
    exact retg1 ⟨rfl, rfl⟩ rfl (by simpa using Go.AM.Leaves.tail (a := H5 n fso o) (a' := H5 n fso (raiseL so l o)) (e := e) (x := []) (by simp [H5_len]) (H5_lt (by simp [H5_len])))
def raiseLs (so : Int → Bool) (l : List LocD) (o : List Int) : List Int := raiseL so (l.flatMap (·.inv)) o
def raiseEs (so : Int → Bool) (l : List EdgeD) (o : List Int) : List Int := raiseL so (l.flatMap (·.guards)) o
def raiseAs (so : Int → Bool) (l : List AutoD) (o : List Int) : List Int := raiseL so (l.flatMap guardsA) o
theorem raiseLs_nil {so : Int → Bool} {o : List Int} : raiseLs so [] o = o := rfl
theorem raiseEs_nil {so : Int → Bool} {o : List Int} : raiseEs so [] o = o := rfl
theorem raiseAs_nil {so : Int → Bool} {o : List Int} : raiseAs so [] o = o := rfl
theorem raiseLs_cons {so : Int → Bool} {x : LocD} {l : List LocD} {o : List Int} : raiseLs so (x :: l) o = raiseLs so l (raiseL so x.inv o) := by simp only [raiseLs, List.flatMap_cons, raiseL_append]
theorem raiseEs_cons {so : Int → Bool} {x : EdgeD} {l : List EdgeD} {o : List Int} : raiseEs so (x :: l) o = raiseEs so l (raiseL so x.guards o) := by simp only [raiseEs, List.flatMap_cons, raiseL_append]
theorem raiseAs_cons {so : Int → Bool} {a : AutoD} {l : List AutoD} {o : List Int} : raiseAs so (a :: l) o = raiseAs so l (raiseEs so a.edges (raiseLs so a.locs o)) := by simp only [raiseAs, raiseEs, raiseLs, List.flatMap_cons, raiseL_append, guardsA]
set_option maxRecDepth 20000 in
set_option maxHeartbeats 8000000 in
theorem c_num2 (n : NetD) (fso : Nat) (so : Int → Bool) (hso : ∀ c, PC fso [.int .u8 c] (.bool (so c))) (x : LocD) (o : List Int) (e : List B) (hN : o.length ≤ 1048576) (hl : x.inv.length ≤ 1048576) (hg : ∀ g ∈ x.inv, okG o.length g) (hE : ∀ y ∈ e, y.lt (5 + e.length)) :
    GCall Tryz.prog GV 158 [.agg x.cells, .ptr 4 0] (H5 n fso o ++ e) (fun v h' => v = .int .i64 0 ∧ h' = H5 n fso (raiseL so x.inv o) ++ e) := by
  have hc := c_raise n fso so hso x.inv o (e ++ [.var x.cells]) hN hl hg (fun y hy => by
    rcases List.mem_append.1 hy with h | h
    · exact B.lt_mono (by simp) (hE y h)
    · simp at h; subst h; simp [LocD.cells, vl])
  refine gB1 Tryz.func158 rfl (by decide) Tryz.ntmps158 (by simp) Tryz.results158 ?_
  repeat' (first
 |refine aK fun K hK=>?_|refine Step.by1 ?_|refine sE (by decide) ?_|refine cz rfl ?_|refine Fork.by2 (fun h=>?_) fun h=>?_
 |(refine aR ?_;simp [vl, H5, LocD.cells])
 |(refine Split.by2 (fun h=>?_) (fun h=>?_)<;>(simp [h, vl, H5, LocD.cells]))
 |(refine aG (f := 157) rfl rfl (hc.imp (by simp [vl]) (by simp [H5, LocD.cells, vl])) rfl (fun v h' hq => ?_); obtain ⟨rfl, rfl⟩ := hq; simp [vl, H5, LocD.cells])
 |(apply hK;clear hK K)|refine AWh ‹_› ?_)
  exact retg1 (h' := H5 n fso (raiseL so x.inv o) ++ e) ⟨rfl, rfl⟩ rfl (by simpa [H5, LocD.cells, vl] using Go.AM.Leaves.tail (a := H5 n fso o) (a' := H5 n fso (raiseL so x.inv o)) (e := e) (x := [.var x.cells]) (by simp [H5_len]) (H5_lt (by simp [H5_len])))
set_option maxRecDepth 20000 in
set_option maxHeartbeats 8000000 in
theorem c_num3 (n : NetD) (fso : Nat) (so : Int → Bool) (hso : ∀ c, PC fso [.int .u8 c] (.bool (so c))) (x : EdgeD) (o : List Int) (e : List B) (hN : o.length ≤ 1048576) (hl : x.guards.length ≤ 1048576) (hg : ∀ g ∈ x.guards, okG o.length g) (hE : ∀ y ∈ e, y.lt (5 + e.length)) :
    GCall Tryz.prog GV 159 [.agg x.cells, .ptr 4 0] (H5 n fso o ++ e) (fun v h' => v = .int .i64 0 ∧ h' = H5 n fso (raiseL so x.guards o) ++ e) := by
  have hc := c_raise n fso so hso x.guards o (e ++ [.var x.cells]) hN hl hg (fun y hy => by
    rcases List.mem_append.1 hy with h | h
    · exact B.lt_mono (by simp) (hE y h)
    · simp at h; subst h; simp [EdgeD.cells, vl])
  refine gB1 Tryz.func159 rfl (by decide) Tryz.ntmps159 (by simp) Tryz.results159 ?_
  repeat' (first
 |refine aK fun K hK=>?_|refine Step.by1 ?_|refine sE (by decide) ?_|refine cz rfl ?_|refine Fork.by2 (fun h=>?_) fun h=>?_
 |(refine aR ?_;simp [vl, H5, EdgeD.cells])
 |(refine Split.by2 (fun h=>?_) (fun h=>?_)<;>(simp [h, vl, H5, EdgeD.cells]))
 |(refine aG (f := 157) rfl rfl (hc.imp (by simp [vl]) (by simp [H5, EdgeD.cells, vl])) rfl (fun v h' hq => ?_); obtain ⟨rfl, rfl⟩ := hq; simp [vl, H5, EdgeD.cells])
 |(apply hK;clear hK K)|refine AWh ‹_› ?_)
  exact retg1 (h' := H5 n fso (raiseL so x.guards o) ++ e) ⟨rfl, rfl⟩ rfl (by simpa [H5, EdgeD.cells, vl] using Go.AM.Leaves.tail (a := H5 n fso o) (a' := H5 n fso (raiseL so x.guards o)) (e := e) (x := [.var x.cells]) (by simp [H5_len]) (H5_lt (by simp [H5_len])))
set_option maxRecDepth 20000 in
set_option maxHeartbeats 8000000 in
theorem c_searchG (n : NetD) (hn : n.ok) (fso : Nat) (so : Int → Bool) (hso : ∀ c, PC fso [.int .u8 c] (.bool (so c))) (o : List Int) (hN : o.length ≤ 1048576) (hg : ∀ g ∈ guardsL n, okG o.length g) :
    GCall Tryz.prog GV 59 [.agg n.cells, .fn (.func 158) [] [.ptr 4 0], .fn (.func 159) [] [.ptr 4 0]] (H5 n fso o) (fun v h' => v = .tup [spotV 0 0 0, .int .i64 0] ∧ h' = H5 n fso (raiseL so (guardsL n) o)) := by
  obtain ⟨r, hr⟩ : ∃ r, raiseL so (guardsL n) o = r := ⟨_, rfl⟩
  have hr' : raiseAs so n.autos o = r := hr
  rw [hr]
  have hgl : ∀ a ∈ n.autos, ∀ x ∈ a.locs, ∀ g ∈ x.inv, okG o.length g := fun a ha x hx g h => hg g (by
    unfold guardsL guardsA
    simp only [List.mem_flatMap, List.mem_append]
    exact ⟨a, ha, .inl ⟨x, hx, h⟩⟩)
  have hge : ∀ a ∈ n.autos, ∀ x ∈ a.edges, ∀ g ∈ x.guards, okG o.length g := fun a ha x hx g h => hg g (by
    unfold guardsL guardsA
    simp only [List.mem_flatMap, List.mem_append]
    exact ⟨a, ha, .inr ⟨x, hx, h⟩⟩)
  clear hg hr
  obtain ⟨_, _, _, h4, h5⟩ := hn
  refine gB1 Tryz.func59 rfl (by decide) Tryz.ntmps59 (by simp) Tryz.results59 ?_
  repeat' (first
 |refine aK fun K hK=>?_|refine Step.by1 ?_|refine sE (by decide) ?_|refine cz rfl ?_|refine Fork.by2 (fun h=>?_) fun h=>?_
 |(refine aR ?_;simp [vl, NetD.cells, H5])
 |(refine Split.by2 (fun h=>?_) (fun h=>?_)<;>(simp [h, vl, NetD.cells, H5]))
 |(apply hK;clear hK K)|refine AWh ‹_› ?_)
  refine AW_range (r := r) n.autos 19 [1, 2, 6, 17, 18] (fun c : List Int => []) (fun c => H5 n fso c ++ [.var n.cells, .var [.int .i64 0, .int .i64 0, .int .i64 0]]) (fun i c => c.length = o.length) (raiseAs so) o
    hr' rfl (by apply Weak.mk' <;> simp [vl, NetD.cells, H5]) (fun _ _ _ => by simp [H5_len]) ?_ ?_
  · intro i c a _ hlt ha hJ hF
    rw [raiseAs_cons] at hF
    have hm : a ∈ n.autos := ha ▸ List.getElem_mem hlt
    have hoa := h5 a hm
    obtain ⟨_, ⟨hl1, hl2⟩, he1, he2⟩ := hoa
    have hlt' : (i : Int) < n.autos.length := by omega
    have w0 : IntKind.i64.wrap ((i : Int) + 1) = i + 1 := wI (by omega) (by omega)
    repeat' (first
 |refine aK fun K hK=>?_|refine Step.by1 ?_|refine sE (by decide) ?_|refine cz rfl ?_|refine Fork.by2 (fun h=>?_) fun h=>?_
 |(refine aR ?_;simp [vl, NetD.cells, AutoD.cells, H5, hlt, hlt', ha])
 |(refine Split.by2 (fun h=>?_) (fun h=>?_)<;>(simp [h, vl, NetD.cells, AutoD.cells, H5, hlt, hlt', ha]))
 |(apply hK;clear hK K)|refine AWh ‹_› ?_)
    obtain ⟨r1, hr1⟩ : ∃ r1, raiseLs so a.locs c = r1 := ⟨_, rfl⟩
    rw [hr1] at hF
    refine AW_range (r := r1) a.locs 27 [1, 2, 6, 8, 9, 17, 18, 19, 25, 26] (fun c : List Int => []) (fun c => H5 n fso c ++ [.var n.cells, .var [.int .i64 0, .int .i64 0, .int .i64 0], .var a.cells]) (fun i c => c.length = o.length) (raiseLs so) c
      hr1 hJ (by apply Weak.mk' <;> simp [vl, NetD.cells, AutoD.cells, H5]) (fun _ _ _ => by simp [H5_len]) ?_ ?_
    · intro k q x _ hkt hx hJ2 hG
      rw [raiseLs_cons] at hG
      have hmx : x ∈ a.locs := hx ▸ List.getElem_mem hkt
      have hox := hl2 x hmx
      have hc := c_num2 n fso so hso x q [.var n.cells, .var [.int .i64 0, .int .i64 0, .int .i64 0], .var a.cells, .var x.cells] (by omega) hox.2.2.1 (fun g h => by rw [hJ2]; exact hgl a hm x hmx g h) (by simp [NetD.cells, AutoD.cells, LocD.cells, vl])
      have hq1 : (raiseL so x.inv q).length = q.length := raiseL_len
      have hkt' : (k : Int) < a.locs.length := by omega
      have w1 : IntKind.i64.wrap ((k : Int) + 1) = k + 1 := wI (by omega) (by omega)
      generalize raiseL so x.inv q = q' at *
      repeat' (first
 |refine aK fun K hK=>?_|refine Step.by1 ?_|refine sE (by decide) ?_|refine cz rfl ?_|refine Fork.by2 (fun h=>?_) fun h=>?_
 |(refine aR ?_;simp [vl, NetD.cells, AutoD.cells, LocD.cells, H5, hkt, hkt', hx, w1])
 |(refine Split.by2 (fun h=>?_) (fun h=>?_)<;>(simp [h, vl, NetD.cells, AutoD.cells, LocD.cells, H5, hkt, hkt', hx, w1]))
 |(refine aG (f := 158) rfl rfl (hc.imp (by simp [vl, LocD.cells]) (by simp [H5, NetD.cells, AutoD.cells, LocD.cells, vl])) rfl (fun v h' hq => ?_); obtain ⟨rfl, rfl⟩ := hq; simp [vl, H5, NetD.cells, AutoD.cells, LocD.cells])
 |(apply hK;clear hK K)|refine AWh ‹_› ?_)
      exact ⟨q', hG, by omega, by apply Weak.mk' <;> simp [vl, NetD.cells, AutoD.cells, H5]⟩
    · intro q hJ2 hG
      rw [raiseLs_nil] at hG
      subst hG
      repeat' (first
 |refine aK fun K hK=>?_|refine Step.by1 ?_|refine sE (by decide) ?_|refine cz rfl ?_|refine Fork.by2 (fun h=>?_) fun h=>?_
 |(refine aR ?_;simp [vl, NetD.cells, AutoD.cells, H5])
 |(refine Split.by2 (fun h=>?_) (fun h=>?_)<;>(simp [h, vl, NetD.cells, AutoD.cells, H5]))
 |(apply hK;clear hK K)|refine AWh ‹_› ?_)
      obtain ⟨r2, hr2⟩ : ∃ r2, raiseEs so a.edges q = r2 := ⟨_, rfl⟩
      rw [hr2] at hF
      refine AW_range (r := r2) a.edges 45 [1, 2, 6, 8, 17, 18, 19, 43, 44] (fun c : List Int => []) (fun c => H5 n fso c ++ [.var n.cells, .var [.int .i64 0, .int .i64 0, .int .i64 0], .var a.cells]) (fun i c => c.length = o.length) (raiseEs so) q
        hr2 hJ2 (by apply Weak.mk' <;> simp [vl, NetD.cells, AutoD.cells, H5]) (fun _ _ _ => by simp [H5_len]) ?_ ?_
      · intro k q2 x _ hkt hx hJ3 hG
        rw [raiseEs_cons] at hG
        have hmx : x ∈ a.edges := hx ▸ List.getElem_mem hkt
        have hox := he2 x hmx
        have hc := c_num3 n fso so hso x q2 [.var n.cells, .var [.int .i64 0, .int .i64 0, .int .i64 0], .var a.cells, .var x.cells] (by omega) hox.2.2.1.1 (fun g h => by rw [hJ3]; exact hge a hm x hmx g h) (by simp [NetD.cells, AutoD.cells, EdgeD.cells, vl])
        have hq1 : (raiseL so x.guards q2).length = q2.length := raiseL_len
        have hkt' : (k : Int) < a.edges.length := by omega
        have w1 : IntKind.i64.wrap ((k : Int) + 1) = k + 1 := wI (by omega) (by omega)
        generalize raiseL so x.guards q2 = q' at *
        repeat' (first
 |refine aK fun K hK=>?_|refine Step.by1 ?_|refine sE (by decide) ?_|refine cz rfl ?_|refine Fork.by2 (fun h=>?_) fun h=>?_
 |(refine aR ?_;simp [vl, NetD.cells, AutoD.cells, EdgeD.cells, H5, hkt, hkt', hx, w1])
 |(refine Split.by2 (fun h=>?_) (fun h=>?_)<;>(simp [h, vl, NetD.cells, AutoD.cells, EdgeD.cells, H5, hkt, hkt', hx, w1]))
 |(refine aG (f := 159) rfl rfl (hc.imp (by simp [vl, EdgeD.cells]) (by simp [H5, NetD.cells, AutoD.cells, EdgeD.cells, vl])) rfl (fun v h' hq => ?_); obtain ⟨rfl, rfl⟩ := hq; simp [vl, H5, NetD.cells, AutoD.cells, EdgeD.cells])
 |(apply hK;clear hK K)|refine AWh ‹_› ?_)
        exact ⟨q', hG, by omega, by apply Weak.mk' <;> simp [vl, NetD.cells, AutoD.cells, H5]⟩
      · intro q2 hJ3 hG
        rw [raiseEs_nil] at hG
        subst hG
        repeat' (first
 |refine aK fun K hK=>?_|refine Step.by1 ?_|refine sE (by decide) ?_|refine cz rfl ?_|refine Fork.by2 (fun h=>?_) fun h=>?_
 |(refine aR ?_;simp [vl, NetD.cells, AutoD.cells, H5, w0])
 |(refine Split.by2 (fun h=>?_) (fun h=>?_)<;>(simp [h, vl, NetD.cells, AutoD.cells, H5, w0]))
 |(apply hK;clear hK K)|refine AWh ‹_› ?_)
        exact ⟨q2, hF, hJ3, by apply Weak.mk' <;> simp [vl, NetD.cells, H5]⟩
  · intro c hJ hF
    rw [raiseAs_nil] at hF
    subst hF
    repeat' (first
 |refine aK fun K hK=>?_|refine Step.by1 ?_|refine sE (by decide) ?_|refine cz rfl ?_|refine Fork.by2 (fun h=>?_) fun h=>?_
 |(refine aR ?_;simp [vl, NetD.cells, H5])
 |(refine Split.by2 (fun h=>?_) (fun h=>?_)<;>(simp [h, vl, NetD.cells, H5]))
 |(apply hK;clear hK K)|refine AWh ‹_› ?_)
    exact retg2c (h' := H5 n fso c) rfl (by simp) ⟨by simp [spotV], rfl⟩ (by simp) (by simpa [H5, NetD.cells, vl] using Go.AM.Leaves.tail (a := H5 n fso o) (a' := H5 n fso c) (e := []) (x := [.var n.cells, .var [.int .i64 0, .int .i64 0, .int .i64 0]]) (by simp [H5_len]) (H5_lt (by simp [H5_len])))
theorem raisePs_len {so : Int → Bool} {l : List PartD} {o : List Int} : (raisePs so l o).length = o.length := raiseL_len
def numG (n : NetD) (so : Int → Bool) : List (List PartD) → List Int → Option (List Int)
  | [], o => some o
  | g :: r, o => if goalE n g ≠ 0 then none else numG n so r (raisePs so g o)
theorem numG_nil {n : NetD} {so : Int → Bool} {o : List Int} : numG n so [] o = some o := rfl
theorem numG_cons {n : NetD} {so : Int → Bool} {g : List PartD} {r : List (List PartD)} {o : List Int} : numG n so (g :: r) o = if goalE n g ≠ 0 then none else numG n so r (raisePs so g o) := rfl
def numbE (n : NetD) (so : Int → Bool) (gs : List (List PartD)) : Option (List Int) :=
  if netE n ≠ 0 then none else numG n so gs (raiseL so (guardsL n) (List.replicate n.clocks.length (-1)))
/-- Numbers, or nil. -/
def numV : Option (List Int) → V
  | none => .nils
  | some o => .own 3 (o.map fun k => [V.int .i64 k])
theorem set_next {c : List Int} {i : Nat} (h : ∀ j, j < i → c[j]? = some (-1)) (hi : i < c.length) : ∀ j, j < i + 1 → (c.set i (-1))[j]? = some (-1) := fun j hj => by
  rw [List.getElem?_set]
  by_cases e : i = j
  · subst e; simp [hi]
  · rw [if_neg e]; exact h j (by omega)
theorem all_set {c : List Int} {N : Nat} (hN : c.length = N) (h : ∀ j, j < N → c[j]? = some (-1)) : c = List.replicate N (-1) := by
  apply List.ext_getElem?
  intro i
  by_cases hi : i < N
  · rw [h i hi]; simp [hi]
  · rw [List.getElem?_eq_none (by omega), List.getElem?_eq_none (by simp; omega)]
set_option maxRecDepth 20000 in
set_option maxHeartbeats 16000000 in
theorem c_numbers (n : NetD) (hn : n.ok) (fso : Nat) (so : Int → Bool) (hso : ∀ c, PC fso [.int .u8 c] (.bool (so c))) (gs : List (List PartD)) (hgl : gs.length ≤ 1048576) (hgs : ∀ g ∈ gs, okGoal g) :
    PC 79 [.agg n.cells, gsV gs, .fn (.func fso) [] []] (numV (numbE n so gs)) := by
  have hN := c_Net n hn
  have hcl : n.clocks.length ≤ 1048576 := hn.1.1
  obtain ⟨r, hr⟩ : ∃ r, numbE n so gs = r := ⟨_, rfl⟩
  rw [hr]
  unfold numbE at hr
  simp only [vl, NetD.cells] at hN
  refine pB Tryz.func79 rfl (by decide) Tryz.ntmps79 (by simp) Tryz.results79 ?_
  by_cases hz : netE n = 0
  · rw [if_neg (by simp [hz])] at hr
    rw [hz] at hN
    have hgd := whole_guards (netE_whole hz)
    have b1 : (n.clocks.length : Int) * 8 ≤ 281474976710656 := by omega
    repeat' (first
 |refine aK fun K hK=>?_|refine Step.by1 ?_|refine sE (by decide) ?_|refine cz rfl ?_|refine Fork.by2 (fun h=>?_) fun h=>?_
 |((first|refine aR ?_|refine aC (f:=15) rfl rfl (hN) rfl rfl rfl ?_);simp [gsV, vl, NetD.cells, b1])
 |(refine Split.by2 (fun h=>?_) (fun h=>?_)<;>(simp [h, gsV, vl, NetD.cells, b1]))
 |(apply hK;clear hK K)|refine AWh ‹_› ?_)
    refine aL [1, 3, 5, 7, 22] (fun s : Nat × List Int => [(23, .int .i64 s.1)]) (fun s => [.var n.cells, .var [.fn (.func fso) [] []], .row 3 0 0 true (s.2.map fun k => [V.int .i64 k]), .var [.ref 2 0 0 n.clocks.length]]) (fun s => s.1 ≤ n.clocks.length ∧ s.2.length = n.clocks.length ∧ ∀ j, j < s.1 → s.2[j]? = some (-1)) (fun s => n.clocks.length - s.1) (0, List.replicate n.clocks.length 0) ⟨Nat.zero_le _, by simp, fun j hj => by omega⟩ (by apply Weak.mk' <;> simp [vl, NetD.cells]) (fun _ _ => rfl) ?_
    rintro ⟨i, c⟩ ⟨hi, hlen, hset⟩
    simp only at hi hlen hset
    by_cases hlt : i < n.clocks.length
    · have hlt' : (i : Int) < n.clocks.length := by omega
      have hic : i < c.length := by omega
      have w1 : IntKind.i64.wrap ((i : Int) + 1) = i + 1 := wI (by omega) (by omega)
      repeat' (first
 |refine aK fun K hK=>?_|refine Step.by1 ?_|refine sE (by decide) ?_|refine cz rfl ?_|refine Fork.by2 (fun h=>?_) fun h=>?_
 |(refine aR ?_;simp [gsV, vl, NetD.cells, hlt, hlt', hic, hlen, w1])
 |(refine Split.by2 (fun h=>?_) (fun h=>?_)<;>(simp [h, gsV, vl, NetD.cells, hlt, hlt', hic, hlen, w1]))
 |(apply hK;clear hK K)|refine AWh ‹_› ?_)
      refine ⟨i + 1, c.set i (-1), ⟨by omega, by simp [hlen], set_next hset hic⟩, by omega, ?_⟩
      apply Weak.mk' <;> simp [vl, NetD.cells]
    · have hlt' : ¬ (i : Int) < n.clocks.length := by omega
      have hc := all_set hlen (fun j hj => hset j (by omega))
      rw [← hc] at hr
      clear hset
      have hS := c_searchG n hn fso so hso c (by omega) (by rw [hlen]; exact hgd)
      have hl2 : (raiseL so (guardsL n) c).length = n.clocks.length := by rw [raiseL_len, hlen]
      generalize raiseL so (guardsL n) c = o at *
      clear hc
      repeat' (first
 |refine aK fun K hK=>?_|refine Step.by1 ?_|refine sE (by decide) ?_|refine cz rfl ?_|refine Fork.by2 (fun h=>?_) fun h=>?_
 |(refine aR ?_;simp [gsV, vl, NetD.cells, hlt, hlt'])
 |(refine Split.by2 (fun h=>?_) (fun h=>?_)<;>(simp [h, gsV, vl, NetD.cells, hlt, hlt']))
 |(refine aG (f := 59) rfl rfl (hS.imp (by simp [vl, NetD.cells]) (by simp [H5, NetD.cells, vl, hlen])) rfl (fun v h' hq => ?_); obtain ⟨rfl, rfl⟩ := hq; simp [vl, H5, NetD.cells])
 |(apply hK;clear hK K)|refine AWh ‹_› ?_)
      refine AW_range (r := r) gs 37 [3, 7, 9, 35, 36] (fun c : List Int => []) (fun c => H5 n fso c) (fun i c => c.length = n.clocks.length) (numG n so) o
        hr hl2 (by apply Weak.mk' <;> simp [vl, NetD.cells, H5]) (fun _ _ _ => by simp [H5_len, H5]) ?_ ?_
      · intro k q g _ hkt hg hJ hF
        rw [numG_cons] at hF
        have hgo := hgs g (hg ▸ List.getElem_mem hkt)
        have hc := c_Goal n hn g hgo
        obtain ⟨hg1, hg2⟩ := hgo
        have hgg := goal_guards (n := n) (g := g)
        have hkt' : (k : Int) < gs.length := by omega
        have w1 : IntKind.i64.wrap ((k : Int) + 1) = k + 1 := wI (by omega) (by omega)
        simp only [vl, NetD.cells] at hc
        generalize goalE n g = ge at *
        by_cases hge : ge = 0
        · rw [if_neg (by simp [hge])] at hF
          rw [hge] at hc
          have hgg := hgg hge
          repeat' (first
 |refine aK fun K hK=>?_|refine Step.by1 ?_|refine sE (by decide) ?_|refine cz rfl ?_|refine Fork.by2 (fun h=>?_) fun h=>?_
 |((first|refine aR ?_|refine aC (f:=19) rfl rfl (hc) rfl rfl rfl ?_);simp [gsV, vl, NetD.cells, H5, hkt, hkt', hg])
 |(refine Split.by2 (fun h=>?_) (fun h=>?_)<;>(simp [h, gsV, vl, NetD.cells, H5, hkt, hkt', hg]))
 |(apply hK;clear hK K)|refine AWh ‹_› ?_)
          obtain ⟨o2, ho2⟩ : ∃ o2, raisePs so g q = o2 := ⟨_, rfl⟩
          have hl3 : o2.length = n.clocks.length := by rw [← ho2, raisePs_len, hJ]
          rw [ho2] at hF
          refine AW_range (r := o2) g 47 [3, 7, 9, 35, 36, 37, 45, 46] (fun c : List Int => []) (fun c => H5 n fso c) (fun i c => c.length = n.clocks.length) (raisePs so) q
            ho2 hJ (by apply Weak.mk' <;> simp [vl, NetD.cells, H5]) (fun _ _ _ => by simp [H5_len, H5]) ?_ ?_
          · intro m q2 p _ hmt hp hJ2 hG
            rw [raisePs_cons] at hG
            have hmp : p ∈ g := hp ▸ List.getElem_mem hmt
            have hR := c_raise n fso so hso p.guards q2 [.var p.cells] (by omega) (hg2 p hmp).2.1.1 (fun x hx => by rw [hJ2]; exact hgg p hmp x hx) (by simp [PartD.cells, vl])
            have hl4 : (raiseL so p.guards q2).length = n.clocks.length := by rw [raiseL_len, hJ2]
            have hmt' : (m : Int) < g.length := by omega
            have w2 : IntKind.i64.wrap ((m : Int) + 1) = m + 1 := wI (by omega) (by omega)
            generalize raiseL so p.guards q2 = q' at *
            repeat' (first
 |refine aK fun K hK=>?_|refine Step.by1 ?_|refine sE (by decide) ?_|refine cz rfl ?_|refine Fork.by2 (fun h=>?_) fun h=>?_
 |(refine aR ?_;simp [gsV, vl, NetD.cells, PartD.cells, H5, hmt, hmt', hp, w2])
 |(refine Split.by2 (fun h=>?_) (fun h=>?_)<;>(simp [h, gsV, vl, NetD.cells, PartD.cells, H5, hmt, hmt', hp, w2]))
 |(refine aG (f := 157) rfl rfl (hR.imp (by simp [vl]) (by simp [H5, NetD.cells, PartD.cells, vl])) rfl (fun v h' hq => ?_); obtain ⟨rfl, rfl⟩ := hq; simp [vl, H5, NetD.cells, PartD.cells])
 |(apply hK;clear hK K)|refine AWh ‹_› ?_)
            exact ⟨q', hG, hl4, by apply Weak.mk' <;> simp [vl, NetD.cells, H5]⟩
          · intro q2 hJ2 hG
            rw [raisePs_nil] at hG
            subst hG
            repeat' (first
 |refine aK fun K hK=>?_|refine Step.by1 ?_|refine sE (by decide) ?_|refine cz rfl ?_|refine Fork.by2 (fun h=>?_) fun h=>?_
 |(refine aR ?_;simp [gsV, vl, NetD.cells, H5, w1])
 |(refine Split.by2 (fun h=>?_) (fun h=>?_)<;>(simp [h, gsV, vl, NetD.cells, H5, w1]))
 |(apply hK;clear hK K)|refine AWh ‹_› ?_)
            exact ⟨q2, hF, hJ2, by apply Weak.mk' <;> simp [vl, NetD.cells, H5]⟩
        · rw [if_pos hge] at hF
          subst hF
          repeat' (first
 |refine aK fun K hK=>?_|refine Step.by1 ?_|refine sE (by decide) ?_|refine cz rfl ?_|refine Fork.by2 (fun h=>?_) fun h=>?_
 |((first|refine aR ?_|refine aC (f:=19) rfl rfl (hc) rfl rfl rfl ?_);simp [gsV, vl, NetD.cells, H5, hkt, hkt', hg, hge])
 |(refine Split.by2 (fun h=>?_) (fun h=>?_)<;>(simp [h, gsV, vl, NetD.cells, H5, hkt, hkt', hg, hge]))
 |(apply hK;clear hK K)|refine AWh ‹_› ?_)
          exact r1q (cE rfl rfl)
      · intro q hJ hF
        rw [numG_nil] at hF
        subst hF
        repeat' (first
 |refine aK fun K hK=>?_|refine Step.by1 ?_|refine sE (by decide) ?_|refine cz rfl ?_|refine Fork.by2 (fun h=>?_) fun h=>?_
 |(refine aR ?_;simp [gsV, vl, NetD.cells, H5])
 |(refine Split.by2 (fun h=>?_) (fun h=>?_)<;>(simp [h, gsV, vl, NetD.cells, H5]))
 |(apply hK;clear hK K)|refine AWh ‹_› ?_)
        exact r1q (.inr (.inl (conv1_own rfl (by simp))))
  · rw [if_pos hz] at hr
    subst hr
    repeat' (first
 |refine aK fun K hK=>?_|refine Step.by1 ?_|refine sE (by decide) ?_|refine cz rfl ?_|refine Fork.by2 (fun h=>?_) fun h=>?_
 |((first|refine aR ?_|refine aC (f:=15) rfl rfl (hN) rfl rfl rfl ?_);simp [gsV, vl, NetD.cells, hz])
 |(refine Split.by2 (fun h=>?_) (fun h=>?_)<;>(simp [h, gsV, vl, NetD.cells, hz]))
 |(apply hK;clear hK K)|refine AWh ‹_› ?_)
    exact r1q (cE rfl rfl)
end Go.Proofs.YtgmlimipejcpgaaGreatDoor
end
