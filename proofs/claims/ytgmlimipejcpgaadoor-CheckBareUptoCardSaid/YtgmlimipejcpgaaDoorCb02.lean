/-
  YtgmlimipejcpgaaDoorCb02: steps of the proof of a law of the program: what these texts prove holds under the hypotheses that their theorems name, and no others.
-/
import Derived.Test.YtgmlimipejcpgaaDoorCb01
section
set_option linter.unusedSimpArgs false
set_option linter.unusedVariables false
namespace Go.Proofs.YtgmlimipejcpgaaDoor
open Go Go.AM Fx
/-- The clocks that some number is held against. -/
def keptF : List Int → Nat × List Int → List Int
  | [], s => s.2
  | x :: r, s => keptF r (s.1 + 1, if 0 ≤ x then s.2 ++ [(s.1 : Int) + 1] else s.2)
theorem keptF_nil {s : Nat × List Int} : keptF [] s = s.2 := rfl
theorem keptF_cons {x : Int} {r : List Int} {s : Nat × List Int} : keptF (x :: r) s = keptF r (s.1 + 1, if 0 ≤ x then s.2 ++ [(s.1 : Int) + 1] else s.2) := rfl
def keptO : Option (List Int) → V
  | none => .own 3 []
  | some o => .own 3 ((keptF o (0, [])).map fun k => [V.int .i64 k])
theorem numb_len {n : NetD} {so : Int → Bool} {gs : List (List PartD)} {o : List Int} (h : numbE n so gs = some o) : o.length = n.clocks.length := by
  have key : ∀ (gs : List (List PartD)) (c o : List Int), numG n so gs c = some o → o.length = c.length := by
    intro gs
    induction gs with
    | nil => intro c o h; rw [numG_nil] at h; cases h; rfl
    | cons g r ih =>
      intro c o h
      rw [numG_cons] at h
      split at h
      · cases h
      · rw [ih _ _ h, raisePs_len]
  unfold numbE at h
  split at h
  · cases h
  · rw [key _ _ _ h, raiseL_len]; simp
set_option maxRecDepth 20000 in
set_option maxHeartbeats 8000000 in
theorem c_Kept (n : NetD) (hn : n.ok) (gs : List (List PartD)) (hgl : gs.length ≤ 1048577) (hgs : ∀ g ∈ gs, okGoal g) : PC 13 [.agg n.cells, gsV gs] (keptO (numbE n (fun _ => true) gs)) := by
  have hc := c_Max n hn gs hgl hgs
  simp only [gsV, vl, NetD.cells] at hc
  cases h : numbE n (fun _ => true) gs with
  | none =>
    rw [h] at hc
    simp only [numV, keptO] at hc ⊢
    refine pB Tryd.func13 rfl (by decide) Tryd.ntmps13 (by simp) Tryd.results13 ?_
    repeat' (first
 |refine aK fun K hK=>?_|refine Step.by1 ?_|refine sE (by decide) ?_|refine cz rfl ?_|refine Fork.by2 (fun h=>?_) fun h=>?_
 |((first|refine aR ?_|refine aC (f:=7) rfl rfl (hc) rfl rfl rfl ?_);simp [gsV, vl, NetD.cells])
 |(refine Split.by2 (fun h=>?_) (fun h=>?_)<;>(simp [h, gsV, vl, NetD.cells]))
 |(apply hK;clear hK K)|refine AWh ‹_› ?_)
    refine AW_nilrow 5 3 rfl (by simp) ?_
    refine AW_loop0 ?_
    repeat' (first
 |refine aK fun K hK=>?_|refine Step.by1 ?_|refine sE (by decide) ?_|refine cz rfl ?_|refine Fork.by2 (fun h=>?_) fun h=>?_
 |(refine aR ?_;simp [gsV, vl, NetD.cells])
 |(refine Split.by2 (fun h=>?_) (fun h=>?_)<;>(simp [h, gsV, vl, NetD.cells]))
 |(apply hK;clear hK K)|refine AWh ‹_› ?_)
    exact r1q (.inr (.inl (conv1_own (xs := []) rfl (by simp))))
  | some o =>
    rw [h] at hc
    have hol := numb_len h
    have hnl := hn.1.1
    obtain ⟨r, hr⟩ : ∃ r, keptF o (0, []) = r := ⟨_, rfl⟩
    simp only [numV, keptO, hr] at hc ⊢
    refine pB Tryd.func13 rfl (by decide) Tryd.ntmps13 (by simp) Tryd.results13 ?_
    repeat' (first
 |refine aK fun K hK=>?_|refine Step.by1 ?_|refine sE (by decide) ?_|refine cz rfl ?_|refine Fork.by2 (fun h=>?_) fun h=>?_
 |((first|refine aR ?_|refine AS_callO (f:=7) rfl rfl (hc) rfl rfl ?_);simp [gsV, vl, NetD.cells])
 |(refine Split.by2 (fun h=>?_) (fun h=>?_)<;>(simp [h, gsV, vl, NetD.cells]))
 |(apply hK;clear hK K)|refine AWh ‹_› ?_)
    refine AW_nilrow 5 3 rfl (by simp) ?_
    refine AW_range (r := r) o 12 [10, 11] (fun s : Nat × List Int => [(5, .ref 2 s.2.length 0 s.2.length)]) (fun s => [.var n.cells, .row 3 0 0 true (o.map fun k => [V.int .i64 k]), .row 3 s.2.length 0 true (s.2.map fun k => [V.int .i64 k])]) (fun i s => s.1 = i ∧ s.2.length ≤ i) keptF (0, [])
      hr ⟨rfl, Nat.le_refl _⟩ (by apply Weak.mk' <;> simp [vl, NetD.cells]) (fun _ _ _ => by simp) ?_ ?_
    · rintro i ⟨q, a⟩ x _ hlt hx ⟨hq, hal⟩ hF
      simp only at hq hal
      subst hq
      rw [keptF_cons] at hF
      simp only at hF
      have hlt' : (q : Int) < o.length := by omega
      have w1 : IntKind.i64.wrap ((q : Int) + 1) = q + 1 := wI (by omega) (by omega)
      have hby : (a.length + 1) * 8 ≤ 140737488355328 := by omega
      by_cases hx0 : 0 ≤ x
      · rw [if_pos hx0] at hF
        repeat' (first
 |refine aK fun K hK=>?_|refine Step.by1 ?_|refine sE (by decide) ?_|refine cz rfl ?_|refine Fork.by2 (fun h=>?_) fun h=>?_
 |(refine aR ?_;simp [gsV, vl, NetD.cells, hlt, hlt', hx, w1, hx0, hby])
 |(refine Split.by2 (fun h=>?_) (fun h=>?_)<;>(simp [h, gsV, vl, NetD.cells, hlt, hlt', hx, w1, hx0, hby]))
 |(apply hK;clear hK K)|refine AWh ‹_› ?_)
        refine ⟨q + 1, a ++ [(q : Int) + 1], hF, ⟨rfl, by simp; omega⟩, ?_⟩
        apply Weak.mk' <;> simp [vl, NetD.cells]
      · rw [if_neg hx0] at hF
        repeat' (first
 |refine aK fun K hK=>?_|refine Step.by1 ?_|refine sE (by decide) ?_|refine cz rfl ?_|refine Fork.by2 (fun h=>?_) fun h=>?_
 |(refine aR ?_;simp [gsV, vl, NetD.cells, hlt, hlt', hx, w1, hx0])
 |(refine Split.by2 (fun h=>?_) (fun h=>?_)<;>(simp [h, gsV, vl, NetD.cells, hlt, hlt', hx, w1, hx0]))
 |(apply hK;clear hK K)|refine AWh ‹_› ?_)
        refine ⟨q + 1, a, hF, ⟨rfl, by show a.length ≤ q + 1; omega⟩, ?_⟩
        apply Weak.mk' <;> simp [vl, NetD.cells]
    · rintro ⟨q, a⟩ ⟨hq, hal⟩ hF
      rw [keptF_nil] at hF
      simp only at hq hal hF
      subst hF
      repeat' (first
 |refine aK fun K hK=>?_|refine Step.by1 ?_|refine sE (by decide) ?_|refine cz rfl ?_|refine Fork.by2 (fun h=>?_) fun h=>?_
 |(refine aR ?_;simp [gsV, vl, NetD.cells])
 |(refine Split.by2 (fun h=>?_) (fun h=>?_)<;>(simp [h, gsV, vl, NetD.cells]))
 |(apply hK;clear hK K)|refine AWh ‹_› ?_)
      exact r1q (.inr (.inl (conv1_own rfl (by simp))))
theorem num_small : numbE smallN (fun _ => true) [] = some [5] := by kernel_rfl
theorem num_smallG : numbE smallN lowB smallG = some [7] := by kernel_rfl
theorem net_bare : netE bareN = 2 := by kernel_rfl
set_option maxRecDepth 20000 in
set_option maxHeartbeats 4000000 in
theorem c_live12 : PC 9 [] (.bool true) := by
  have h0 := c_small
  have h1 := c_Max smallN small_ok [] (by simp) (by simp)
  rw [num_small] at h1
  have h1' := PCall.denil (args := [.agg smallN.cells, .nils]) h1 rfl
  have h2 := c_Lower smallN small_ok smallG (by simp [smallG]) smallG_ok
  rw [num_smallG] at h2
  have h2' := PCall.dn (args := [.agg smallN.cells, .vec [[.vec [[.nils, .vec [[.int .i64 1, .int .i64 0, .int .u8 5, .int .i64 7]] 1, .nils]] 1]] 1]) h2 rfl
  have h3 := c_Net smallN small_ok
  rw [net_small] at h3
  have h4 := c_Net bareN bare_ok
  rw [net_bare] at h4
  have h4' := PCall.dn (args := [.agg [.nils, .nils, .nils, .nils]]) h4 rfl
  clear h1 h2 h4
  have hcs : smallN.cells = [.vec [[.str ⟨#[120]⟩]] 1, .vec [] 0, .vec [] 0, .vec [[.str ⟨#[65]⟩, .vec [[.str ⟨#[97]⟩, .int .u8 0, .vec [[.int .i64 1, .int .i64 0, .int .u8 2, .int .i64 5]] 1], [.str ⟨#[98]⟩, .int .u8 0, .vec [] 0]] 2, .vec [[.int .i64 0, .int .i64 1, .vec [[.int .i64 1, .int .i64 0, .int .u8 4, .int .i64 3]] 1, .vec [] 0, .int .i64 0, .bool false, .vec [[.int .i64 1, .int .i64 0, .int .i64 0, .vec [] 0]] 1]] 1]] 1] := rfl
  simp only [numV, List.map_cons, List.map_nil] at h1' h2'
  rw [hcs] at h0 h1' h2' h3
  refine pB Tryd.func9 rfl (by decide) Tryd.ntmps9 (by simp) Tryd.results9 ?_
  repeat' (first
 |(refine AW_region_AOL (id := 3) ?_;simp)
 |refine aK fun K hK=>?_|refine Step.by1 ?_|refine sE (by decide) ?_|refine cz rfl ?_|refine Fork.by2 (fun h=>?_) fun h=>?_
 |((first|refine aR ?_|refine aC (f:=36) rfl rfl (h0) rfl rfl rfl ?_|refine AS_callO (f:=7) rfl rfl (h1') rfl rfl ?_|refine AS_callO (f:=37) rfl rfl (h2') rfl rfl ?_|refine aC (f:=10) rfl rfl (h3) rfl rfl rfl ?_|refine aC (f:=10) rfl rfl (h4') rfl rfl rfl ?_);simp)
 |(refine Split.by2 (fun h=>?_) (fun h=>?_)<;>(simp [h]))
 |(apply hK;clear hK K)|refine AWh ‹_› ?_)
  exact r1q (cE rfl rfl)
end Go.Proofs.YtgmlimipejcpgaaDoor
end
section
set_option linter.unusedVariables false
set_option linter.unusedSimpArgs false
namespace Go.Proofs.YtgmlimipejcpgaaDoor
open Go Go.AM Fx
theorem retgc {P : Program} {st : St} {t : Nat} {T : TypeId} {cs : List V} {off : Nat} {Q : V → List B → Prop} {h0 h' : List B} (hp : place st.h (lk st.tm t) = some (cs, off)) (ho : loadOk P T cs off) (hq : Q (loadV P T cs off) h')
    (hv : (loadV P T cs off).lt h'.length = true) (hl : Go.AM.Leaves h0 st.h h') : RetG P #[.cell t T] Q h0 .ret st :=
  ⟨.inr rfl, _, h', ⟨cs, off, hp, ho, rfl⟩, hq, hv, hl⟩
set_option maxHeartbeats 4000000 in
theorem c_eachLocO (f : Nat) (l : List LocD) (hl : l.length ≤ 1048576) (hf : ∀ x ∈ l, PC f [.agg x.cells] (.agg x.cells)) : PC 28 [vl LocD.cells l, .fn (.func f) [] []] (.own 45 (l.map LocD.cells)) := by
  refine pB Tryd.func28 rfl (by decide) Tryd.ntmps28 (by simp) Tryd.results28 ?_
  repeat' (first
 |refine aK fun K hK=>?_|refine Step.by1 ?_|refine sE (by decide) ?_|refine cz rfl ?_|refine Fork.by2 (fun h=>?_) fun h=>?_
 |(refine aR ?_;simp [vl])
 |(refine Split.by2 (fun h=>?_) (fun h=>?_)<;>(simp [h, vl]))
 |(apply hK;clear hK K)|refine AWh ‹_› ?_)
  refine AW_nilrow 5 45 rfl (by simp) ?_
  refine aL [1, 8, 9] (fun i : Nat => [(5, .ref 0 i 0 i), (10, .int .i64 i)]) (fun i => [.row 45 i 0 true ((l.take i).map LocD.cells)]) (fun i => i ≤ l.length) (fun i => l.length - i) 0 (Nat.zero_le _) (by apply Weak.mk' <;> simp [vl]) (fun _ _ => rfl) ?_
  intro i hi
  by_cases hlt : i < l.length
  · obtain ⟨x, hx⟩ : ∃ x, l[i] = x := ⟨_, rfl⟩
    have hc := hf x (hx ▸ List.getElem_mem hlt)
    have hlt' : (i : Int) < l.length := by omega
    have w1 : IntKind.i64.wrap ((i : Int) + 1) = i + 1 := wI (by omega) (by omega)
    have hby : (i + 1) * 48 ≤ 140737488355328 := by omega
    have hli : min i l.length = i := by omega
    have hts : List.take (i + 1) (l.map LocD.cells) = List.take i (l.map LocD.cells) ++ [x.cells] := by rw [List.take_add_one, List.getElem?_map, List.getElem?_eq_getElem hlt, hx]; simp
    simp only [LocD.cells, vl] at hc hts
    repeat' (first
 |refine aK fun K hK=>?_|refine Step.by1 ?_|refine sE (by decide) ?_|refine cz rfl ?_|refine Fork.by2 (fun h=>?_) fun h=>?_
 |(refine aR ?_;simp [vl, LocD.cells, hlt, hlt', hx, w1, hby, hli])
 |(refine Split.by2 (fun h=>?_) (fun h=>?_)<;>(simp [h, vl, LocD.cells, hlt, hlt', hx, w1, hby, hli]))
 |(refine aC (f := f) rfl rfl hc rfl rfl rfl ?_; simp [vl, LocD.cells, hby, hli])
 |(apply hK;clear hK K)|refine AWh ‹_› ?_)
    refine ⟨i + 1, by omega, by omega, ?_⟩
    apply Weak.mk' <;> simp [vl, hts]
  · obtain rfl : i = l.length := by omega
    repeat' (first
 |refine aK fun K hK=>?_|refine Step.by1 ?_|refine sE (by decide) ?_|refine cz rfl ?_|refine Fork.by2 (fun h=>?_) fun h=>?_
 |(refine aR ?_;simp [vl])
 |(refine Split.by2 (fun h=>?_) (fun h=>?_)<;>(simp [h, vl]))
 |(apply hK;clear hK K)|refine AWh ‹_› ?_)
    exact r1q (conv_own rfl (by simp))
set_option maxHeartbeats 4000000 in
theorem c_eachEdgeO (f : Nat) (l : List EdgeD) (hl : l.length ≤ 1048576) (hf : ∀ x ∈ l, PC f [.agg x.cells] (.agg x.cells)) : PC 31 [vl EdgeD.cells l, .fn (.func f) [] []] (.own 49 (l.map EdgeD.cells)) := by
  refine pB Tryd.func31 rfl (by decide) Tryd.ntmps31 (by simp) Tryd.results31 ?_
  repeat' (first
 |refine aK fun K hK=>?_|refine Step.by1 ?_|refine sE (by decide) ?_|refine cz rfl ?_|refine Fork.by2 (fun h=>?_) fun h=>?_
 |(refine aR ?_;simp [vl])
 |(refine Split.by2 (fun h=>?_) (fun h=>?_)<;>(simp [h, vl]))
 |(apply hK;clear hK K)|refine AWh ‹_› ?_)
  refine AW_nilrow 5 49 rfl (by simp) ?_
  refine aL [1, 8, 9] (fun i : Nat => [(5, .ref 0 i 0 i), (10, .int .i64 i)]) (fun i => [.row 49 i 0 true ((l.take i).map EdgeD.cells)]) (fun i => i ≤ l.length) (fun i => l.length - i) 0 (Nat.zero_le _) (by apply Weak.mk' <;> simp [vl]) (fun _ _ => rfl) ?_
  intro i hi
  by_cases hlt : i < l.length
  · obtain ⟨x, hx⟩ : ∃ x, l[i] = x := ⟨_, rfl⟩
    have hc := hf x (hx ▸ List.getElem_mem hlt)
    have hlt' : (i : Int) < l.length := by omega
    have w1 : IntKind.i64.wrap ((i : Int) + 1) = i + 1 := wI (by omega) (by omega)
    have hby : (i + 1) * 104 ≤ 140737488355328 := by omega
    have hli : min i l.length = i := by omega
    have hts : List.take (i + 1) (l.map EdgeD.cells) = List.take i (l.map EdgeD.cells) ++ [x.cells] := by rw [List.take_add_one, List.getElem?_map, List.getElem?_eq_getElem hlt, hx]; simp
    simp only [EdgeD.cells, vl] at hc hts
    repeat' (first
 |refine aK fun K hK=>?_|refine Step.by1 ?_|refine sE (by decide) ?_|refine cz rfl ?_|refine Fork.by2 (fun h=>?_) fun h=>?_
 |(refine aR ?_;simp [vl, EdgeD.cells, hlt, hlt', hx, w1, hby, hli])
 |(refine Split.by2 (fun h=>?_) (fun h=>?_)<;>(simp [h, vl, EdgeD.cells, hlt, hlt', hx, w1, hby, hli]))
 |(refine aC (f := f) rfl rfl hc rfl rfl rfl ?_; simp [vl, EdgeD.cells, hby, hli])
 |(apply hK;clear hK K)|refine AWh ‹_› ?_)
    refine ⟨i + 1, by omega, by omega, ?_⟩
    apply Weak.mk' <;> simp [vl, hts]
  · obtain rfl : i = l.length := by omega
    repeat' (first
 |refine aK fun K hK=>?_|refine Step.by1 ?_|refine sE (by decide) ?_|refine cz rfl ?_|refine Fork.by2 (fun h=>?_) fun h=>?_
 |(refine aR ?_;simp [vl])
 |(refine Split.by2 (fun h=>?_) (fun h=>?_)<;>(simp [h, vl]))
 |(apply hK;clear hK K)|refine AWh ‹_› ?_)
    exact r1q (conv_own rfl (by simp))
/-- An automaton whose rows are its own. -/
def refA (t : Nat × Nat) (a : AutoD) : List V := [.str a.name, .ref t.1 0 0 a.locs.length, .ref t.2 0 0 a.edges.length]
set_option maxHeartbeats 4000000 in
theorem g_CopyAuto (x : AutoD) (hx : x.ok) {h : List B} (hh : HL h) : GCall Tryd.prog GV 27 [.agg x.cells] h (fun v h' => v = .agg (refA (h.length + 2, h.length + 3) x) ∧
    h' = h ++ [.var (refA (h.length + 2, h.length + 3) x), .var (refA (h.length + 2, h.length + 3) x), .row 45 0 0 true (x.locs.map LocD.cells), .row 49 0 0 true (x.edges.map EdgeD.cells)]) := by
  have hl := c_eachLocO 29 x.locs hx.2.1.1 (fun y hy => c_CopyLoc y (hx.2.1.2 y hy))
  have he := c_eachEdgeO 32 x.edges hx.2.2.1 (fun y hy => c_CopyEdge y (hx.2.2.2 y hy))
  have g0 := fun x : List B => ga0 (h := h) (x := x) rfl
  have g1 := fun (x : List B) (k : Nat) => ga1 (h := h) (x := x) (k := k) rfl
  have s0 := fun (x : List B) (y : B) => sa0 (h := h) (x := x) (y := y) rfl
  have s1 := fun (x : List B) (k : Nat) (y : B) => sa1 (h := h) (x := x) (k := k) (y := y) rfl
  simp only [vl] at hl he
  refine gB1 Tryd.func27 rfl (by decide) Tryd.ntmps27 (by simp) Tryd.results27 ?_
  repeat' (first
 |refine aK fun K hK=>?_|refine Step.by1 ?_|refine sE (by decide) ?_|refine cz rfl ?_|refine Fork.by2 (fun h=>?_) fun h=>?_
 |((first|refine aR ?_|refine AS_callO (f:=28) rfl rfl (hl) rfl rfl ?_|refine AS_callO (f:=31) rfl rfl (he) rfl rfl ?_);simp [vl, AutoD.cells, g0, g1, s0, s1])
 |(refine Split.by2 (fun h=>?_) (fun h=>?_)<;>(simp [h, vl, AutoD.cells, g0, g1, s0, s1]))
 |(apply hK;clear hK K)|refine AWh ‹_› ?_)
  have hH : HL (h ++ [B.var (refA (h.length + 2, h.length + 3) x), .var (refA (h.length + 2, h.length + 3) x), .row 45 0 0 true (x.locs.map LocD.cells), .row 49 0 0 true (x.edges.map EdgeD.cells)]) := hh.app (by simp [refA])
  refine retgc (by simp [g0, g1]; exact ⟨rfl, rfl⟩) (by simp) (h' := h ++ [B.var (refA (h.length + 2, h.length + 3) x), .var (refA (h.length + 2, h.length + 3) x), .row 45 0 0 true (x.locs.map LocD.cells), .row 49 0 0 true (x.edges.map EdgeD.cells)]) ⟨by simp [refA], rfl⟩ (by simp) ?_
  exact Go.AM.Leaves.sym (by simp) hH
/-- Automata in a row of one's own, their locations and edges in others. -/
def rowsA (l : List AutoD) (T : List (Nat × Nat)) : List (List V) := List.zipWith (fun a t => refA t a) l T
theorem rowsA_len {l : List AutoD} {T : List (Nat × Nat)} (h : T.length = l.length) : (rowsA l T).length = l.length := by simp [rowsA, h]
theorem rowsA_get {l : List AutoD} {T : List (Nat × Nat)} {i : Nat} {a : AutoD} {t : Nat × Nat} (ha : l[i]? = some a) (ht : T[i]? = some t) : (rowsA l T)[i]? = some (refA t a) := by simp [rowsA, List.getElem?_zipWith, ha, ht]
theorem rowsA_snoc {l : List AutoD} {T : List (Nat × Nat)} {a : AutoD} {t : Nat × Nat} (h : T.length = l.length) : rowsA (l ++ [a]) (T ++ [t]) = rowsA l T ++ [refA t a] := by
  unfold rowsA; rw [List.zipWith_append h.symm]; rfl
theorem rowsA_lt {n : Nat} : ∀ {l : List AutoD} {T : List (Nat × Nat)}, (∀ t ∈ T, t.1 < n ∧ t.2 < n) → ∀ x ∈ rowsA l T, V.lts n x = true
  | [], _, _, x, hx => by simp [rowsA] at hx
  | a :: l, [], _, x, hx => by simp [rowsA] at hx
  | a :: l, t :: T, h, x, hx => by
    rw [show rowsA (a :: l) (t :: T) = refA t a :: rowsA l T from rfl] at hx
    rcases List.mem_cons.1 hx with rfl | hx
    · have := h t (by simp)
      simp [refA, this.1, this.2]
    · exact rowsA_lt (fun s hs => h s (by simp [hs])) x hx
structure AT (o : Nat) (h : List B) (b g : Nat) (fl : Bool) (l : List AutoD) (T : List (Nat × Nat)) : Prop where
  at0 : h[b]? = some (.row 41 g 0 fl (rowsA l T))
  flat : fl = true → l = []
  len : T.length = l.length
  rows : ∀ (i : Nat) (a : AutoD) (t : Nat × Nat), l[i]? = some a → T[i]? = some t → h[t.1]? = some (.row 45 0 0 true (a.locs.map LocD.cells)) ∧ h[t.2]? = some (.row 49 0 0 true (a.edges.map EdgeD.cells))
  low : o ≤ b ∧ ∀ t ∈ T, o ≤ t.1 ∧ o ≤ t.2
  one : ∀ (i j : Nat) (t s : Nat × Nat), T[i]? = some t → T[j]? = some s → (t.1 = s.1 ∨ t.2 = s.2) → i = j
section
variable {o b g : Nat} {h h' hc : List B} {fl : Bool} {l : List AutoD} {T : List (Nat × Nat)}
theorem AT.b_lt (p : AT o h b g fl l T) : b < h.length := (List.getElem?_eq_some_iff.1 p.at0).1
theorem AT.t_lt (p : AT o h b g fl l T) : ∀ t ∈ T, t.1 < h.length ∧ t.2 < h.length := fun t ht => by
  obtain ⟨i, hi⟩ := List.getElem?_of_mem ht
  have hil : i < l.length := by rw [← p.len]; exact (List.getElem?_eq_some_iff.1 hi).1
  obtain ⟨h1, h2⟩ := p.rows i _ t (List.getElem?_eq_getElem hil) hi
  exact ⟨(List.getElem?_eq_some_iff.1 h1).1, (List.getElem?_eq_some_iff.1 h2).1⟩
theorem AT.mono (p : AT o h b g fl l T) (hh : ∀ k, k < h.length → h'[k]? = h[k]?) : AT o h' b g fl l T :=
  ⟨by rw [hh _ p.b_lt]; exact p.at0, p.flat, p.len, fun i a t ha ht => by
    obtain ⟨h1, h2⟩ := p.rows i a t ha ht
    have := p.t_lt t (List.mem_of_getElem? ht)
    exact ⟨by rw [hh _ this.1]; exact h1, by rw [hh _ this.2]; exact h2⟩, p.low, p.one⟩
/-- An automaton more, its rows behind what there was. -/
theorem AT.snoc (p : AT o h b g fl l T) (ho : o ≤ h.length) (hh : ∀ k, k < h.length → hc[k]? = h[k]?) {a : AutoD} {t : Nat × Nat} (ht : h.length ≤ t.1 ∧ h.length ≤ t.2) (h1 : hc[t.1]? = some (.row 45 0 0 true (a.locs.map LocD.cells))) (h2 : hc[t.2]? = some (.row 49 0 0 true (a.edges.map EdgeD.cells))) :
    AT o (hc.set b (.row 41 (g + 1) 0 false (rowsA l T ++ [refA t a]))) b (g + 1) false (l ++ [a]) (T ++ [t]) := by
  have p2 := p.mono hh
  have hb := p2.b_lt
  have hb0 := p.b_lt
  have hat := p2.at0
  refine ⟨?_, fun h => (by cases h), by simp [p.len], fun i x s hx hs => ?_, ⟨p.low.1, fun s hs => ?_⟩, fun i j s u hs hu hsu => ?_⟩
  · rw [rowsA_snoc p.len, List.getElem?_set, if_pos rfl, if_pos hb]
  · by_cases hi : i < l.length
    · rw [List.getElem?_append_left hi] at hx
      rw [List.getElem?_append_left (by rw [p.len]; exact hi)] at hs
      obtain ⟨k1, k2⟩ := p2.rows i x s hx hs
      exact ⟨by rw [gN (fun e => by rw [← e, hat] at k1; simp at k1)]; exact k1, by rw [gN (fun e => by rw [← e, hat] at k2; simp at k2)]; exact k2⟩
    · have hi2 : i = l.length := by have := (List.getElem?_eq_some_iff.1 hx).1; simp at this; omega
      subst hi2
      simp at hx; subst hx
      rw [← p.len] at hs
      simp at hs; subst hs
      exact ⟨by rw [gN (by omega)]; exact h1, by rw [gN (by omega)]; exact h2⟩
  · rcases List.mem_append.1 hs with hs | hs
    · exact p.low.2 s hs
    · simp at hs; subst hs; exact ⟨by omega, by omega⟩
  · have key : ∀ (i : Nat) (s : Nat × Nat), (T ++ [t])[i]? = some s → (i < T.length ∧ s.1 < h.length ∧ s.2 < h.length ∧ T[i]? = some s) ∨ (i = T.length ∧ s = t) := fun i s hs => by
      by_cases hi : i < T.length
      · rw [List.getElem?_append_left hi] at hs
        have := p.t_lt s (List.mem_of_getElem? hs)
        exact .inl ⟨hi, this.1, this.2, hs⟩
      · have hi2 : i = T.length := by have := (List.getElem?_eq_some_iff.1 hs).1; simp at this; omega
        subst hi2
        simp at hs; exact .inr ⟨rfl, hs.symm⟩
    rcases key i s hs with ⟨a1, a2, a3, a4⟩ | ⟨a1, rfl⟩ <;> rcases key j u hu with ⟨b1, b2, b3, b4⟩ | ⟨b1, rfl⟩
    · exact p.one i j s u a4 b4 hsu
    · omega
    · omega
    · omega
end
structure EA where
  i : Nat
  hc : List B
  fl : Bool
  T : List (Nat × Nat)
set_option maxRecDepth 20000 in
set_option maxHeartbeats 16000000 in
theorem g_eachAuto (l : List AutoD) (hl : l.length ≤ 1048576) (hok : ∀ a ∈ l, a.ok) {h : List B} (hh : HL h) : GCall Tryd.prog GV 26 [vl AutoD.cells l, .fn (.func 27) [] []] h
    (fun v h' => ∃ b g fl T, v = .ref b g 0 l.length ∧ Old h h' ∧ AT h.length h' b g fl l T) := by
  refine gB1 Tryd.func26 rfl (by decide) Tryd.ntmps26 (by simp) Tryd.results26 ?_
  repeat' (first
 |refine aK fun K hK=>?_|refine Step.by1 ?_|refine sE (by decide) ?_|refine cz rfl ?_|refine Fork.by2 (fun h=>?_) fun h=>?_
 |(refine aR ?_;simp [vl])
 |(refine Split.by2 (fun h=>?_) (fun h=>?_)<;>(simp [h, vl]))
 |(apply hK;clear hK K)|refine AWh ‹_› ?_)
  refine AW_nilrow 5 41 rfl (by simp) ?_
  refine AW_loopGL [1, 8, 9] (fun s : EA => [(5, .ref h.length s.i 0 s.i), (10, .int .i64 s.i)]) (fun s => s.hc) (fun s => s.i ≤ l.length ∧ Old h s.hc ∧ AT h.length s.hc h.length s.i s.fl (l.take s.i) s.T) (fun s => l.length - s.i) ⟨0, h ++ [B.row 41 0 0 true []], true, []⟩
    ⟨Nat.zero_le _, (Old.rfl hh).app (hh.app (by simp)), ⟨by rw [ga0 rfl]; rfl, fun _ => rfl, by simp, fun i a t ha ht => by simp at ht, ⟨Nat.le_refl _, by simp⟩, fun i j t s ht => by simp at ht⟩⟩
    (Weak.sym (x := []) (by simp) (hh.app (by simp)) (by simp [vl])) (fun s hs => by have := hs.2.2.b_lt; simp; omega) ?_
  rintro ⟨i, hc, fl, T⟩ ⟨hi, ho, hp⟩
  simp only at hi ho hp
  have hTl : T.length = i := by rw [hp.len]; simp; omega
  by_cases hlt : i < l.length
  · obtain ⟨a, haa⟩ : ∃ a, l[i] = a := ⟨_, rfl⟩
    have ham : a ∈ l := haa ▸ List.getElem_mem hlt
    have hta : l.take (i + 1) = l.take i ++ [a] := by rw [List.take_add_one, List.getElem?_eq_getElem hlt, haa]; rfl
    have hlt' : (i : Int) < l.length := by omega
    have w1 : IntKind.i64.wrap ((i : Int) + 1) = i + 1 := wI (by omega) (by omega)
    have hby : (i + 1) * 64 ≤ 140737488355328 := by omega
    have g0 := fun x : List B => ga0 (h := hc) (x := x) rfl
    have hA0 : HL (hc ++ [B.var a.cells]) := ho.hl.push (by simp [AutoD.cells, vl])
    have hcA := g_CopyAuto a (hok a ham) hA0
    have hrl : (rowsA (l.take i) T).length = i := by rw [rowsA_len hp.len]; simp; omega
    have hbl := hp.b_lt
    have kb := fun x : List B => (get_app (x := x) hbl).trans hp.at0
    have sb := fun (x : List B) (y : B) => set_app (x := x) (y := y) hbl
    simp only [AutoD.cells, vl] at hcA hA0
    repeat' (first
 |refine aK fun K hK=>?_|refine Step.by1 ?_|refine sE (by decide) ?_|refine cz rfl ?_|refine Fork.by2 (fun h=>?_) fun h=>?_
 |(refine aR ?_;simp [vl, AutoD.cells, hlt, hlt', haa, g0])
 |(refine Split.by2 (fun h=>?_) (fun h=>?_)<;>(simp [h, vl, AutoD.cells, hlt, hlt', haa, g0]))
 |(refine aG (f := 27) rfl rfl hcA rfl (fun v h3 hq => ?_); obtain ⟨rfl, rfl⟩ := hq; simp [kb, sb, hrl, hby, refA])
 |(apply hK;clear hK K)|refine AWh ‹_› ?_)
    have hsn := hp.snoc (hc := hc ++ [B.var a.cells, .var (refA (hc.length + 3, hc.length + 4) a), .var (refA (hc.length + 3, hc.length + 4) a), .row 45 0 0 true (a.locs.map LocD.cells), .row 49 0 0 true (a.edges.map EdgeD.cells)]) (a := a) (t := (hc.length + 3, hc.length + 4)) ho.len (fun k hk => get_app hk) ⟨by simp, by simp⟩ (ga1 (k := 3) rfl) (ga1 (k := 4) rfl)
    rw [sb, ← hta] at hsn
    have hold := ho.setapp (b := h.length) (y := B.row 41 (i + 1) 0 false (rowsA (l.take i) T ++ [refA (hc.length + 3, hc.length + 4) a])) (x := [B.var a.cells, .var (refA (hc.length + 3, hc.length + 4) a), .var (refA (hc.length + 3, hc.length + 4) a), .row 45 0 0 true (a.locs.map LocD.cells), .row 49 0 0 true (a.edges.map EdgeD.cells)]) (Nat.le_refl _) (ho.hl.setapp (rowR_lt fun y hy => by
      rcases List.mem_append.1 hy with hy | hy
      · exact rowsA_lt (fun t ht => by have := hp.t_lt t ht; simp; omega) y hy
      · simp at hy; subst hy; simp [refA]) (by simp [refA, AutoD.cells, vl]))
    repeat' (first
 |refine aK fun K hK=>?_|refine Step.by1 ?_|refine sE (by decide) ?_|refine cz rfl ?_|refine Fork.by2 (fun h=>?_) fun h=>?_
 |(refine aR ?_;simp [w1])
 |(refine Split.by2 (fun h=>?_) (fun h=>?_)<;>(simp [h, w1]))
 |(apply hK;clear hK K)|refine AWh ‹_› ?_)
    exact ⟨⟨i + 1, _, false, T ++ [(hc.length + 3, hc.length + 4)]⟩, ⟨by show i + 1 ≤ _; omega, hold, hsn⟩, by show _ - (i + 1) < _ - i; omega,
      Weak.sym (x := [B.row 41 0 0 false [refA (hc.length + 3, hc.length + 4) a]]) (by simp [refA, AutoD.cells, vl]) hold.hl (by have := ho.len; have := hp.b_lt; simp [vl]; omega)⟩
  · obtain rfl : i = l.length := by omega
    rw [List.take_length] at hp
    repeat' (first
 |refine aK fun K hK=>?_|refine Step.by1 ?_|refine sE (by decide) ?_|refine cz rfl ?_|refine Fork.by2 (fun h=>?_) fun h=>?_
 |(refine aR ?_;simp [vl])
 |(refine Split.by2 (fun h=>?_) (fun h=>?_)<;>(simp [h, vl]))
 |(apply hK;clear hK K)|refine AWh ‹_› ?_)
    exact retg1 ⟨h.length, l.length, fl, T, rfl, ho, hp⟩ (by simp; exact hp.b_lt) (Go.AM.Leaves.sym ho.len ho.hl)
end Go.Proofs.YtgmlimipejcpgaaDoor
end
section
set_option linter.unusedSimpArgs false
set_option linter.unusedVariables false
namespace Go.Proofs.YtgmlimipejcpgaaDoor
open Go Go.AM Fx
def numO : Option (List Int) → List Int
  | none => []
  | some l => l
theorem PCall.nilemp {f : Nat} {args : List V} (hc : PCall Tryd.prog GV f args .nils) : PCall Tryd.prog GV f args (.vec [] 0) :=
  hc.same rfl (fun _ _ _ h => by cases h; exact .emp (Nat.zero_le _)) trivial
theorem c_MaxF (n : NetD) (hn : n.ok) (gs : List (List PartD)) (hgl : gs.length ≤ 1048577) (hgs : ∀ g ∈ gs, okGoal g) : PC 7 [.agg n.cells, gsV gs] (isV (numO (numbE n (fun _ => true) gs))) := by
  have h := c_Max n hn gs hgl hgs
  cases e : numbE n (fun _ => true) gs with
  | none => rw [e] at h; exact PCall.nilemp h
  | some M =>
    rw [e] at h
    have := PCall.freeze h
    simpa [isV, numO] using this
end Go.Proofs.YtgmlimipejcpgaaDoor
end
