/-
  YtgmlimipejcpgaaDoorLo06: steps of the proof of a law of the program: what these texts prove holds under the hypotheses that their theorems name, and no others.
-/
import Derived.Test.YtgmlimipejcpgaaDoorLo05
section
set_option linter.unusedSimpArgs false
set_option linter.unusedVariables false
namespace Go.Proofs.YtgmlimipejcpgaaDoor
open Go Go.AM Fx
theorem c_luRaiseX {h hc x : List B} {mr gm N : Nat} {fl : Bool} {ids : List (Nat × Nat)} {m : List (List Int)} (p0 : MR 30 3 ivs h mr gm fl ids N m hc) (hx : HL (hc ++ x)) (hN : N ≤ 1048576) (fso : Nat) (so : Int → Bool) (hso : ∀ c, PC fso [.int .u8 c] (.bool (so c))) {p : Nat} {y : Nat × Nat} {r : List Int} (hy : ids[p]? = some y) (hr : m[p]? = some r)
    (l : List GuardD) (hl : l.length ≤ 1048576) (hg : ∀ g ∈ l, okG N g) (hp : ids.length ≤ 1048576) :
    GCall Tryd.prog GV 111 [.ref mr gm 0 ids.length, .int .i64 p, vl GuardD.cells l, .fn (.func fso) [] []] (hc ++ x) (fun v h' => v = .tup [] ∧ h' = hc.set y.1 (.row 3 y.2 0 true (ivs (raiseL so l r))) ++ x) := by
  obtain ⟨_, _, _, h3⟩ := p0.rows p y hy
  refine (c_luRaise (p0.appx hx) hN fso so hso hy hr l hl hg).mono fun v h' hq => ⟨hq.1, ?_⟩
  rw [hq.2, set_app (List.getElem?_eq_some_iff.1 h3).1]
theorem c_luRaiseC {h hc x : List B} {mr gm N : Nat} {fl : Bool} {ids : List (Nat × Nat)} {m : List (List Int)} (p0 : MR 30 3 ivs h mr gm fl ids N m hc) (hN : N ≤ 1048576) (fso : Nat) (so : Int → Bool) (hso : ∀ c, PC fso [.int .u8 c] (.bool (so c))) {p : Nat} {y : Nat × Nat} {c : List Int} (hy : ids[p]? = some y) (hcl : c.length = N) (hx : HL (hc.set y.1 (.row 3 y.2 0 true (ivs c)) ++ x))
    (l : List GuardD) (hl : l.length ≤ 1048576) (hg : ∀ g ∈ l, okG N g) (hp : ids.length ≤ 1048576) :
    GCall Tryd.prog GV 111 [.ref mr gm 0 ids.length, .int .i64 p, vl GuardD.cells l, .fn (.func fso) [] []] (hc.set y.1 (.row 3 y.2 0 true (ivs c)) ++ x) (fun v h' => v = .tup [] ∧ h' = hc.set y.1 (.row 3 y.2 0 true (ivs (raiseL so l c))) ++ x) := by
  have hpl : p < m.length := by rw [p0.ml]; exact (List.getElem?_eq_some_iff.1 hy).1
  refine (c_luRaiseX (p0.upd hy hcl) hx hN fso so hso hy (r := c) (by rw [List.getElem?_set, if_pos rfl, if_pos hpl]) l hl hg hp).mono fun v h' hq => ⟨hq.1, ?_⟩
  rw [hq.2, List.set_set]
structure LO where
  i : Nat
  hc : List B
  fl : Bool
  ids : List (Nat × Nat × Nat)
structure LOI (n : NetD) (a : AutoD) (N : Nat) (h : List B) (s : LO) : Prop where
  i : s.i ≤ a.locs.length
  ho : Old h s.hc
  c0 : s.hc[h.length]? = some (.var n.cells)
  c1 : s.hc[h.length + 1]? = some (.var a.cells)
  il : s.ids.length = s.i
  iN : ∀ x ∈ s.ids, x.2.2 = N
  p : N2 h.length s.hc (h.length + 2) s.i s.fl s.ids (List.replicate s.i (List.replicate N (-1)))
set_option maxRecDepth 20000 in
set_option maxHeartbeats 16000000 in
theorem c_luOf (n : NetD) (hn : n.ok) (a : AutoD) (ham : a ∈ n.autos) (gs : List (List PartD)) (hgl : gs.length ≤ 1048577) (hgs : ∀ g ∈ gs, okGoal g) (he : lookE n gs = 0) (fso : Nat) (so : Int → Bool) (hso : ∀ c, PC fso [.int .u8 c] (.bool (so c))) {h : List B} (hl : HL h) :
    GCall Tryd.prog GV 97 [.agg n.cells, .agg a.cells, gsV gs, .fn (.func fso) [] []] h (fun v h' => ∃ b g fl ids, v = .ref b g 0 ids.length ∧ Old h h' ∧ N2 h.length h' b g fl ids (luM a n.clocks.length (luB a n.clocks.length so gs))) := by
  obtain ⟨h0, hgg⟩ := look_ok he
  have hw := netE_whole h0
  have hE := edges_ok hw a ham
  have ha := hn.2.2.2.2 a ham
  have hal := ha.2.1
  have hae := ha.2.2
  have hN := hn.1.1
  have hgA : ∀ x ∈ guardsA a, okG n.clocks.length x := fun x hx => whole_guards hw x (List.mem_flatMap.2 ⟨a, ham, hx⟩)
  have hgI : ∀ l ∈ a.locs, ∀ x ∈ l.inv, okG n.clocks.length x := fun l hl x hx => hgA x (List.mem_append.2 (.inl (List.mem_flatMap.2 ⟨l, hl, hx⟩)))
  have hgE : ∀ e ∈ a.edges, ∀ x ∈ e.guards, okG n.clocks.length x := fun e he x hx => hgA x (List.mem_append.2 (.inr (List.mem_flatMap.2 ⟨e, he, hx⟩)))
  have hgG : ∀ g ∈ gs, ∀ p ∈ g, ∀ x ∈ p.guards, okG n.clocks.length x := fun g hg => goal_guards (hgg g hg)
  obtain ⟨N, hNe⟩ : ∃ N, n.clocks.length = N := ⟨_, rfl⟩
  rw [hNe] at hgA hgI hgE hgG hN ⊢
  refine gB1 Tryd.func97 rfl (by decide) Tryd.ntmps97 (by simp) Tryd.results97 ?_
  repeat' (first
 |refine aK fun K hK=>?_|refine Step.by1 ?_|refine sE (by decide) ?_|refine cz rfl ?_|refine Fork.by2 (fun h=>?_) fun h=>?_
 |(refine aR ?_;simp [gsV, vl, NetD.cells, AutoD.cells])
 |(refine Split.by2 (fun h=>?_) (fun h=>?_)<;>(simp [h, gsV, vl, NetD.cells, AutoD.cells]))
 |(apply hK;clear hK K)|refine AWh ‹_› ?_)
  refine AW_nilrow 9 30 rfl (by simp) ?_
  have hH0 : HL (h ++ [B.var n.cells, B.var a.cells, B.row 30 0 0 true []]) := hl.app (by simp [NetD.cells, AutoD.cells, vl])
  have u0 := ga0 (h := h) (x := [B.var n.cells, B.var a.cells, B.row 30 0 0 true []]) rfl
  have u1 := ga1 (h := h) (x := [B.var n.cells, B.var a.cells, B.row 30 0 0 true []]) (k := 1) rfl
  have u2 := ga1 (h := h) (x := [B.var n.cells, B.var a.cells, B.row 30 0 0 true []]) (k := 2) rfl
  have hNb : (N : Int) ≤ 281474976710656 := by omega
  refine AW_loopGL [2, 3, 4, 5, 20] (fun s : LO => [(9, .ref (h.length + 2) s.i 0 s.i), (21, .int .i64 s.i)]) (fun s => s.hc) (LOI n a N h) (fun s => a.locs.length - s.i) ⟨0, h ++ [B.var n.cells, B.var a.cells, B.row 30 0 0 true []], true, []⟩
    ⟨Nat.zero_le _, (Old.rfl hl).app hH0, u0, u1, rfl, by simp, ⟨u2, fun _ => rfl, rfl, fun i y hy => by simp at hy, ⟨by omega, by simp⟩, by simp⟩⟩
    (Weak.sym (x := []) (by simp [NetD.cells, AutoD.cells, vl]) hH0 (by simp [vl, gsV])) (fun s hs => by have := hs.ho.len; have := hs.p.b_lt; simp; omega) ?_
  clear u0 u1 u2 hH0
  rintro ⟨i, hc, fl, ids⟩ ⟨hi, ho, c0, c1, hil, hiN, hp⟩
  simp only at hi ho c0 c1 hil hiN hp
  by_cases hlt : i < a.locs.length
  · have hlt' : (i : Int) < a.locs.length := by omega
    have w1 : IntKind.i64.wrap ((i : Int) + 1) = i + 1 := wI (by omega) (by omega)
    have hby : (i + 1) * 24 ≤ 140737488355328 := by omega
    have hb := hp.b_lt
    have l0 := (List.getElem?_eq_some_iff.1 c0).1
    have l1 := (List.getElem?_eq_some_iff.1 c1).1
    have k0 := fun x : List B => (get_app (x := x) l0).trans c0
    have kb := fun x : List B => (get_app (x := x) hb).trans hp.at0
    have sb := fun (x : List B) (y : B) => set_app (x := x) (y := y) hb
    have g0 := fun x : List B => ga0 (h := hc) (x := x) rfl
    have g1 := fun (x : List B) (k : Nat) => ga1 (h := hc) (x := x) (k := k) rfl
    have hml : (ids.map fun x => [rv x]).length = i := by simp [hil]
    have hH1 : HL (hc ++ [B.row 3 0 0 true (ivs [-1])]) := ho.hl.app (by simp)
    have hrep := c_repeat hH1 (b := hc.length) (g := 0) (f := 0) (x := -1) (by rw [g0]; rfl) N hN
    have hp1 : N2 h.length (hc ++ [B.row 3 0 0 true (ivs [-1])]) (h.length + 2) i fl ids (List.replicate i (List.replicate N (-1))) := hp.mono fun k hk => get_app hk
    have hsn := hp1.snoc (ns := List.replicate N (-1)) (by have := ho.len; simp; omega)
    rw [List.length_replicate] at hsn
    have hrs : List.replicate i (List.replicate N (-1 : Int)) ++ [List.replicate N (-1)] = List.replicate (i + 1) (List.replicate N (-1)) := by rw [List.replicate_succ']
    rw [hrs] at hsn
    rw [sb] at hsn
    simp only [List.length_append, List.length_cons, List.length_nil, List.append_assoc, List.cons_append, List.nil_append, Nat.zero_add] at hsn
    have hold := ho.setapp (b := h.length + 2) (y := B.row 30 (i + 1) 0 false (ids.map (fun x => [rv x]) ++ [[rv (hc.length + 1, 0, N)]])) (x := [B.row 3 0 0 true (ivs [-1]), B.row 3 0 0 true (ivs (List.replicate N (-1)))]) (by omega) (ho.hl.setapp (rowR_lt fun y hy => by
      rcases List.mem_append.1 hy with hy | hy
      · exact refs_lt (fun x hx => by have := hp.ids_lt x hx; simp; omega) y hy
      · simp at hy; subst hy; simp [rv]) (by simp))
    repeat' (first
 |refine aK fun K hK=>?_|refine Step.by1 ?_|refine sE (by decide) ?_|refine cz rfl ?_|refine Fork.by2 (fun h=>?_) fun h=>?_
 |(refine aR ?_;simp [vl, NetD.cells, hlt, hlt', w1, k0, kb, sb, g0, g1, hml, hby, hNe])
 |(refine Split.by2 (fun h=>?_) (fun h=>?_)<;>(simp [h, vl, NetD.cells, hlt, hlt', w1, k0, kb, sb, g0, g1, hml, hby, hNe]))
 |(refine aG (f := 110) rfl rfl hrep rfl (fun v h' hq => ?_); obtain ⟨rfl, rfl⟩ := hq; simp [kb, sb, hil, hby])
 |(apply hK;clear hK K)|refine AWh ‹_› ?_)
    have hI : LOI n a N h ⟨i + 1, _, false, ids ++ [(hc.length + 1, 0, N)]⟩ := ⟨by show i + 1 ≤ _; omega, hold, ?_, ?_, by simp [hil], ?_, hsn⟩
    refine ⟨_, hI, by show _ - (i + 1) < _ - i; omega, Weak.sym (x := [B.row 30 0 0 false [[V.ref (hc.length + 1) 0 0 N]]]) (by simp [rv]) hold.hl (by have := hold.len; have := hsn.b_lt; simp [vl, gsV]; omega)⟩
    · show (hc.set _ _ ++ _)[h.length]? = _
      rw [get_app (by rw [List.length_set]; exact l0), gN (by omega)]; exact c0
    · show (hc.set _ _ ++ _)[h.length + 1]? = _
      rw [get_app (by rw [List.length_set]; exact l1), gN (by omega)]; exact c1
    · intro x hx
      rcases List.mem_append.1 hx with hx | hx
      · exact hiN x hx
      · simp at hx; subst hx; rfl
  · obtain rfl : i = a.locs.length := by omega
    repeat' (first
 |refine aK fun K hK=>?_|refine Step.by1 ?_|refine sE (by decide) ?_|refine cz rfl ?_|refine Fork.by2 (fun h=>?_) fun h=>?_
 |(refine aR ?_;simp [vl, c1, AutoD.cells])
 |(refine Split.by2 (fun h=>?_) (fun h=>?_)<;>(simp [h, vl, c1, AutoD.cells]))
 |(apply hK;clear hK K)|refine AWh ‹_› ?_)
    have hm0 := hp.toMR ho.hl hiN
    have hfl := hp.flat
    have hlow := hp.low
    obtain ⟨js, hjs⟩ : ∃ js, (ids.map fun x => (x.1, x.2.1)) = js := ⟨_, rfl⟩
    have hjl : js.length = a.locs.length := by rw [← hjs]; simp [hil]
    have hjf : fl = true → js = [] := fun h => by rw [← hjs, hfl h]; rfl
    have hjo : ∀ x ∈ js, h.length ≤ x.1 := fun x hx => by
      rw [← hjs] at hx
      obtain ⟨y, hy, rfl⟩ := List.mem_map.1 hx
      exact hlow.2 y hy
    rw [hjs] at hm0
    have hj1 : ∀ x ∈ js, x.1 ≠ h.length + 1 := fun x hx e => by
      obtain ⟨q, hq⟩ := List.getElem?_of_mem hx
      obtain ⟨_, _, _, h3⟩ := hm0.rows q x hq
      rw [e, c1] at h3; cases h3
    have hM0 : L2 a N so gs 0 (List.replicate a.locs.length (List.replicate N (-1))) := .init
    generalize List.replicate a.locs.length (List.replicate N (-1 : Int)) = m0 at *
    generalize hc = H0 at *
    have hmrl := (List.getElem?_eq_some_iff.1 hm0.mr).1
    refine aL [2, 3, 5, 9, 33, 34] (fun s : NS => [(35, .int .i64 s.k)]) (fun s => s.hc) (fun s => s.k ≤ a.locs.length ∧ L2 a N so gs s.k s.m ∧ MR 30 3 ivs H0 (h.length + 2) a.locs.length fl js N s.m s.hc) (fun s => a.locs.length - s.k) ⟨0, false, m0, H0⟩ ⟨Nat.zero_le _, hM0, hm0⟩
      (Weak.sym (x := []) (by simp) hm0.hl (by simp [vl, gsV]; omega)) (fun s hs => by rw [hs.2.2.len]) ?_
    rintro ⟨k, mo, m, hc⟩ ⟨hk, hp, hm⟩
    simp only at hk hp hm
    have hlen := hm.len
    by_cases hkt : k < a.locs.length
    · obtain ⟨l, hle⟩ : ∃ l, a.locs[k] = l := ⟨_, rfl⟩
      have hlm : l ∈ a.locs := hle ▸ List.getElem_mem hkt
      have hli := (hal.2 l hlm).2.2
      have hkt' : (k : Int) < a.locs.length := by omega
      have w1 : IntKind.i64.wrap ((k : Int) + 1) = k + 1 := wI (by omega) (by omega)
      obtain ⟨x, hx, hmp⟩ := hm.at (i := k) (by omega)
      obtain ⟨r, hr, hrl, hrow⟩ := hm.rows k x hx
      have hst := hp.step hkt
      have hr0 : r = List.replicate N (-1) := by have := hp.row k hkt; rw [if_neg (by omega), hr] at this; cases this; rfl
      have hiv : invAt a k = l.inv := by simp [invAt, hkt, hle]
      obtain ⟨rr, hrr⟩ : ∃ rr, row1 a N so gs k = rr := ⟨_, rfl⟩
      rw [hrr] at hst
      rw [row1, hiv, ← hr0] at hrr
      have hxl := (List.getElem?_eq_some_iff.1 hrow).1
      have hHx : ∀ (c : List Int) (y : List B), (∀ z ∈ y, z.lt 0) → HL (hc.set x.1 (.row 3 x.2 0 true (ivs c)) ++ y) := fun c y hy => (hm.hl.set rowF_lt).app fun z hz => B.lt_mono (Nat.zero_le _) (hy z hz)
      have hX0 : HL (hc ++ [B.var l.cells]) := hm.hl.app (by simp [LocD.cells, vl])
      have hra := c_luRaiseX hm hX0 hN fso so hso hx hr l.inv hli.1 (hgI l hlm) (by omega)
      rw [hjl] at hra
      simp only [LocD.cells, vl] at hra
      have g0 := fun y : List B => ga0 (x := y) hlen
      have g1 := fun (y : List B) (k : Nat) => ga1 (x := y) (k := k) hlen
      repeat' (first
 |refine aK fun K hK=>?_|refine Step.by1 ?_|refine sE (by decide) ?_|refine cz rfl ?_|refine Fork.by2 (fun h=>?_) fun h=>?_
 |(refine aR ?_;simp [vl, LocD.cells, gsV, hkt, hkt', hle, g0, g1, hlen])
 |(refine Split.by2 (fun h=>?_) (fun h=>?_)<;>(simp [h, vl, LocD.cells, gsV, hkt, hkt', hle, g0, g1, hlen]))
 |(refine aG (f := 111) rfl rfl hra rfl (fun v h' hq => ?_); obtain ⟨rfl, rfl⟩ := hq; simp)
 |(apply hK;clear hK K)|refine AWh ‹_› ?_)
      have b0 := fun (c : List Int) (y : List B) => ga0 (h := hc.set x.1 (.row 3 x.2 0 true (ivs c))) (x := y) (n := H0.length) (by rw [List.length_set]; exact hlen)
      have b1 := fun (c : List Int) (y : List B) (k : Nat) => ga1 (h := hc.set x.1 (.row 3 x.2 0 true (ivs c))) (x := y) (n := H0.length) (k := k) (by rw [List.length_set]; exact hlen)
      have bs0 := fun (c : List Int) (y : List B) (z : B) => sa0 (h := hc.set x.1 (.row 3 x.2 0 true (ivs c))) (x := y) (n := H0.length) (y := z) (by rw [List.length_set]; exact hlen)
      have hHl : ∀ c : List Int, HL (hc.set x.1 (.row 3 x.2 0 true (ivs c)) ++ [B.var l.cells]) := fun c => hHx c _ (by simp [LocD.cells, vl])
      refine AW_range (r := rr) gs 48 [2, 3, 5, 9, 10, 33, 34, 35, 46, 47] (fun _ : List Int => []) (fun c => hc.set x.1 (B.row 3 x.2 0 true (ivs c)) ++ [B.var l.cells]) (fun _ c => c.length = N) (raiseGs so) (raiseL so l.inv r) hrr (by rw [raiseL_len]; exact hrl)
        (Weak.sym (x := []) (by simp [LocD.cells, vl]) (hHl _) (by simp [vl, gsV, hlen]; omega)) (fun _ c _ => by simp) ?_ ?_
      · intro q c g hgq hq hge hJ hF
        rw [raiseGs_cons] at hF
        obtain ⟨c2, hc2⟩ : ∃ c2, raisePs so g c = c2 := ⟨_, rfl⟩
        rw [hc2] at hF
        have hgm : g ∈ gs := List.mem_of_getElem? hgq
        have hgo := hgs g hgm
        have hgG2 := hgG g hgm
        have hq' : (q : Int) < gs.length := by omega
        have w2 : IntKind.i64.wrap ((q : Int) + 1) = q + 1 := wI (by omega) (by omega)
        clear hgq hgm
        repeat' (first
 |refine aK fun K hK=>?_|refine Step.by1 ?_|refine sE (by decide) ?_|refine cz rfl ?_|refine Fork.by2 (fun h=>?_) fun h=>?_
 |(refine aR ?_;simp [gsV, vl, hq, hq', hge])
 |(refine Split.by2 (fun h=>?_) (fun h=>?_)<;>(simp [h, gsV, vl, hq, hq', hge]))
 |(apply hK;clear hK K)|refine AWh ‹_› ?_)
        refine AW_range (r := c2) g 54 [2, 3, 5, 9, 10, 33, 34, 35, 46, 47, 48, 52, 53] (fun _ : List Int => []) (fun c => hc.set x.1 (B.row 3 x.2 0 true (ivs c)) ++ [B.var l.cells]) (fun _ c => c.length = N) (raisePs so) c hc2 hJ
          (Weak.sym (x := []) (by simp [LocD.cells, vl]) (hHl _) (by simp [vl, gsV, hlen]; omega)) (fun _ c _ => by simp) ?_ ?_
        · intro j c p hpj hj hpe hJ hF2
          rw [raisePs_cons] at hF2
          have hpm : p ∈ g := List.mem_of_getElem? hpj
          have hpg := (hgo.2 p hpm).2.1
          have hgG3 := hgG2 p hpm
          have hj' : (j : Int) < g.length := by omega
          have w3 : IntKind.i64.wrap ((j : Int) + 1) = j + 1 := wI (by have := hgo.1; omega) (by have := hgo.1; omega)
          clear hpj hpm
          have hrb := c_luRaiseC hm hN fso so hso hx hJ (x := [B.var l.cells, B.var p.cells]) (hHx c _ (by simp [PartD.cells, LocD.cells, vl])) p.guards hpg.1 hgG3 (by omega)
          rw [hjl] at hrb
          simp only [PartD.cells, LocD.cells, vl] at hrb
          repeat' (first
 |refine aK fun K hK=>?_|refine Step.by1 ?_|refine sE (by decide) ?_|refine cz rfl ?_|refine Fork.by2 (fun h=>?_) fun h=>?_
 |(refine aR ?_;simp [gsV, vl, PartD.cells, LocD.cells, hj, hj', hpe, w3, b0, b1, bs0, hlen])
 |(refine Split.by2 (fun h=>?_) (fun h=>?_)<;>(simp [h, gsV, vl, PartD.cells, LocD.cells, hj, hj', hpe, w3, b0, b1, bs0, hlen]))
 |(refine aG (f := 111) rfl rfl hrb rfl (fun v h' hq => ?_); obtain ⟨rfl, rfl⟩ := hq; simp)
 |(apply hK;clear hK K)|refine AWh ‹_› ?_)
          refine ⟨_, hF2, by rw [raiseL_len]; exact hJ, Weak.sym (x := [B.var p.cells]) (by simp [PartD.cells, LocD.cells, vl]) (hHl _) (by simp [vl, gsV, hlen]; omega)⟩
        · intro c hJ hF2
          rw [raisePs_nil] at hF2
          subst c
          repeat' (first
 |refine aK fun K hK=>?_|refine Step.by1 ?_|refine sE (by decide) ?_|refine cz rfl ?_|refine Fork.by2 (fun h=>?_) fun h=>?_
 |(refine aR ?_;simp [gsV, vl, w2])
 |(refine Split.by2 (fun h=>?_) (fun h=>?_)<;>(simp [h, gsV, vl, w2]))
 |(apply hK;clear hK K)|refine AWh ‹_› ?_)
          refine ⟨c2, hF, hJ, Weak.sym (x := []) (by simp [LocD.cells, vl]) (hHl _) (by simp [vl, gsV, hlen]; omega)⟩
      · intro c hJ hF
        rw [raiseGs_nil] at hF
        subst c
        repeat' (first
 |refine aK fun K hK=>?_|refine Step.by1 ?_|refine sE (by decide) ?_|refine cz rfl ?_|refine Fork.by2 (fun h=>?_) fun h=>?_
 |(refine aR ?_;simp [gsV, vl, w1])
 |(refine Split.by2 (fun h=>?_) (fun h=>?_)<;>(simp [h, gsV, vl, w1]))
 |(apply hK;clear hK K)|refine AWh ‹_› ?_)
        have hm' := hm.upd hx hJ
        exact ⟨⟨k + 1, mo, _, _⟩, ⟨by show k + 1 ≤ _; omega, hst, hm'⟩, by show _ - (k + 1) < _ - k; omega, Weak.sym (x := [B.var l.cells]) (by simp [LocD.cells, vl]) hm'.hl (by simp [vl, gsV, hlen]; omega)⟩
    · obtain rfl : k = a.locs.length := by omega
      have hp3 := hp.done
      have c1' : hc[h.length + 1]? = some (.var a.cells) := by rw [hm.rest _ hj1]; exact c1
      simp only [AutoD.cells, vl] at c1'
      repeat' (first
 |refine aK fun K hK=>?_|refine Step.by1 ?_|refine sE (by decide) ?_|refine cz rfl ?_|refine Fork.by2 (fun h=>?_) fun h=>?_
 |(refine aR ?_;simp [vl, c1'])
 |(refine Split.by2 (fun h=>?_) (fun h=>?_)<;>(simp [h, vl, c1']))
 |(apply hK;clear hK K)|refine AWh ‹_› ?_)
      clear hp
      refine aL [3, 5, 9, 68, 69] (fun s : NS => [(70, .int .i64 s.k)]) (fun s => s.hc) (fun s => s.k ≤ a.edges.length ∧ L3 a N so gs s.k s.m ∧ MR 30 3 ivs H0 (h.length + 2) a.locs.length fl js N s.m s.hc) (fun s => a.edges.length - s.k) ⟨0, false, m, hc⟩ ⟨Nat.zero_le _, hp3, hm⟩
        (Weak.sym (x := []) (by simp) hm.hl (by simp [vl, gsV, hlen]; omega)) (fun s hs => by rw [hs.2.2.len, hlen]) ?_
      clear hp3 hm hlen c1'
      rintro ⟨k, mo, m, hc⟩ ⟨hk, hp, hm⟩
      simp only at hk hp hm
      have hlen := hm.len
      by_cases hkt : k < a.edges.length
      · obtain ⟨e, he⟩ : ∃ e, a.edges[k] = e := ⟨_, rfl⟩
        have he' : a.edges[k]? = some e := by rw [List.getElem?_eq_getElem hkt, he]
        have hem := List.mem_of_getElem? he'
        obtain ⟨⟨f1, f2⟩, t1, t2⟩ := hE e hem
        obtain ⟨p, hpp⟩ := Int.eq_ofNat_of_zero_le f1
        have hkt' : (k : Int) < a.edges.length := by omega
        have w1 : IntKind.i64.wrap ((k : Int) + 1) = k + 1 := wI (by omega) (by omega)
        have hpl : p < a.locs.length := by omega
        obtain ⟨x, hx, hmp⟩ := hm.at (i := p) (by omega)
        obtain ⟨r, hr, hrl, hrow⟩ := hm.rows p x hx
        have hst := hp.step he' hpp hr
        have hX0 : HL (hc ++ [B.var e.cells]) := hm.hl.app (by simp [EdgeD.cells, vl])
        have hra := c_luRaiseX hm hX0 hN fso so hso hx hr e.guards (hae.2 e hem).2.2.1.1 (hgE e hem) (by omega)
        rw [hjl] at hra
        simp only [EdgeD.cells, vl, hpp] at hra
        have g0 := fun y : List B => ga0 (x := y) hlen
        have g1 := fun (y : List B) (k : Nat) => ga1 (x := y) (k := k) hlen
        repeat' (first
 |refine aK fun K hK=>?_|refine Step.by1 ?_|refine sE (by decide) ?_|refine cz rfl ?_|refine Fork.by2 (fun h=>?_) fun h=>?_
 |(refine aR ?_;simp [vl, EdgeD.cells, hkt, hkt', he, hpp, g0, g1, hlen, w1])
 |(refine Split.by2 (fun h=>?_) (fun h=>?_)<;>(simp [h, vl, EdgeD.cells, hkt, hkt', he, hpp, g0, g1, hlen, w1]))
 |(refine aG (f := 111) rfl rfl hra rfl (fun v h' hq => ?_); obtain ⟨rfl, rfl⟩ := hq; simp)
 |(apply hK;clear hK K)|refine AWh ‹_› ?_)
        have hm' := hm.upd hx (r := raiseL so e.guards r) (by rw [raiseL_len]; exact hrl)
        exact ⟨⟨k + 1, mo, _, _⟩, ⟨by show k + 1 ≤ _; omega, hst, hm'⟩, by show _ - (k + 1) < _ - k; omega, Weak.sym (x := [B.var e.cells]) (by simp [EdgeD.cells, vl, hpp]) hm'.hl (by simp [vl, gsV, hlen]; omega)⟩
      · obtain rfl : k = a.edges.length := by omega
        have hls := hp.ls
        repeat' (first
 |refine aK fun K hK=>?_|refine Step.by1 ?_|refine sE (by decide) ?_|refine cz rfl ?_|refine Fork.by2 (fun h=>?_) fun h=>?_
 |(refine aR ?_;simp [vl])
 |(refine Split.by2 (fun h=>?_) (fun h=>?_)<;>(simp [h, vl]))
 |(apply hK;clear hK K)|refine AWh ‹_› ?_)
        refine aL [5, 9] (fun s : NS => []) (fun s => s.hc) (fun s => LS a N (luB a N so gs) s.m ∧ MR 30 3 ivs H0 (h.length + 2) a.locs.length fl js N s.m s.hc) (fun s => nM a (luB a N so gs) s.m) ⟨0, false, m, hc⟩ ⟨hls, hm⟩
          (Weak.sym (x := []) (by simp) hm.hl (by simp [vl, gsV, hlen]; omega)) (fun s hs => by rw [hs.2.len, hlen]) ?_
        clear hp hm hlen hls
        rintro ⟨_, _, m, hc⟩ ⟨hs, hm⟩
        simp only at hs hm
        have hsp := c_luSpread hm.baseI a ha hE _ hs hN
        have c1' : hc[h.length + 1]? = some (.var a.cells) := by rw [hm.rest _ hj1]; exact c1
        rw [hjl] at hsp
        simp only [AutoD.cells, vl] at hsp c1'
        repeat' (first
 |refine aK fun K hK=>?_|refine Step.by1 ?_|refine sE (by decide) ?_|refine cz rfl ?_|refine Fork.by2 (fun h=>?_) fun h=>?_
 |(refine aR ?_;simp [c1'])
 |(refine Split.by2 (fun h=>?_) (fun h=>?_)<;>(simp [h, c1']))
 |(refine aG (f := 112) rfl rfl hsp rfl (fun v h' hq => ?_); obtain ⟨mo2, m2, rfl, hp2, hm2⟩ := hq; cases mo2 <;> simp)
 |(apply hK;clear hK K)|refine AWh ‹_› ?_)
        · have e2 := (hp2.eq rfl).1
          have hd := hp2.done
          subst m2
          have hu : IsLu a N (luB a N so gs) m := ⟨hs, hd⟩
          have hm3 := hm.overI hm2
          have hq := (hm3.toN2 hjf ⟨by omega, hjo⟩ (o := h.length))
          rw [hu.luM hE] at hq
          have hO : Old h h' := ⟨hm3.hl, by rw [hm3.len]; exact ho.len, fun k hk => by
            rw [hm3.rest k (fun x hx => by have := hjo x hx; omega)]; exact ho.old k hk⟩
          exact retg1 ⟨h.length + 2, a.locs.length, fl, js.map fun x => (x.1, x.2, N), by simp [hjl], hO, hq⟩ (by simp; exact hq.b_lt) (Go.AM.Leaves.sym hO.len hO.hl)
        · have hm3 := hm.overI hm2
          exact ⟨⟨0, false, m2, h'⟩, ⟨hp2.s, hm3⟩, hp2.lt rfl, Weak.sym (x := []) (by simp) hm3.hl (by simp [hm3.len, vl, AutoD.cells]; omega)⟩
end Go.Proofs.YtgmlimipejcpgaaDoor
end
section
set_option linter.unusedVariables false
set_option linter.unusedSimpArgs false
namespace Go.Proofs.YtgmlimipejcpgaaDoor
open Go Go.AM Fx
noncomputable def luP (n : NetD) (so : Int → Bool) (gs : List (List PartD)) : List (List (List Int)) := n.autos.map fun a => luM a n.clocks.length (luB a n.clocks.length so gs)
theorem luP_at {n : NetD} {so : Int → Bool} {gs : List (List PartD)} {i : Nat} (hi : i < n.autos.length) : (luP n so gs).take (i + 1) = (luP n so gs).take i ++ [luM n.autos[i] n.clocks.length (luB n.autos[i] n.clocks.length so gs)] := by
  rw [List.take_add_one, List.getElem?_eq_getElem (by simp [luP]; exact hi)]; simp [luP]
def idsR (T : Rows3) : List Nat := (T.flatMap (·.2.2.2)).map (·.1)
theorem idsR_snoc {T : Rows3} {y : Nat × Nat × Bool × List (Nat × Nat × Nat)} : idsR (T ++ [y]) = idsR T ++ y.2.2.2.map (·.1) := by simp [idsR]
theorem N2.low' {o o' b g : Nat} {h : List B} {fl : Bool} {ids : List (Nat × Nat × Nat)} {P : List (List Int)} (p : N2 o h b g fl ids P) (ho : o' ≤ o) : N2 o' h b g fl ids P := ⟨p.at0, p.flat, p.len, p.rows, ⟨Nat.le_trans ho p.low.1, fun x hx => Nat.le_trans ho (p.low.2 x hx)⟩, p.nodup⟩
theorem N2.set54 {o b g : Nat} {h : List B} {fl : Bool} {ids : List (Nat × Nat × Nat)} {P : List (List Int)} (p : N2 o h b g fl ids P) {k gk fk : Nat} {flk : Bool} {xs : List (List V)} {y : B} (hk : h[k]? = some (.row 57 gk fk flk xs)) : N2 o (h.set k y) b g fl ids P :=
  ⟨by rw [gN (fun e => by have := p.at0; rw [← e, hk] at this; simp at this)]; exact p.at0, p.flat, p.len, fun j x hx => by
    obtain ⟨ns, h1, h2, h3⟩ := p.rows j x hx
    exact ⟨ns, h1, h2, by rw [gN (fun e => by rw [← e, hk] at h3; simp at h3)]; exact h3⟩, p.low, p.nodup⟩
theorem N3.set54 {o b g : Nat} {h : List B} {fl : Bool} {T : Rows3} {P : List (List (List Int))} (p : N3 o h b g fl T P) {k gk fk : Nat} {flk : Bool} {xs : List (List V)} {y : B} (hne : k ≠ b) (hk : h[k]? = some (.row 57 gk fk flk xs)) : N3 o (h.set k y) b g fl T P :=
  ⟨by rw [gN hne]; exact p.at0, p.flat, p.len, fun i x hx => by
    obtain ⟨Q, h1, h2⟩ := p.rows i x hx
    exact ⟨Q, h1, h2.set54 hk⟩, p.low, p.nodup⟩
theorem N3.idsR_lt {o b g : Nat} {h : List B} {fl : Bool} {T : Rows3} {P : List (List (List Int))} (p : N3 o h b g fl T P) : ∀ k ∈ idsR T, k < h.length := fun k hk => by
  obtain ⟨x, hx, rfl⟩ := List.mem_map.1 hk
  obtain ⟨y, hy, hxy⟩ := List.mem_flatMap.1 hx
  exact p.ids_lt y hy x hxy
theorem N3.refs_lt {o b g : Nat} {h : List B} {fl : Bool} {T : Rows3} {P : List (List (List Int))} (p : N3 o h b g fl T P) : ∀ y ∈ T.map fun y => [V.ref y.1 y.2.1 0 y.2.2.2.length], V.lts h.length y = true := fun y hy => by
  obtain ⟨x, hx, rfl⟩ := List.mem_map.1 hy
  obtain ⟨q, hq2⟩ := List.getElem?_of_mem hx
  obtain ⟨_, _, h5⟩ := p.rows q x hq2
  have := h5.b_lt
  simp; omega
structure PH (n : NetD) (h : List B) (A1 A2 : List (List (List Int))) (i1 i2 : Nat) (hc : List B) (f1 : Bool) (T1 : Rows3) (f2 : Bool) (T2 : Rows3) : Prop where
  ho : Old h hc
  c0 : hc[h.length]? = some (.var n.cells)
  c1 : hc[h.length + 1]? = some (.var [.nils, .nils])
  c2 : hc[h.length + 2]? = some (.var [.ref (h.length + 3) i1 0 i1, .ref (h.length + 4) i2 0 i2])
  t1 : T1.length = i1
  t2 : T2.length = i2
  p1 : N3 h.length hc (h.length + 3) i1 f1 T1 A1
  p2 : N3 h.length hc (h.length + 4) i2 f2 T2 A2
  dj : (idsR T1 ++ idsR T2).Nodup
section
variable {n : NetD} {h hc h1 : List B} {A1 A2 : List (List (List Int))} {i1 i2 : Nat} {f1 f2 : Bool} {T1 T2 : Rows3}
theorem PH.ext (p : PH n h A1 A2 i1 i2 hc f1 T1 f2 T2) (q : Old hc h1) : PH n h A1 A2 i1 i2 h1 f1 T1 f2 T2 :=
  ⟨p.ho.trans q, q.get p.c0, q.get p.c1, q.get p.c2, p.t1, p.t2, p.p1.mono q.old, p.p2.mono q.old, p.dj⟩
/-- A row of rows more, its heap. -/
def loH (h h1 : List B) (i1 i2 : Nat) (T1 : Rows3) (r : V) : List B := (h1.set (h.length + 3) (.row 57 (i1 + 1) 0 false (T1.map (fun y => [V.ref y.1 y.2.1 0 y.2.2.2.length]) ++ [[r]])) ++ [B.row 57 0 0 false [[r]]]).set (h.length + 2) (.var [.ref (h.length + 3) (i1 + 1) 0 (i1 + 1), .ref (h.length + 4) i2 0 i2])
def upH (h h1 : List B) (i1 i2 : Nat) (T2 : Rows3) (r : V) : List B := (h1.set (h.length + 4) (.row 57 (i2 + 1) 0 false (T2.map (fun y => [V.ref y.1 y.2.1 0 y.2.2.2.length]) ++ [[r]])) ++ [B.row 57 0 0 false [[r]]]).set (h.length + 2) (.var [.ref (h.length + 3) i1 0 i1, .ref (h.length + 4) (i2 + 1) 0 (i2 + 1)])
theorem PH.lo (p : PH n h A1 A2 i1 i2 hc f1 T1 f2 T2) (q : Old hc h1) {o b g : Nat} {fl : Bool} {ids : List (Nat × Nat × Nat)} {Q : List (List Int)} (r : N2 o h1 b g fl ids Q) (ho : hc.length ≤ o) :
    PH n h (A1 ++ [Q]) A2 (i1 + 1) i2 (loH h h1 i1 i2 T1 (.ref b g 0 ids.length)) false (T1 ++ [(b, g, fl, ids)]) f2 T2 := by
  have r' := r.low' ho
  have e := p.ext q
  have hb3 := e.p1.b_lt
  have hb4 := e.p2.b_lt
  have hrb := r.b_lt
  have s1 := p.p1.snoc p.ho.len q.old r'
  obtain ⟨xs, hxs⟩ : ∃ xs, (T1.map (fun y => [V.ref y.1 y.2.1 0 y.2.2.2.length]) ++ [[V.ref b g 0 ids.length]]) = xs := ⟨_, rfl⟩
  have hxl : ∀ x ∈ xs, V.lts h1.length x = true := fun x hx => by
    rw [← hxs] at hx
    rcases List.mem_append.1 hx with hx | hx
    · exact e.p1.refs_lt x hx
    · simp at hx; subst hx; simp; exact hrb
  rw [hxs] at s1
  have hk : (h1.set (h.length + 3) (.row 57 (i1 + 1) 0 false xs) ++ [B.row 57 0 0 false [[V.ref b g 0 ids.length]]])[h.length + 2]? = some (.var [.ref (h.length + 3) i1 0 i1, .ref (h.length + 4) i2 0 i2]) := by
    rw [get_app (by rw [List.length_set]; omega), gN (by omega)]; exact e.c2
  have hl1 : HL (h1.set (h.length + 3) (.row 57 (i1 + 1) 0 false xs)) := q.hl.set (rowR_lt hxl)
  have hl2 : HL (h1.set (h.length + 3) (.row 57 (i1 + 1) 0 false xs) ++ [B.row 57 0 0 false [[V.ref b g 0 ids.length]]]) := hl1.app (by simp; omega)
  have hl3 := hl2.set (i := h.length + 2) (y := .var [.ref (h.length + 3) (i1 + 1) 0 (i1 + 1), .ref (h.length + 4) i2 0 i2]) (by simp; omega)
  unfold loH
  rw [hxs]
  refine ⟨((e.ho.set (by omega) hl1).app hl2).set (by omega) hl3, ?_, ?_, get_set_eq hk, by simp [p.t1], p.t2, ?_, ?_, ?_⟩
  · rw [gN (by omega), get_app (by rw [List.length_set]; omega), gN (by omega)]; exact e.c0
  · rw [gN (by omega), get_app (by rw [List.length_set]; omega), gN (by omega)]; exact e.c1
  · exact (s1.mono fun k hk => get_app hk).setne hk
  · exact ((e.p2.set54 (by omega) e.p1.at0).mono fun k hk => get_app hk).setne hk
  · rw [idsR_snoc]
    have h5 := p.dj
    rw [List.nodup_append] at h5
    have key : ∀ x ∈ ids.map (·.1), hc.length ≤ x := fun x hx => by
      obtain ⟨z, hz, rfl⟩ := List.mem_map.1 hx
      exact r'.low.2 z hz
    refine List.nodup_append.2 ⟨List.nodup_append.2 ⟨h5.1, r.nodup, fun u hu w hw => ?_⟩, h5.2.1, fun u hu w hw => ?_⟩
    · have := p.p1.idsR_lt u hu; have := key w hw; omega
    · have := p.p2.idsR_lt w hw
      rcases List.mem_append.1 hu with hu | hu
      · exact h5.2.2 u hu w hw
      · have := key u hu; omega
theorem PH.up (p : PH n h A1 A2 i1 i2 hc f1 T1 f2 T2) (q : Old hc h1) {o b g : Nat} {fl : Bool} {ids : List (Nat × Nat × Nat)} {Q : List (List Int)} (r : N2 o h1 b g fl ids Q) (ho : hc.length ≤ o) :
    PH n h A1 (A2 ++ [Q]) i1 (i2 + 1) (upH h h1 i1 i2 T2 (.ref b g 0 ids.length)) f1 T1 false (T2 ++ [(b, g, fl, ids)]) := by
  have r' := r.low' ho
  have e := p.ext q
  have hb3 := e.p1.b_lt
  have hb4 := e.p2.b_lt
  have hrb := r.b_lt
  have s1 := p.p2.snoc p.ho.len q.old r'
  obtain ⟨xs, hxs⟩ : ∃ xs, (T2.map (fun y => [V.ref y.1 y.2.1 0 y.2.2.2.length]) ++ [[V.ref b g 0 ids.length]]) = xs := ⟨_, rfl⟩
  have hxl : ∀ x ∈ xs, V.lts h1.length x = true := fun x hx => by
    rw [← hxs] at hx
    rcases List.mem_append.1 hx with hx | hx
    · exact e.p2.refs_lt x hx
    · simp at hx; subst hx; simp; exact hrb
  rw [hxs] at s1
  have hk : (h1.set (h.length + 4) (.row 57 (i2 + 1) 0 false xs) ++ [B.row 57 0 0 false [[V.ref b g 0 ids.length]]])[h.length + 2]? = some (.var [.ref (h.length + 3) i1 0 i1, .ref (h.length + 4) i2 0 i2]) := by
    rw [get_app (by rw [List.length_set]; omega), gN (by omega)]; exact e.c2
  have hl1 : HL (h1.set (h.length + 4) (.row 57 (i2 + 1) 0 false xs)) := q.hl.set (rowR_lt hxl)
  have hl2 : HL (h1.set (h.length + 4) (.row 57 (i2 + 1) 0 false xs) ++ [B.row 57 0 0 false [[V.ref b g 0 ids.length]]]) := hl1.app (by simp; omega)
  have hl3 := hl2.set (i := h.length + 2) (y := .var [.ref (h.length + 3) i1 0 i1, .ref (h.length + 4) (i2 + 1) 0 (i2 + 1)]) (by simp; omega)
  unfold upH
  rw [hxs]
  refine ⟨((e.ho.set (by omega) hl1).app hl2).set (by omega) hl3, ?_, ?_, get_set_eq hk, p.t1, by simp [p.t2], ?_, ?_, ?_⟩
  · rw [gN (by omega), get_app (by rw [List.length_set]; omega), gN (by omega)]; exact e.c0
  · rw [gN (by omega), get_app (by rw [List.length_set]; omega), gN (by omega)]; exact e.c1
  · exact ((e.p1.set54 (by omega) e.p2.at0).mono fun k hk => get_app hk).setne hk
  · exact (s1.mono fun k hk => get_app hk).setne hk
  · rw [idsR_snoc]
    have h5 := p.dj
    rw [List.nodup_append] at h5
    have key : ∀ x ∈ ids.map (·.1), hc.length ≤ x := fun x hx => by
      obtain ⟨z, hz, rfl⟩ := List.mem_map.1 hx
      exact r'.low.2 z hz
    refine List.nodup_append.2 ⟨h5.1, List.nodup_append.2 ⟨h5.2.1, r.nodup, fun u hu w hw => ?_⟩, fun u hu w hw => ?_⟩
    · have := p.p2.idsR_lt u hu; have := key w hw; omega
    · have := p.p1.idsR_lt u hu
      rcases List.mem_append.1 hw with hw | hw
      · exact h5.2.2 u hu w hw
      · have := key w hw; omega
end
end Go.Proofs.YtgmlimipejcpgaaDoor
end
