/-
  YtgmlimipejcpgaaGreatDoorPart19: steps of the proof of a law of the program: what these texts prove holds under the hypotheses that their theorems name, and no others.
-/
import Derived.Test.YtgmlimipejcpgaaGreatDoorPart18
import Derived.Test.YtgmlimipejcpgaaGreatDoorPart07
import Derived.Test.YtgmlimipejcpgaaGreatDoorPart17
import Derived.Test.YtgmlimipejcpgaaGreatDoorPart15
section
set_option linter.unusedVariables false
set_option linter.unusedSimpArgs false
namespace Go.Proofs.YtgmlimipejcpgaaGreatDoor
open Go Go.AM Fx
theorem c_luRaiseX {h hc x : List B} {mr gm N : Nat} {fl : Bool} {ids : List (Nat × Nat)} {m : List (List Int)} (p0 : MR 47 3 ivs h mr gm fl ids N m hc) (hx : HL (hc ++ x)) (hN : N ≤ 1048576) (fso : Nat) (so : Int → Bool) (hso : ∀ c, PC fso [.int .u8 c] (.bool (so c))) {p : Nat} {y : Nat × Nat} {r : List Int} (hy : ids[p]? = some y) (hr : m[p]? = some r)
    (l : List GuardD) (hl : l.length ≤ 1048576) (hg : ∀ g ∈ l, okG N g) (hp : ids.length ≤ 1048576) :
    GCall Tryz.prog GV 167 [.ref mr gm 0 ids.length, .int .i64 p, vl GuardD.cells l, .fn (.func fso) [] []] (hc ++ x) (fun v h' => v = .tup [] ∧ h' = hc.set y.1 (.row 3 y.2 0 true (ivs (raiseL so l r))) ++ x) := by
  obtain ⟨_, _, _, h3⟩ := p0.rows p y hy
  refine (c_luRaise (p0.appx hx) hN fso so hso hy hr l hl hg).mono fun v h' hq => ⟨hq.1, ?_⟩
  rw [hq.2, set_app (List.getElem?_eq_some_iff.1 h3).1]
theorem c_luRaiseC {h hc x : List B} {mr gm N : Nat} {fl : Bool} {ids : List (Nat × Nat)} {m : List (List Int)} (p0 : MR 47 3 ivs h mr gm fl ids N m hc) (hN : N ≤ 1048576) (fso : Nat) (so : Int → Bool) (hso : ∀ c, PC fso [.int .u8 c] (.bool (so c))) {p : Nat} {y : Nat × Nat} {c : List Int} (hy : ids[p]? = some y) (hcl : c.length = N) (hx : HL (hc.set y.1 (.row 3 y.2 0 true (ivs c)) ++ x))
    (l : List GuardD) (hl : l.length ≤ 1048576) (hg : ∀ g ∈ l, okG N g) (hp : ids.length ≤ 1048576) :
    GCall Tryz.prog GV 167 [.ref mr gm 0 ids.length, .int .i64 p, vl GuardD.cells l, .fn (.func fso) [] []] (hc.set y.1 (.row 3 y.2 0 true (ivs c)) ++ x) (fun v h' => v = .tup [] ∧ h' = hc.set y.1 (.row 3 y.2 0 true (ivs (raiseL so l c))) ++ x) := by
  have hpl : p < m.length := by rw [p0.ml]; exact (List.getElem?_eq_some_iff.1 hy).1
  refine (c_luRaiseX (p0.upd hy hcl) hx hN fso so hso hy (r := c) (by rw [List.getElem?_set, if_pos rfl, if_pos hpl]) l hl hg hp).mono fun v h' hq => ⟨hq.1, ?_⟩
  rw [hq.2, List.set_set]
structure LO where
  i : Nat
  hc : List B
  fl : Bool
  ids : List (Nat × Nat × Nat)
structure LOI (n : NetD) (a : AutoD) (N : Nat) (h : List B) (s : LO) : Prop where
  i : s.i ≤ a.locs.length
  ho : Old h s.hc
  c0 : s.hc[h.length]? = some (.var n.cells)
  c1 : s.hc[h.length + 1]? = some (.var a.cells)
  il : s.ids.length = s.i
  iN : ∀ x ∈ s.ids, x.2.2 = N
  p : N2 h.length s.hc (h.length + 2) s.i s.fl s.ids (List.replicate s.i (List.replicate N (-1)))
set_option maxRecDepth 20000 in
set_option maxHeartbeats 16000000 in
theorem c_luOf (n : NetD) (hn : n.ok) (a : AutoD) (ham : a ∈ n.autos) (gs : List (List PartD)) (hgl : gs.length ≤ 1048576) (hgs : ∀ g ∈ gs, okGoal g) (he : lookE n gs = 0) (fso : Nat) (so : Int → Bool) (hso : ∀ c, PC fso [.int .u8 c] (.bool (so c))) {h : List B} (hl : HL h) :
    GCall Tryz.prog GV 104 [.agg n.cells, .agg a.cells, gsV gs, .fn (.func fso) [] []] h (fun v h' => ∃ b g fl ids, v = .ref b g 0 ids.length ∧ Old h h' ∧ N2 h.length h' b g fl ids (luM a n.clocks.length (luB a n.clocks.length so gs))) := by
  obtain ⟨h0, hgg⟩ := look_ok he
  have hw := netE_whole h0
  have hE := edges_ok hw a ham
  have ha := hn.2.2.2.2 a ham
  have hal := ha.2.1
  have hae := ha.2.2
  have hN := hn.1.1
  have hgA : ∀ x ∈ guardsA a, okG n.clocks.length x := fun x hx => whole_guards hw x (List.mem_flatMap.2 ⟨a, ham, hx⟩)
  have hgI : ∀ l ∈ a.locs, ∀ x ∈ l.inv, okG n.clocks.length x := fun l hl x hx => hgA x (List.mem_append.2 (.inl (List.mem_flatMap.2 ⟨l, hl, hx⟩)))
  have hgE : ∀ e ∈ a.edges, ∀ x ∈ e.guards, okG n.clocks.length x := fun e he x hx => hgA x (List.mem_append.2 (.inr (List.mem_flatMap.2 ⟨e, he, hx⟩)))
  have hgG : ∀ g ∈ gs, ∀ p ∈ g, ∀ x ∈ p.guards, okG n.clocks.length x := fun g hg => goal_guards (hgg g hg)
  obtain ⟨N, hNe⟩ : ∃ N, n.clocks.length = N := ⟨_, rfl⟩
  rw [hNe] at hgA hgI hgE hgG hN ⊢
  refine GCall_body Tryz.func104 rfl (by decide) Tryz.ntmps104 (by simp) Tryz.results104 ?_
  repeat' (first
 |refine AW_seq_k fun K hK=>?_|refine Step.by1 ?_|refine SBlock_exit_ne (by decide) ?_|refine cz rfl ?_|refine Fork.by2 (fun h=>?_) fun h=>?_
 |(refine AW_region_AO ?_;simp [gsV, vl, NetD.cells, AutoD.cells])
 |(refine Split.by2 (fun h=>?_) (fun h=>?_)<;>(simp [h, gsV, vl, NetD.cells, AutoD.cells]))
 |(apply hK;clear hK K)|refine AWh (by assumption) ?_)
  refine AW_nilrow 9 47 rfl (by simp) ?_
  have hH0 : HL (h ++ [B.var n.cells, B.var a.cells, B.row 47 0 0 true []]) := hl.app (by simp [NetD.cells, AutoD.cells, vl])
  have u0 := ga0 (h := h) (x := [B.var n.cells, B.var a.cells, B.row 47 0 0 true []]) rfl
  have u1 := ga1 (h := h) (x := [B.var n.cells, B.var a.cells, B.row 47 0 0 true []]) (k := 1) rfl
  have u2 := ga1 (h := h) (x := [B.var n.cells, B.var a.cells, B.row 47 0 0 true []]) (k := 2) rfl
  have hNb : (N : Int) ≤ 281474976710656 := by omega
  refine AW_loopGL [2, 3, 4, 5, 20] (fun s : LO => [(9, .ref (h.length + 2) s.i 0 s.i), (21, .int .i64 s.i)]) (fun s => s.hc) (LOI n a N h) (fun s => a.locs.length - s.i) ⟨0, h ++ [B.var n.cells, B.var a.cells, B.row 47 0 0 true []], true, []⟩
    ⟨Nat.zero_le _, (Old.rfl hl).app hH0, u0, u1, rfl, by simp, ⟨u2, fun _ => rfl, rfl, fun i y hy => by simp at hy, ⟨by omega, by simp⟩, by simp⟩⟩
    (Weak.sym (x := []) (by simp [NetD.cells, AutoD.cells, vl]) hH0 (by simp [vl, gsV])) (fun s hs => by have := hs.ho.len; have := hs.p.b_lt; simp; omega) ?_
  clear u0 u1 u2 hH0
  rintro ⟨i, hc, fl, ids⟩ ⟨hi, ho, c0, c1, hil, hiN, hp⟩
  simp only at hi ho c0 c1 hil hiN hp
  by_cases hlt : i < a.locs.length
  · have hlt' : (i : Int) < a.locs.length := by omega
    have w1 : IntKind.i64.wrap ((i : Int) + 1) = i + 1 := wrap_i64 (by omega) (by omega)
    have hby : (i + 1) * 24 ≤ 140737488355328 := by omega
    have hb := hp.b_lt
    have l0 := (List.getElem?_eq_some_iff.1 c0).1
    have l1 := (List.getElem?_eq_some_iff.1 c1).1
    have k0 := fun x : List B => (get_app (x := x) l0).trans c0
    have kb := fun x : List B => (get_app (x := x) hb).trans hp.at0
    have sb := fun (x : List B) (y : B) => set_app (x := x) (y := y) hb
    have g0 := fun x : List B => ga0 (h := hc) (x := x) rfl
    have g1 := fun (x : List B) (k : Nat) => ga1 (h := hc) (x := x) (k := k) rfl
    have hml : (ids.map fun x => [rv x]).length = i := by simp [hil]
    have hH1 : HL (hc ++ [B.row 3 0 0 true (ivs [-1])]) := ho.hl.app (by simp)
    have hrep := c_repeat hH1 (b := hc.length) (g := 0) (f := 0) (x := -1) (by rw [g0]; rfl) N hN
    have hp1 : N2 h.length (hc ++ [B.row 3 0 0 true (ivs [-1])]) (h.length + 2) i fl ids (List.replicate i (List.replicate N (-1))) := hp.mono fun k hk => get_app hk
    have hsn := hp1.snoc (ns := List.replicate N (-1)) (by have := ho.len; simp; omega)
    rw [List.length_replicate] at hsn
    have hrs : List.replicate i (List.replicate N (-1 : Int)) ++ [List.replicate N (-1)] = List.replicate (i + 1) (List.replicate N (-1)) := by rw [List.replicate_succ']
    rw [hrs] at hsn
    rw [sb] at hsn
    simp only [List.length_append, List.length_cons, List.length_nil, List.append_assoc, List.cons_append, List.nil_append, Nat.zero_add] at hsn
    have hold := ho.setapp (b := h.length + 2) (y := B.row 47 (i + 1) 0 false (ids.map (fun x => [rv x]) ++ [[rv (hc.length + 1, 0, N)]])) (x := [B.row 3 0 0 true (ivs [-1]), B.row 3 0 0 true (ivs (List.replicate N (-1)))]) (by omega) (ho.hl.setapp (rowR_lt fun y hy => by
      rcases List.mem_append.1 hy with hy | hy
      · exact refs_lt (fun x hx => by have := hp.ids_lt x hx; simp; omega) y hy
      · simp at hy; subst hy; simp [rv]) (by simp))
    repeat' (first
 |refine AW_seq_k fun K hK=>?_|refine Step.by1 ?_|refine SBlock_exit_ne (by decide) ?_|refine cz rfl ?_|refine Fork.by2 (fun h=>?_) fun h=>?_
 |(refine AW_region_AO ?_;simp [vl, NetD.cells, hlt, hlt', w1, k0, kb, sb, g0, g1, hml, hby, hNe])
 |(refine Split.by2 (fun h=>?_) (fun h=>?_)<;>(simp [h, vl, NetD.cells, hlt, hlt', w1, k0, kb, sb, g0, g1, hml, hby, hNe]))
 |(refine AS_callG (f := 166) rfl rfl hrep rfl (fun v h' hq => ?_); obtain ⟨rfl, rfl⟩ := hq; simp [kb, sb, hil, hby])
 |(apply hK;clear hK K)|refine AWh (by assumption) ?_)
    have hI : LOI n a N h ⟨i + 1, _, false, ids ++ [(hc.length + 1, 0, N)]⟩ := ⟨by show i + 1 ≤ _; omega, hold, ?_, ?_, by simp [hil], ?_, hsn⟩
    refine ⟨_, hI, by show _ - (i + 1) < _ - i; omega, Weak.sym (x := [B.row 47 0 0 false [[V.ref (hc.length + 1) 0 0 N]]]) (by simp [rv]) hold.hl (by have := hold.len; have := hsn.b_lt; simp [vl, gsV]; omega)⟩
    · show (hc.set _ _ ++ _)[h.length]? = _
      rw [get_app (by rw [List.length_set]; exact l0), get_set_ne (by omega)]; exact c0
    · show (hc.set _ _ ++ _)[h.length + 1]? = _
      rw [get_app (by rw [List.length_set]; exact l1), get_set_ne (by omega)]; exact c1
    · intro x hx
      rcases List.mem_append.1 hx with hx | hx
      · exact hiN x hx
      · simp at hx; subst hx; rfl
  · obtain rfl : i = a.locs.length := by omega
    repeat' (first
 |refine AW_seq_k fun K hK=>?_|refine Step.by1 ?_|refine SBlock_exit_ne (by decide) ?_|refine cz rfl ?_|refine Fork.by2 (fun h=>?_) fun h=>?_
 |(refine AW_region_AO ?_;simp [vl, c1, AutoD.cells])
 |(refine Split.by2 (fun h=>?_) (fun h=>?_)<;>(simp [h, vl, c1, AutoD.cells]))
 |(apply hK;clear hK K)|refine AWh (by assumption) ?_)
    have hm0 := hp.toMR ho.hl hiN
    have hfl := hp.flat
    have hlow := hp.low
    obtain ⟨js, hjs⟩ : ∃ js, (ids.map fun x => (x.1, x.2.1)) = js := ⟨_, rfl⟩
    have hjl : js.length = a.locs.length := by rw [← hjs]; simp [hil]
    have hjf : fl = true → js = [] := fun h => by rw [← hjs, hfl h]; rfl
    have hjo : ∀ x ∈ js, h.length ≤ x.1 := fun x hx => by
      rw [← hjs] at hx
      obtain ⟨y, hy, rfl⟩ := List.mem_map.1 hx
      exact hlow.2 y hy
    rw [hjs] at hm0
    have hj1 : ∀ x ∈ js, x.1 ≠ h.length + 1 := fun x hx e => by
      obtain ⟨q, hq⟩ := List.getElem?_of_mem hx
      obtain ⟨_, _, _, h3⟩ := hm0.rows q x hq
      rw [e, c1] at h3; cases h3
    have hM0 : L2 a N so gs 0 (List.replicate a.locs.length (List.replicate N (-1))) := .init
    generalize List.replicate a.locs.length (List.replicate N (-1 : Int)) = m0 at *
    generalize hc = H0 at *
    have hmrl := (List.getElem?_eq_some_iff.1 hm0.mr).1
    refine AW_loopL [2, 3, 5, 9, 33, 34] (fun s : NS => [(35, .int .i64 s.k)]) (fun s => s.hc) (fun s => s.k ≤ a.locs.length ∧ L2 a N so gs s.k s.m ∧ MR 47 3 ivs H0 (h.length + 2) a.locs.length fl js N s.m s.hc) (fun s => a.locs.length - s.k) ⟨0, false, m0, H0⟩ ⟨Nat.zero_le _, hM0, hm0⟩
      (Weak.sym (x := []) (by simp) hm0.hl (by simp [vl, gsV]; omega)) (fun s hs => by rw [hs.2.2.len]) ?_
    rintro ⟨k, mo, m, hc⟩ ⟨hk, hp, hm⟩
    simp only at hk hp hm
    have hlen := hm.len
    by_cases hkt : k < a.locs.length
    · obtain ⟨l, hle⟩ : ∃ l, a.locs[k] = l := ⟨_, rfl⟩
      have hlm : l ∈ a.locs := hle ▸ List.getElem_mem hkt
      have hli := (hal.2 l hlm).2.2
      have hkt' : (k : Int) < a.locs.length := by omega
      have w1 : IntKind.i64.wrap ((k : Int) + 1) = k + 1 := wrap_i64 (by omega) (by omega)
      obtain ⟨x, hx, hmp⟩ := hm.at (i := k) (by omega)
      obtain ⟨r, hr, hrl, hrow⟩ := hm.rows k x hx
      have hst := hp.step hkt
      have hr0 : r = List.replicate N (-1) := by have := hp.row k hkt; rw [if_neg (by omega), hr] at this; cases this; rfl
      have hiv : invAt a k = l.inv := by simp [invAt, hkt, hle]
      obtain ⟨rr, hrr⟩ : ∃ rr, row1 a N so gs k = rr := ⟨_, rfl⟩
      rw [hrr] at hst
      rw [row1, hiv, ← hr0] at hrr
      have hxl := (List.getElem?_eq_some_iff.1 hrow).1
      have hHx : ∀ (c : List Int) (y : List B), (∀ z ∈ y, z.lt 0) → HL (hc.set x.1 (.row 3 x.2 0 true (ivs c)) ++ y) := fun c y hy => (hm.hl.set rowF_lt).app fun z hz => B.lt_mono (Nat.zero_le _) (hy z hz)
      have hX0 : HL (hc ++ [B.var l.cells]) := hm.hl.app (by simp [LocD.cells, vl])
      have hra := c_luRaiseX hm hX0 hN fso so hso hx hr l.inv hli.1 (hgI l hlm) (by omega)
      rw [hjl] at hra
      simp only [LocD.cells, vl] at hra
      have g0 := fun y : List B => ga0 (x := y) hlen
      have g1 := fun (y : List B) (k : Nat) => ga1 (x := y) (k := k) hlen
      repeat' (first
 |refine AW_seq_k fun K hK=>?_|refine Step.by1 ?_|refine SBlock_exit_ne (by decide) ?_|refine cz rfl ?_|refine Fork.by2 (fun h=>?_) fun h=>?_
 |(refine AW_region_AO ?_;simp [vl, LocD.cells, gsV, hkt, hkt', hle, g0, g1, hlen])
 |(refine Split.by2 (fun h=>?_) (fun h=>?_)<;>(simp [h, vl, LocD.cells, gsV, hkt, hkt', hle, g0, g1, hlen]))
 |(refine AS_callG (f := 167) rfl rfl hra rfl (fun v h' hq => ?_); obtain ⟨rfl, rfl⟩ := hq; simp)
 |(apply hK;clear hK K)|refine AWh (by assumption) ?_)
      have b0 := fun (c : List Int) (y : List B) => ga0 (h := hc.set x.1 (.row 3 x.2 0 true (ivs c))) (x := y) (n := H0.length) (by rw [List.length_set]; exact hlen)
      have b1 := fun (c : List Int) (y : List B) (k : Nat) => ga1 (h := hc.set x.1 (.row 3 x.2 0 true (ivs c))) (x := y) (n := H0.length) (k := k) (by rw [List.length_set]; exact hlen)
      have bs0 := fun (c : List Int) (y : List B) (z : B) => sa0 (h := hc.set x.1 (.row 3 x.2 0 true (ivs c))) (x := y) (n := H0.length) (y := z) (by rw [List.length_set]; exact hlen)
      have hHl : ∀ c : List Int, HL (hc.set x.1 (.row 3 x.2 0 true (ivs c)) ++ [B.var l.cells]) := fun c => hHx c _ (by simp [LocD.cells, vl])
      refine AW_range (r := rr) gs 48 [2, 3, 5, 9, 10, 33, 34, 35, 46, 47] (fun _ : List Int => []) (fun c => hc.set x.1 (B.row 3 x.2 0 true (ivs c)) ++ [B.var l.cells]) (fun _ c => c.length = N) (raiseGs so) (raiseL so l.inv r) hrr (by rw [raiseL_len]; exact hrl)
        (Weak.sym (x := []) (by simp [LocD.cells, vl]) (hHl _) (by simp [vl, gsV, hlen]; omega)) (fun _ c _ => by simp) ?_ ?_
      · intro q c g hgq hq hge hJ hF
        rw [raiseGs_cons] at hF
        obtain ⟨c2, hc2⟩ : ∃ c2, raisePs so g c = c2 := ⟨_, rfl⟩
        rw [hc2] at hF
        have hgm : g ∈ gs := List.mem_of_getElem? hgq
        have hgo := hgs g hgm
        have hgG2 := hgG g hgm
        have hq' : (q : Int) < gs.length := by omega
        have w2 : IntKind.i64.wrap ((q : Int) + 1) = q + 1 := wrap_i64 (by omega) (by omega)
        clear hgq hgm
        repeat' (first
 |refine AW_seq_k fun K hK=>?_|refine Step.by1 ?_|refine SBlock_exit_ne (by decide) ?_|refine cz rfl ?_|refine Fork.by2 (fun h=>?_) fun h=>?_
 |(refine AW_region_AO ?_;simp [gsV, vl, hq, hq', hge])
 |(refine Split.by2 (fun h=>?_) (fun h=>?_)<;>(simp [h, gsV, vl, hq, hq', hge]))
 |(apply hK;clear hK K)|refine AWh (by assumption) ?_)
        refine AW_range (r := c2) g 54 [2, 3, 5, 9, 10, 33, 34, 35, 46, 47, 48, 52, 53] (fun _ : List Int => []) (fun c => hc.set x.1 (B.row 3 x.2 0 true (ivs c)) ++ [B.var l.cells]) (fun _ c => c.length = N) (raisePs so) c hc2 hJ
          (Weak.sym (x := []) (by simp [LocD.cells, vl]) (hHl _) (by simp [vl, gsV, hlen]; omega)) (fun _ c _ => by simp) ?_ ?_
        · intro j c p hpj hj hpe hJ hF2
          rw [raisePs_cons] at hF2
          have hpm : p ∈ g := List.mem_of_getElem? hpj
          have hpg := (hgo.2 p hpm).2.1
          have hgG3 := hgG2 p hpm
          have hj' : (j : Int) < g.length := by omega
          have w3 : IntKind.i64.wrap ((j : Int) + 1) = j + 1 := wrap_i64 (by have := hgo.1; omega) (by have := hgo.1; omega)
          clear hpj hpm
          have hrb := c_luRaiseC hm hN fso so hso hx hJ (x := [B.var l.cells, B.var p.cells]) (hHx c _ (by simp [PartD.cells, LocD.cells, vl])) p.guards hpg.1 hgG3 (by omega)
          rw [hjl] at hrb
          simp only [PartD.cells, LocD.cells, vl] at hrb
          repeat' (first
 |refine AW_seq_k fun K hK=>?_|refine Step.by1 ?_|refine SBlock_exit_ne (by decide) ?_|refine cz rfl ?_|refine Fork.by2 (fun h=>?_) fun h=>?_
 |(refine AW_region_AO ?_;simp [gsV, vl, PartD.cells, LocD.cells, hj, hj', hpe, w3, b0, b1, bs0, hlen])
 |(refine Split.by2 (fun h=>?_) (fun h=>?_)<;>(simp [h, gsV, vl, PartD.cells, LocD.cells, hj, hj', hpe, w3, b0, b1, bs0, hlen]))
 |(refine AS_callG (f := 167) rfl rfl hrb rfl (fun v h' hq => ?_); obtain ⟨rfl, rfl⟩ := hq; simp)
 |(apply hK;clear hK K)|refine AWh (by assumption) ?_)
          refine ⟨_, hF2, by rw [raiseL_len]; exact hJ, Weak.sym (x := [B.var p.cells]) (by simp [PartD.cells, LocD.cells, vl]) (hHl _) (by simp [vl, gsV, hlen]; omega)⟩
        · intro c hJ hF2
          rw [raisePs_nil] at hF2
          subst c
          repeat' (first
 |refine AW_seq_k fun K hK=>?_|refine Step.by1 ?_|refine SBlock_exit_ne (by decide) ?_|refine cz rfl ?_|refine Fork.by2 (fun h=>?_) fun h=>?_
 |(refine AW_region_AO ?_;simp [gsV, vl, w2])
 |(refine Split.by2 (fun h=>?_) (fun h=>?_)<;>(simp [h, gsV, vl, w2]))
 |(apply hK;clear hK K)|refine AWh (by assumption) ?_)
          refine ⟨c2, hF, hJ, Weak.sym (x := []) (by simp [LocD.cells, vl]) (hHl _) (by simp [vl, gsV, hlen]; omega)⟩
      · intro c hJ hF
        rw [raiseGs_nil] at hF
        subst c
        repeat' (first
 |refine AW_seq_k fun K hK=>?_|refine Step.by1 ?_|refine SBlock_exit_ne (by decide) ?_|refine cz rfl ?_|refine Fork.by2 (fun h=>?_) fun h=>?_
 |(refine AW_region_AO ?_;simp [gsV, vl, w1])
 |(refine Split.by2 (fun h=>?_) (fun h=>?_)<;>(simp [h, gsV, vl, w1]))
 |(apply hK;clear hK K)|refine AWh (by assumption) ?_)
        have hm' := hm.upd hx hJ
        exact ⟨⟨k + 1, mo, _, _⟩, ⟨by show k + 1 ≤ _; omega, hst, hm'⟩, by show _ - (k + 1) < _ - k; omega, Weak.sym (x := [B.var l.cells]) (by simp [LocD.cells, vl]) hm'.hl (by simp [vl, gsV, hlen]; omega)⟩
    · obtain rfl : k = a.locs.length := by omega
      have hp3 := hp.done
      have c1' : hc[h.length + 1]? = some (.var a.cells) := by rw [hm.rest _ hj1]; exact c1
      simp only [AutoD.cells, vl] at c1'
      repeat' (first
 |refine AW_seq_k fun K hK=>?_|refine Step.by1 ?_|refine SBlock_exit_ne (by decide) ?_|refine cz rfl ?_|refine Fork.by2 (fun h=>?_) fun h=>?_
 |(refine AW_region_AO ?_;simp [vl, c1'])
 |(refine Split.by2 (fun h=>?_) (fun h=>?_)<;>(simp [h, vl, c1']))
 |(apply hK;clear hK K)|refine AWh (by assumption) ?_)
      clear hp
      refine AW_loopL [3, 5, 9, 68, 69] (fun s : NS => [(70, .int .i64 s.k)]) (fun s => s.hc) (fun s => s.k ≤ a.edges.length ∧ L3 a N so gs s.k s.m ∧ MR 47 3 ivs H0 (h.length + 2) a.locs.length fl js N s.m s.hc) (fun s => a.edges.length - s.k) ⟨0, false, m, hc⟩ ⟨Nat.zero_le _, hp3, hm⟩
        (Weak.sym (x := []) (by simp) hm.hl (by simp [vl, gsV, hlen]; omega)) (fun s hs => by rw [hs.2.2.len, hlen]) ?_
      clear hp3 hm hlen c1'
      rintro ⟨k, mo, m, hc⟩ ⟨hk, hp, hm⟩
      simp only at hk hp hm
      have hlen := hm.len
      by_cases hkt : k < a.edges.length
      · obtain ⟨e, he⟩ : ∃ e, a.edges[k] = e := ⟨_, rfl⟩
        have he' : a.edges[k]? = some e := by rw [List.getElem?_eq_getElem hkt, he]
        have hem := List.mem_of_getElem? he'
        obtain ⟨⟨f1, f2⟩, t1, t2⟩ := hE e hem
        obtain ⟨p, hpp⟩ := Int.eq_ofNat_of_zero_le f1
        have hkt' : (k : Int) < a.edges.length := by omega
        have w1 : IntKind.i64.wrap ((k : Int) + 1) = k + 1 := wrap_i64 (by omega) (by omega)
        have hpl : p < a.locs.length := by omega
        obtain ⟨x, hx, hmp⟩ := hm.at (i := p) (by omega)
        obtain ⟨r, hr, hrl, hrow⟩ := hm.rows p x hx
        have hst := hp.step he' hpp hr
        have hX0 : HL (hc ++ [B.var e.cells]) := hm.hl.app (by simp [EdgeD.cells, vl])
        have hra := c_luRaiseX hm hX0 hN fso so hso hx hr e.guards (hae.2 e hem).2.2.1.1 (hgE e hem) (by omega)
        rw [hjl] at hra
        simp only [EdgeD.cells, vl, hpp] at hra
        have g0 := fun y : List B => ga0 (x := y) hlen
        have g1 := fun (y : List B) (k : Nat) => ga1 (x := y) (k := k) hlen
        repeat' (first
 |refine AW_seq_k fun K hK=>?_|refine Step.by1 ?_|refine SBlock_exit_ne (by decide) ?_|refine cz rfl ?_|refine Fork.by2 (fun h=>?_) fun h=>?_
 |(refine AW_region_AO ?_;simp [vl, EdgeD.cells, hkt, hkt', he, hpp, g0, g1, hlen, w1])
 |(refine Split.by2 (fun h=>?_) (fun h=>?_)<;>(simp [h, vl, EdgeD.cells, hkt, hkt', he, hpp, g0, g1, hlen, w1]))
 |(refine AS_callG (f := 167) rfl rfl hra rfl (fun v h' hq => ?_); obtain ⟨rfl, rfl⟩ := hq; simp)
 |(apply hK;clear hK K)|refine AWh (by assumption) ?_)
        have hm' := hm.upd hx (r := raiseL so e.guards r) (by rw [raiseL_len]; exact hrl)
        exact ⟨⟨k + 1, mo, _, _⟩, ⟨by show k + 1 ≤ _; omega, hst, hm'⟩, by show _ - (k + 1) < _ - k; omega, Weak.sym (x := [B.var e.cells]) (by simp [EdgeD.cells, vl, hpp]) hm'.hl (by simp [vl, gsV, hlen]; omega)⟩
      · obtain rfl : k = a.edges.length := by omega
        have hls := hp.ls
        repeat' (first
 |refine AW_seq_k fun K hK=>?_|refine Step.by1 ?_|refine SBlock_exit_ne (by decide) ?_|refine cz rfl ?_|refine Fork.by2 (fun h=>?_) fun h=>?_
 |(refine AW_region_AO ?_;simp [vl])
 |(refine Split.by2 (fun h=>?_) (fun h=>?_)<;>(simp [h, vl]))
 |(apply hK;clear hK K)|refine AWh (by assumption) ?_)
        refine AW_loopL [5, 9] (fun s : NS => []) (fun s => s.hc) (fun s => LS a N (luB a N so gs) s.m ∧ MR 47 3 ivs H0 (h.length + 2) a.locs.length fl js N s.m s.hc) (fun s => nM a (luB a N so gs) s.m) ⟨0, false, m, hc⟩ ⟨hls, hm⟩
          (Weak.sym (x := []) (by simp) hm.hl (by simp [vl, gsV, hlen]; omega)) (fun s hs => by rw [hs.2.len, hlen]) ?_
        clear hp hm hlen hls
        rintro ⟨_, _, m, hc⟩ ⟨hs, hm⟩
        simp only at hs hm
        have hsp := c_luSpread hm.baseI a ha hE _ hs hN
        have c1' : hc[h.length + 1]? = some (.var a.cells) := by rw [hm.rest _ hj1]; exact c1
        rw [hjl] at hsp
        simp only [AutoD.cells, vl] at hsp c1'
        repeat' (first
 |refine AW_seq_k fun K hK=>?_|refine Step.by1 ?_|refine SBlock_exit_ne (by decide) ?_|refine cz rfl ?_|refine Fork.by2 (fun h=>?_) fun h=>?_
 |(refine AW_region_AO ?_;simp [c1'])
 |(refine Split.by2 (fun h=>?_) (fun h=>?_)<;>(simp [h, c1']))
 |(refine AS_callG (f := 168) rfl rfl hsp rfl (fun v h' hq => ?_); obtain ⟨mo2, m2, rfl, hp2, hm2⟩ := hq; cases mo2 <;> simp)
 |(apply hK;clear hK K)|refine AWh (by assumption) ?_)
        · have e2 := (hp2.eq rfl).1
          have hd := hp2.done
          subst m2
          have hu : IsLu a N (luB a N so gs) m := ⟨hs, hd⟩
          have hm3 := hm.overI hm2
          have hq := (hm3.toN2 hjf ⟨by omega, hjo⟩ (o := h.length))
          rw [hu.luM hE] at hq
          have hO : Old h h' := ⟨hm3.hl, by rw [hm3.len]; exact ho.len, fun k hk => by
            rw [hm3.rest k (fun x hx => by have := hjo x hx; omega)]; exact ho.old k hk⟩
          exact retg1 ⟨h.length + 2, a.locs.length, fl, js.map fun x => (x.1, x.2, N), by simp [hjl], hO, hq⟩ (by simp; exact hq.b_lt) (Go.AM.Leaves.sym hO.len hO.hl)
        · have hm3 := hm.overI hm2
          exact ⟨⟨0, false, m2, h'⟩, ⟨hp2.s, hm3⟩, hp2.lt rfl, Weak.sym (x := []) (by simp) hm3.hl (by simp [hm3.len, vl, AutoD.cells]; omega)⟩
end Go.Proofs.YtgmlimipejcpgaaGreatDoor
end

section
set_option linter.unusedVariables false
set_option linter.unusedSimpArgs false
namespace Go.AM
section
variable {P : Program} {ge : GEnv}
theorem RO_fin {G G' : Gh} {w w' : World} {h : List B} {v r : V} {c : Value} (rh : RH P ge G' h w') (hvc : R G' w' false v c) (grow : WGrow w w') (hsz : w.heap.size ≤ w'.heap.size) (hfzold : ∀ k, k < w.heap.size → G'.fz k = G.fz k)
    (hbase : ∀ (b : Nat) (x : B) (k : Nat), h[b]? = some x → G'.at b x = some k → w.heap.size ≤ k) (hconv : Conv h v r) : ∃ c1 G2, Ending.returned c = .returned c1 ∧ Kept G w G2 w' ∧ RO P G2 w' w.heap.size r c1 := by
  rcases hconv with ⟨n, hrr, hp⟩ | h1 | ⟨vs, rs, rfl, rfl, hl, hall, hdis⟩
  · let fz2 : Nat → Nat := fun k => if k < w.heap.size then G'.fz k else match w'.heap[k]? with
      | some (.cells arr _ _) => max (G'.fz k) arr.size
      | _ => G'.fz k
    have hle : ∀ k, G'.fz k ≤ fz2 k := fun k => by
      show G'.fz k ≤ if k < w.heap.size then G'.fz k else match w'.heap[k]? with | some (.cells arr _ _) => max (G'.fz k) arr.size | _ => G'.fz k
      split
      · exact Nat.le_refl _
      · split
        · exact Nat.le_max_left _ _
        · exact Nat.le_refl _
    have hfr := frz_spec rh (fz2 := fz2) hle (fun b x k arr T fr hx hk hh => by
      have hb := hbase b x k hx hk
      show arr.size ≤ if k < w.heap.size then G'.fz k else match w'.heap[k]? with | some (.cells arr _ _) => max (G'.fz k) arr.size | _ => G'.fz k
      rw [if_neg (by omega), hh]
      exact Nat.le_max_right _ _) n hvc
    refine ⟨c, G'.withFz fz2, rfl, ⟨grow, fun k hk => ?_, fun k hk => ?_⟩, ?_⟩
    · show (if k < w.heap.size then G'.fz k else _) = G.fz k
      rw [if_pos hk]; exact hfzold k hk
    · have hk2 : ¬ k < w.heap.size := by have := hsz; omega
      show (if k < w.heap.size then G'.fz k else match w'.heap[k]? with | some (.cells arr _ _) => max (G'.fz k) arr.size | _ => G'.fz k) = 0
      rw [if_neg hk2, Array.getElem?_eq_none hk]
      exact rh.fzlt k hk
    · rw [← hrr] at hfr
      refine RO_of_one ?_
      cases r <;> first | exact hfr | (simp [V.plain] at hp)
  · exact ⟨c, G', rfl, ⟨grow, hfzold, rh.fzlt⟩, RO_of_one (RO1_of_conv rh hbase hvc h1)⟩
  · refine ⟨c, G', rfl, ⟨grow, hfzold, rh.fzlt⟩, ?_⟩
    cases hvc with
    | @tup _ _ arr hs hr' =>
      refine ⟨arr, rfl, by rw [hs]; exact hl, fun i v hv => ?_, fun i j u v k hu hv ou ov b1 b2 => ?_⟩
      · have hi : i < vs.length := by rw [hl]; exact (List.getElem?_eq_some_iff.1 hv).1
        exact RO1_of_conv rh hbase (hr' i _ (List.getElem?_eq_getElem hi)) (hall i _ v (List.getElem?_eq_getElem hi) hv)
      · have hi : i < vs.length := by rw [hl]; exact (List.getElem?_eq_some_iff.1 hu).1
        have hj : j < vs.length := by rw [hl]; exact (List.getElem?_eq_some_iff.1 hv).1
        have key : ∀ (i : Nat) (hi : i < vs.length) (u : V), rs[i]? = some u → u.isOwn = true → blkOf (arr.getD i undef) = some k → ∃ b x, vs[i].refBlk = some b ∧ h[b]? = some x ∧ G'.at b x = some k := by
          intro i hi u hu ou hb1
          have hR := hr' i _ (List.getElem?_eq_getElem hi)
          rcases hall i _ u (List.getElem?_eq_getElem hi) hu with ⟨hf, rfl⟩ | ⟨b, g, T, xs, hvi, hbx, rfl⟩
          · generalize hvv : vs[i] = vv at *
            cases vv <;> simp [V.isOwn] at ou
            simp [V.isF] at hf
          · rw [hvi] at hR
            refine ⟨b, _, by rw [hvi]; rfl, hbx, ?_⟩
            generalize arr.getD i undef = cc at *
            generalize hnl : xs.length = nl at hR
            cases hR with
            | ref hb' hg' hm' hle' => simp only [blkOf, Option.some.injEq] at hb1; subst hb1; exact hm'
            | refn => simp [blkOf] at hb1
        obtain ⟨bi, xi, e1, e2, e3⟩ := key i hi u hu ou b1
        obtain ⟨bj, xj, f1, f2, f3⟩ := key j hj v hv ov b2
        have hbb := rh.inj bi bj xi xj k e2 f2 e3 f3
        subst hbb
        exact hdis i j _ _ bi (List.getElem?_eq_getElem hi) (List.getElem?_eq_getElem hj) e1 f1
/-- A contract on the empty heap whose results may be told as frozen values or rows of one's own. -/
theorem PCall_of_GCall {f : Nat} {args : List V} {r : V} {Q : V → List B → Prop} (hc : GCall P ge f args [] Q) (hq : ∀ v h', Q v h' → Conv h' v r) : PCall P ge f args r := by
  refine ⟨hc.1, fun G w cargs ha gee => ?_⟩
  let G0 : Gh := { fz := G.fz, n := 0, gm := fun _ => 0, m := fun _ _ => none, sz := fun _ => 0, cap := fun _ _ => 0 }
  have ha0 : ArgsR G0 w false args cargs := ⟨ha.1, fun i v hv => ((ha.2 i v hv).monoT (G' := G0) (fun k => Nat.le_refl (G.fz k)) (fun _ _ _ => rfl) rfl).weak rfl⟩
  have rh0 : RH P ge G0 [] w := ⟨rfl, fun b x hx => by simp at hx, fun b b' x x' k hx => by simp at hx, gee.fzlt, fun g cs hg => (gee.ge g cs hg).monoT (G' := G0) (fun k => Nat.le_refl (G.fz k)) (fun _ _ _ => rfl) rfl⟩
  refine (hc.2 G0 w cargs ha0 rh0).mono fun e w' ⟨c, G', v, h', he, hQ, rh, hv, ext⟩ => ?_
  obtain ⟨c1, G2, e1, k1, k2⟩ := RO_fin (G := G) rh hv ⟨ext.size, fun k hk => (ext.frame k hk fun b x hx => by simp at hx).1, ext.os, ext.out⟩ ext.size (fun k hk => (ext.frame k hk fun b x hx => by simp at hx).2) (fun b x k hx hk => by
    rcases ext.fresh b x k hx hk with h | ⟨b0, x0, h, _⟩
    · exact h
    · simp at h) (hq v h' hQ)
  exact ⟨c1, G2, by rw [he]; exact e1, k1, k2⟩
end
end Go.AM
end

section
set_option linter.unusedVariables false
set_option linter.unusedSimpArgs false
namespace Go.Proofs.YtgmlimipejcpgaaGreatDoor
open Go Go.AM Fx
theorem N2.setne {o b g : Nat} {h : List B} {fl : Bool} {ids : List (Nat × Nat × Nat)} {P : List (List Int)} (p : N2 o h b g fl ids P) {k : Nat} {cs : List V} {y : B} (hk : h[k]? = some (.var cs)) : N2 o (h.set k y) b g fl ids P :=
  ⟨by rw [get_set_ne (fun e => by have := p.at0; rw [← e, hk] at this; cases this)]; exact p.at0, p.flat, p.len, fun j x hx => by
    obtain ⟨ns, h1, h2, h3⟩ := p.rows j x hx
    exact ⟨ns, h1, h2, by rw [get_set_ne (fun e => by rw [← e, hk] at h3; cases h3)]; exact h3⟩, p.low, p.nodup⟩
theorem N3.setne {o b g : Nat} {h : List B} {fl : Bool} {T : List (Nat × Nat × Bool × List (Nat × Nat × Nat))} {P : List (List (List Int))} (p : N3 o h b g fl T P) {k : Nat} {cs : List V} {y : B} (hk : h[k]? = some (.var cs)) : N3 o (h.set k y) b g fl T P :=
  ⟨by rw [get_set_ne (fun e => by have := p.at0; rw [← e, hk] at this; cases this)]; exact p.at0, p.flat, p.len, fun i x hx => by
    obtain ⟨Q, h1, h2⟩ := p.rows i x hx
    exact ⟨Q, h1, h2.setne hk⟩, p.low, p.nodup⟩
theorem N3.low' {o o' b g : Nat} {h : List B} {fl : Bool} {T : List (Nat × Nat × Bool × List (Nat × Nat × Nat))} {P : List (List (List Int))} (p : N3 o h b g fl T P) (ho : o' ≤ o) : N3 o' h b g fl T P :=
  ⟨p.at0, p.flat, p.len, fun i x hx => by
    obtain ⟨Q, h1, h2⟩ := p.rows i x hx
    exact ⟨Q, h1, ⟨h2.at0, h2.flat, h2.len, h2.rows, ⟨Nat.le_trans ho h2.low.1, fun x hx => Nat.le_trans ho (h2.low.2 x hx)⟩, h2.nodup⟩⟩, Nat.le_trans ho p.low, p.nodup⟩
theorem N3.ids_lt {o b g : Nat} {h : List B} {fl : Bool} {T : List (Nat × Nat × Bool × List (Nat × Nat × Nat))} {P : List (List (List Int))} (p : N3 o h b g fl T P) : ∀ y ∈ T, ∀ x ∈ y.2.2.2, x.1 < h.length := fun y hy x hx => by
  obtain ⟨i, hi⟩ := List.getElem?_of_mem hy
  obtain ⟨Q, _, h2⟩ := p.rows i y hi
  exact h2.ids_lt x hx
set_option maxRecDepth 20000 in
set_option maxHeartbeats 16000000 in
theorem c_Plan (n : NetD) (hn : n.ok) (gs : List (List PartD)) (hgl : gs.length ≤ 1048576) (hgs : ∀ g ∈ gs, okGoal g) (he : lookE n gs = 0) (M : List Int) (hM : numbE n (fun _ => true) gs = some M) {h : List B} (hl : HL h) :
    GCall Tryz.prog GV 43 [.agg n.cells, gsV gs] h (fun v h' => ∃ b1 g1 fl1 T1 b2 g2 fl2 T2 o, v = .tup [.agg [.ref b1 g1 0 T1.length, .ref b2 g2 0 T2.length], .int .i64 0] ∧ Old h h' ∧ N3 h.length h' b1 g1 fl1 T1 (planP n gs M) ∧ N3 o h' b2 g2 fl2 T2 (planP n gs M) ∧ h.length ≤ o ∧ ∀ y ∈ T1, ∀ x ∈ y.2.2.2, x.1 < o) := by
  have hml := numb_len hM
  have hc := c_look n hn gs hgl hgs
  have hx := c_Max n hn gs hgl hgs
  rw [he] at hc
  rw [hM] at hx
  have hx' := PCall.freeze hx
  clear hx
  have hil : (ivs M).length = n.clocks.length := by simp [ivs, hml]
  rw [show (M.map fun k => [V.int .i64 k]) = ivs M from rfl, hil] at hx'
  have hh := fun {h : List B} {bn bg bm : Nat} => c_half n hn gs hgl hgs he M hml (h := h) (bn := bn) (bg := bg) (bm := bm)
  have g0 := fun x : List B => ga0 (h := h) (x := x) rfl
  have g1 := fun (x : List B) (k : Nat) => ga1 (h := h) (x := x) (k := k) rfl
  have s1 := fun (x : List B) (k : Nat) (y : B) => sa1 (h := h) (x := x) (k := k) (y := y) rfl
  have hH4 : HL (h ++ [B.var n.cells, B.var [gsV gs], B.var [.nils, .nils], B.var [.vec (ivs M) n.clocks.length]]) := hl.app (by simp [NetD.cells, gsV, vl])
  simp only [NetD.cells, vl, gsV] at hc hx' hh hH4
  refine GCall_body Tryz.func43 rfl (by decide) Tryz.ntmps43 (by simp) Tryz.results43 ?_
  repeat' (first
 |refine AW_seq_k fun K hK=>?_|refine Step.by1 ?_|refine SBlock_exit_ne (by decide) ?_|refine cz rfl ?_|refine Fork.by2 (fun h=>?_) fun h=>?_
 |((first|refine AW_region_AO ?_|refine AS_call1 (f:=98) rfl rfl (hc) rfl rfl rfl ?_|refine AS_call1 (f:=22) rfl rfl (hx') rfl rfl rfl ?_);simp [NetD.cells, vl, gsV, g0, g1, s1])
 |(refine Split.by2 (fun h=>?_) (fun h=>?_)<;>(simp [h, NetD.cells, vl, gsV, g0, g1, s1]))
 |(refine AS_callG (f := 111) rfl rfl (hh hH4 (by simp [g0]) (by simp [g1]) (by simp [g1])) rfl (fun v h' hq => ?_); obtain ⟨b1, g1', fl1, T1, rfl, ho1, hp1⟩ := hq; simp)
 |(apply hK;clear hK K)|refine AWh (by assumption) ?_)
  refine AS_callG (f := 111) rfl rfl (hh ho1.hl (ho1.get (by simp [g0])) (ho1.get (by simp [g1])) (ho1.get (by simp [g1]))) rfl (fun v h2 hq => ?_)
  obtain ⟨b2, g2, fl2, T2, rfl, ho2, hp2⟩ := hq
  have r2 : h2[h.length + 2]? = some (.var [.nils, .nils]) := ho2.get (ho1.get (by simp [g1]))
  have e2 : (h2.set (h.length + 2) (B.var [V.ref b1 g1' 0 T1.length, V.ref b2 g2 0 T2.length]))[h.length + 2]? = some (B.var [V.ref b1 g1' 0 T1.length, V.ref b2 g2 0 T2.length]) := get_set_eq r2
  simp [r2]
  repeat' (first
 |refine AW_seq_k fun K hK=>?_|refine Step.by1 ?_|refine SBlock_exit_ne (by decide) ?_|refine cz rfl ?_|refine Fork.by2 (fun h=>?_) fun h=>?_
 |(refine AW_region_AO ?_;simp [r2])
 |(refine Split.by2 (fun h=>?_) (fun h=>?_)<;>(simp [h, r2]))
 |(apply hK;clear hK K)|refine AWh (by assumption) ?_)
  have hd := (ho1.trans ho2)
  have hl2 : HL (h2.set (h.length + 2) (B.var [V.ref b1 g1' 0 T1.length, V.ref b2 g2 0 T2.length])) := hd.hl.set (by have := (hp1.mono ho2.old).b_lt; have := hp2.b_lt; simp; omega)
  have hO : Old h (h2.set (h.length + 2) (B.var [V.ref b1 g1' 0 T1.length, V.ref b2 g2 0 T2.length])) := (((Old.rfl hl).app hH4).trans hd).set (Nat.le_add_right _ _) hl2
  refine retg2c (by simp [e2]; exact ⟨rfl, rfl⟩) (by simp) ⟨b1, g1', fl1, T1, b2, g2, fl2, T2, h'.length, by simp, hO, ((hp1.mono ho2.old).setne r2).low' (by simp), hp2.setne r2, by have := ho1.len; simp at this; omega, hp1.ids_lt⟩ (by have := (hp1.mono ho2.old).b_lt; have := hp2.b_lt; simp; omega) (Go.AM.Leaves.sym hO.len hO.hl)
def halfV (P : List (List (List Int))) : V := .vec (rows3V P) P.length
theorem c_PlanF (n : NetD) (hn : n.ok) (gs : List (List PartD)) (hgl : gs.length ≤ 1048576) (hgs : ∀ g ∈ gs, okGoal g) (he : lookE n gs = 0) (M : List Int) (hM : numbE n (fun _ => true) gs = some M) :
    PC 43 [.agg n.cells, gsV gs] (.tup [.agg [halfV (planP n gs M), halfV (planP n gs M)], .int .i64 0]) :=
  PCall_of_GCall (c_Plan n hn gs hgl hgs he M hM (h := []) (by simp [HL])) fun v h' ⟨b1, g1, fl1, T1, b2, g2, fl2, T2, o, hv, hO, p1, p2, _⟩ => .inl ⟨5, by
    rw [hv]
    show _ = V.tup [V.agg [Go.AM.frz h' 3 (.ref b1 g1 0 T1.length), Go.AM.frz h' 3 (.ref b2 g2 0 T2.length)], Go.AM.frz h' 4 (.int .i64 0)]
    rw [p1.frz, p2.frz]
    rfl, rfl⟩
set_option maxRecDepth 20000 in
set_option maxHeartbeats 4000000 in
theorem c_PlanBad (n : NetD) (hn : n.ok) (gs : List (List PartD)) (hgl : gs.length ≤ 1048576) (hgs : ∀ g ∈ gs, okGoal g) (he : lookE n gs ≠ 0) :
    PC 43 [.agg n.cells, gsV gs] (.tup [.agg [.nils, .nils], .int .i64 (lookE n gs)]) := by
  have hc := c_look n hn gs hgl hgs
  generalize lookE n gs = e at *
  simp only [NetD.cells, vl, gsV] at hc
  refine PCall_body Tryz.func43 rfl (by decide) Tryz.ntmps43 (by simp) Tryz.results43 ?_
  repeat' (first
 |refine AW_seq_k fun K hK=>?_|refine Step.by1 ?_|refine SBlock_exit_ne (by decide) ?_|refine cz rfl ?_|refine Fork.by2 (fun h=>?_) fun h=>?_
 |((first|refine AW_region_AO ?_|refine AS_call1 (f:=98) rfl rfl (hc) rfl rfl rfl ?_);simp [NetD.cells, vl, gsV, he])
 |(refine Split.by2 (fun h=>?_) (fun h=>?_)<;>(simp [h, NetD.cells, vl, gsV, he]))
 |(apply hK;clear hK K)|refine AWh (by assumption) ?_)
  exact retq2ct rfl (by simp) (conv_eq (by simp) (by simp))
end Go.Proofs.YtgmlimipejcpgaaGreatDoor
end

section
set_option linter.unusedVariables false
set_option linter.unusedSimpArgs false
namespace Go.Proofs.YtgmlimipejcpgaaGreatDoor
open Go Go.AM Fx
abbrev Rows3 := List (Nat × Nat × Bool × List (Nat × Nat × Nat))
noncomputable def luP (n : NetD) (so : Int → Bool) (gs : List (List PartD)) : List (List (List Int)) := n.autos.map fun a => luM a n.clocks.length (luB a n.clocks.length so gs)
theorem luP_at {n : NetD} {so : Int → Bool} {gs : List (List PartD)} {i : Nat} (hi : i < n.autos.length) : (luP n so gs).take (i + 1) = (luP n so gs).take i ++ [luM n.autos[i] n.clocks.length (luB n.autos[i] n.clocks.length so gs)] := by
  rw [List.take_add_one, List.getElem?_eq_getElem (by simp [luP]; exact hi)]; simp [luP]
def idsR (T : Rows3) : List Nat := (T.flatMap (·.2.2.2)).map (·.1)
theorem idsR_snoc {T : Rows3} {y : Nat × Nat × Bool × List (Nat × Nat × Nat)} : idsR (T ++ [y]) = idsR T ++ y.2.2.2.map (·.1) := by simp [idsR]
theorem N2.low' {o o' b g : Nat} {h : List B} {fl : Bool} {ids : List (Nat × Nat × Nat)} {P : List (List Int)} (p : N2 o h b g fl ids P) (ho : o' ≤ o) : N2 o' h b g fl ids P := ⟨p.at0, p.flat, p.len, p.rows, ⟨Nat.le_trans ho p.low.1, fun x hx => Nat.le_trans ho (p.low.2 x hx)⟩, p.nodup⟩
theorem N2.set54 {o b g : Nat} {h : List B} {fl : Bool} {ids : List (Nat × Nat × Nat)} {P : List (List Int)} (p : N2 o h b g fl ids P) {k gk fk : Nat} {flk : Bool} {xs : List (List V)} {y : B} (hk : h[k]? = some (.row 54 gk fk flk xs)) : N2 o (h.set k y) b g fl ids P :=
  ⟨by rw [get_set_ne (fun e => by have := p.at0; rw [← e, hk] at this; simp at this)]; exact p.at0, p.flat, p.len, fun j x hx => by
    obtain ⟨ns, h1, h2, h3⟩ := p.rows j x hx
    exact ⟨ns, h1, h2, by rw [get_set_ne (fun e => by rw [← e, hk] at h3; simp at h3)]; exact h3⟩, p.low, p.nodup⟩
theorem N3.set54 {o b g : Nat} {h : List B} {fl : Bool} {T : Rows3} {P : List (List (List Int))} (p : N3 o h b g fl T P) {k gk fk : Nat} {flk : Bool} {xs : List (List V)} {y : B} (hne : k ≠ b) (hk : h[k]? = some (.row 54 gk fk flk xs)) : N3 o (h.set k y) b g fl T P :=
  ⟨by rw [get_set_ne hne]; exact p.at0, p.flat, p.len, fun i x hx => by
    obtain ⟨Q, h1, h2⟩ := p.rows i x hx
    exact ⟨Q, h1, h2.set54 hk⟩, p.low, p.nodup⟩
theorem N3.idsR_lt {o b g : Nat} {h : List B} {fl : Bool} {T : Rows3} {P : List (List (List Int))} (p : N3 o h b g fl T P) : ∀ k ∈ idsR T, k < h.length := fun k hk => by
  obtain ⟨x, hx, rfl⟩ := List.mem_map.1 hk
  obtain ⟨y, hy, hxy⟩ := List.mem_flatMap.1 hx
  exact p.ids_lt y hy x hxy
theorem N3.refs_lt {o b g : Nat} {h : List B} {fl : Bool} {T : Rows3} {P : List (List (List Int))} (p : N3 o h b g fl T P) : ∀ y ∈ T.map fun y => [V.ref y.1 y.2.1 0 y.2.2.2.length], V.lts h.length y = true := fun y hy => by
  obtain ⟨x, hx, rfl⟩ := List.mem_map.1 hy
  obtain ⟨q, hq2⟩ := List.getElem?_of_mem hx
  obtain ⟨_, _, h5⟩ := p.rows q x hq2
  have := h5.b_lt
  simp; omega
structure PH (n : NetD) (h : List B) (A1 A2 : List (List (List Int))) (i1 i2 : Nat) (hc : List B) (f1 : Bool) (T1 : Rows3) (f2 : Bool) (T2 : Rows3) : Prop where
  ho : Old h hc
  c0 : hc[h.length]? = some (.var n.cells)
  c1 : hc[h.length + 1]? = some (.var [.nils, .nils])
  c2 : hc[h.length + 2]? = some (.var [.ref (h.length + 3) i1 0 i1, .ref (h.length + 4) i2 0 i2])
  t1 : T1.length = i1
  t2 : T2.length = i2
  p1 : N3 h.length hc (h.length + 3) i1 f1 T1 A1
  p2 : N3 h.length hc (h.length + 4) i2 f2 T2 A2
  dj : (idsR T1 ++ idsR T2).Nodup
section
variable {n : NetD} {h hc h1 : List B} {A1 A2 : List (List (List Int))} {i1 i2 : Nat} {f1 f2 : Bool} {T1 T2 : Rows3}
theorem PH.ext (p : PH n h A1 A2 i1 i2 hc f1 T1 f2 T2) (q : Old hc h1) : PH n h A1 A2 i1 i2 h1 f1 T1 f2 T2 :=
  ⟨p.ho.trans q, q.get p.c0, q.get p.c1, q.get p.c2, p.t1, p.t2, p.p1.mono q.old, p.p2.mono q.old, p.dj⟩
/-- A row of rows more, its heap. -/
def loH (h h1 : List B) (i1 i2 : Nat) (T1 : Rows3) (r : V) : List B := (h1.set (h.length + 3) (.row 54 (i1 + 1) 0 false (T1.map (fun y => [V.ref y.1 y.2.1 0 y.2.2.2.length]) ++ [[r]])) ++ [B.row 54 0 0 false [[r]]]).set (h.length + 2) (.var [.ref (h.length + 3) (i1 + 1) 0 (i1 + 1), .ref (h.length + 4) i2 0 i2])
def upH (h h1 : List B) (i1 i2 : Nat) (T2 : Rows3) (r : V) : List B := (h1.set (h.length + 4) (.row 54 (i2 + 1) 0 false (T2.map (fun y => [V.ref y.1 y.2.1 0 y.2.2.2.length]) ++ [[r]])) ++ [B.row 54 0 0 false [[r]]]).set (h.length + 2) (.var [.ref (h.length + 3) i1 0 i1, .ref (h.length + 4) (i2 + 1) 0 (i2 + 1)])
theorem PH.lo (p : PH n h A1 A2 i1 i2 hc f1 T1 f2 T2) (q : Old hc h1) {o b g : Nat} {fl : Bool} {ids : List (Nat × Nat × Nat)} {Q : List (List Int)} (r : N2 o h1 b g fl ids Q) (ho : hc.length ≤ o) :
    PH n h (A1 ++ [Q]) A2 (i1 + 1) i2 (loH h h1 i1 i2 T1 (.ref b g 0 ids.length)) false (T1 ++ [(b, g, fl, ids)]) f2 T2 := by
  have r' := r.low' ho
  have e := p.ext q
  have hb3 := e.p1.b_lt
  have hb4 := e.p2.b_lt
  have hrb := r.b_lt
  have s1 := p.p1.snoc p.ho.len q.old r'
  obtain ⟨xs, hxs⟩ : ∃ xs, (T1.map (fun y => [V.ref y.1 y.2.1 0 y.2.2.2.length]) ++ [[V.ref b g 0 ids.length]]) = xs := ⟨_, rfl⟩
  have hxl : ∀ x ∈ xs, V.lts h1.length x = true := fun x hx => by
    rw [← hxs] at hx
    rcases List.mem_append.1 hx with hx | hx
    · exact e.p1.refs_lt x hx
    · simp at hx; subst hx; simp; exact hrb
  rw [hxs] at s1
  have hk : (h1.set (h.length + 3) (.row 54 (i1 + 1) 0 false xs) ++ [B.row 54 0 0 false [[V.ref b g 0 ids.length]]])[h.length + 2]? = some (.var [.ref (h.length + 3) i1 0 i1, .ref (h.length + 4) i2 0 i2]) := by
    rw [get_app (by rw [List.length_set]; omega), get_set_ne (by omega)]; exact e.c2
  have hl1 : HL (h1.set (h.length + 3) (.row 54 (i1 + 1) 0 false xs)) := q.hl.set (rowR_lt hxl)
  have hl2 : HL (h1.set (h.length + 3) (.row 54 (i1 + 1) 0 false xs) ++ [B.row 54 0 0 false [[V.ref b g 0 ids.length]]]) := hl1.app (by simp; omega)
  have hl3 := hl2.set (i := h.length + 2) (y := .var [.ref (h.length + 3) (i1 + 1) 0 (i1 + 1), .ref (h.length + 4) i2 0 i2]) (by simp; omega)
  unfold loH
  rw [hxs]
  refine ⟨((e.ho.set (by omega) hl1).app hl2).set (by omega) hl3, ?_, ?_, get_set_eq hk, by simp [p.t1], p.t2, ?_, ?_, ?_⟩
  · rw [get_set_ne (by omega), get_app (by rw [List.length_set]; omega), get_set_ne (by omega)]; exact e.c0
  · rw [get_set_ne (by omega), get_app (by rw [List.length_set]; omega), get_set_ne (by omega)]; exact e.c1
  · exact (s1.mono fun k hk => get_app hk).setne hk
  · exact ((e.p2.set54 (by omega) e.p1.at0).mono fun k hk => get_app hk).setne hk
  · rw [idsR_snoc]
    have h5 := p.dj
    rw [List.nodup_append] at h5
    have key : ∀ x ∈ ids.map (·.1), hc.length ≤ x := fun x hx => by
      obtain ⟨z, hz, rfl⟩ := List.mem_map.1 hx
      exact r'.low.2 z hz
    refine List.nodup_append.2 ⟨List.nodup_append.2 ⟨h5.1, r.nodup, fun u hu w hw => ?_⟩, h5.2.1, fun u hu w hw => ?_⟩
    · have := p.p1.idsR_lt u hu; have := key w hw; omega
    · have := p.p2.idsR_lt w hw
      rcases List.mem_append.1 hu with hu | hu
      · exact h5.2.2 u hu w hw
      · have := key u hu; omega
theorem PH.up (p : PH n h A1 A2 i1 i2 hc f1 T1 f2 T2) (q : Old hc h1) {o b g : Nat} {fl : Bool} {ids : List (Nat × Nat × Nat)} {Q : List (List Int)} (r : N2 o h1 b g fl ids Q) (ho : hc.length ≤ o) :
    PH n h A1 (A2 ++ [Q]) i1 (i2 + 1) (upH h h1 i1 i2 T2 (.ref b g 0 ids.length)) f1 T1 false (T2 ++ [(b, g, fl, ids)]) := by
  have r' := r.low' ho
  have e := p.ext q
  have hb3 := e.p1.b_lt
  have hb4 := e.p2.b_lt
  have hrb := r.b_lt
  have s1 := p.p2.snoc p.ho.len q.old r'
  obtain ⟨xs, hxs⟩ : ∃ xs, (T2.map (fun y => [V.ref y.1 y.2.1 0 y.2.2.2.length]) ++ [[V.ref b g 0 ids.length]]) = xs := ⟨_, rfl⟩
  have hxl : ∀ x ∈ xs, V.lts h1.length x = true := fun x hx => by
    rw [← hxs] at hx
    rcases List.mem_append.1 hx with hx | hx
    · exact e.p2.refs_lt x hx
    · simp at hx; subst hx; simp; exact hrb
  rw [hxs] at s1
  have hk : (h1.set (h.length + 4) (.row 54 (i2 + 1) 0 false xs) ++ [B.row 54 0 0 false [[V.ref b g 0 ids.length]]])[h.length + 2]? = some (.var [.ref (h.length + 3) i1 0 i1, .ref (h.length + 4) i2 0 i2]) := by
    rw [get_app (by rw [List.length_set]; omega), get_set_ne (by omega)]; exact e.c2
  have hl1 : HL (h1.set (h.length + 4) (.row 54 (i2 + 1) 0 false xs)) := q.hl.set (rowR_lt hxl)
  have hl2 : HL (h1.set (h.length + 4) (.row 54 (i2 + 1) 0 false xs) ++ [B.row 54 0 0 false [[V.ref b g 0 ids.length]]]) := hl1.app (by simp; omega)
  have hl3 := hl2.set (i := h.length + 2) (y := .var [.ref (h.length + 3) i1 0 i1, .ref (h.length + 4) (i2 + 1) 0 (i2 + 1)]) (by simp; omega)
  unfold upH
  rw [hxs]
  refine ⟨((e.ho.set (by omega) hl1).app hl2).set (by omega) hl3, ?_, ?_, get_set_eq hk, p.t1, by simp [p.t2], ?_, ?_, ?_⟩
  · rw [get_set_ne (by omega), get_app (by rw [List.length_set]; omega), get_set_ne (by omega)]; exact e.c0
  · rw [get_set_ne (by omega), get_app (by rw [List.length_set]; omega), get_set_ne (by omega)]; exact e.c1
  · exact ((e.p1.set54 (by omega) e.p2.at0).mono fun k hk => get_app hk).setne hk
  · exact (s1.mono fun k hk => get_app hk).setne hk
  · rw [idsR_snoc]
    have h5 := p.dj
    rw [List.nodup_append] at h5
    have key : ∀ x ∈ ids.map (·.1), hc.length ≤ x := fun x hx => by
      obtain ⟨z, hz, rfl⟩ := List.mem_map.1 hx
      exact r'.low.2 z hz
    refine List.nodup_append.2 ⟨h5.1, List.nodup_append.2 ⟨h5.2.1, r.nodup, fun u hu w hw => ?_⟩, fun u hu w hw => ?_⟩
    · have := p.p2.idsR_lt u hu; have := key w hw; omega
    · have := p.p1.idsR_lt u hu
      rcases List.mem_append.1 hw with hw | hw
      · exact h5.2.2 u hu w hw
      · have := key w hw; omega
end
end Go.Proofs.YtgmlimipejcpgaaGreatDoor
end

section
set_option linter.unusedVariables false
set_option linter.unusedSimpArgs false
namespace Go.Proofs.YtgmlimipejcpgaaGreatDoor
open Go Go.AM Fx
structure PQ where
  i : Nat
  hc : List B
  f1 : Bool
  T1 : Rows3
  f2 : Bool
  T2 : Rows3
structure PQI (n : NetD) (gs : List (List PartD)) (h : List B) (s : PQ) : Prop where
  i : s.i ≤ n.autos.length
  p : PH n h ((luP n lowB gs).take s.i) ((luP n upB gs).take s.i) s.i s.i s.hc s.f1 s.T1 s.f2 s.T2
theorem Old.rfl' {h hc : List B} (p : Old h hc) : Old hc hc := ⟨p.hl, Nat.le_refl _, fun _ _ => Eq.refl _⟩
set_option maxRecDepth 20000 in
set_option maxHeartbeats 16000000 in
theorem c_luPlan (n : NetD) (hn : n.ok) (gs : List (List PartD)) (hgl : gs.length ≤ 1048576) (hgs : ∀ g ∈ gs, okGoal g) (he : lookE n gs = 0) {h : List B} (hl : HL h) :
    GCall Tryz.prog GV 38 [.agg n.cells, gsV gs] h (fun v h' => ∃ b1 g1 f1 T1 b2 g2 f2 T2, v = .tup [.agg [.ref b1 g1 0 T1.length, .ref b2 g2 0 T2.length], .int .i64 0] ∧ Old h h' ∧ N3 h.length h' b1 g1 f1 T1 (luP n lowB gs) ∧ N3 h.length h' b2 g2 f2 T2 (luP n upB gs) ∧ (idsR T1 ++ idsR T2).Nodup) := by
  have hc := c_luLook n hn gs hgl hgs
  rw [he] at hc
  have hal := hn.2.2.2.1
  have g0 := fun x : List B => ga0 (h := h) (x := x) rfl
  have g1 := fun (x : List B) (k : Nat) => ga1 (h := h) (x := x) (k := k) rfl
  have s1 := fun (x : List B) (k : Nat) (y : B) => sa1 (h := h) (x := x) (k := k) (y := y) rfl
  simp only [NetD.cells, vl, gsV] at hc
  refine GCall_body Tryz.func38 rfl (by decide) Tryz.ntmps38 (by simp) Tryz.results38 ?_
  repeat' (first
 |refine AW_seq_k fun K hK=>?_|refine Step.by1 ?_|refine SBlock_exit_ne (by decide) ?_|refine cz rfl ?_|refine Fork.by2 (fun h=>?_) fun h=>?_
 |((first|refine AW_region_AO ?_|refine AS_call1 (f:=103) rfl rfl (hc) rfl rfl rfl ?_);simp [NetD.cells, vl, gsV, g0, g1, s1])
 |(refine Split.by2 (fun h=>?_) (fun h=>?_)<;>(simp [h, NetD.cells, vl, gsV, g0, g1, s1]))
 |(apply hK;clear hK K)|refine AWh (by assumption) ?_)
  refine AW_nilcell (h.length + 2) 0 54 (cs := [.nils, .nils]) (by simp [g1]) rfl (by simp) ?_
  refine AW_nilcell (h.length + 2) 1 54 (cs := [.ref (h.length + 3) 0 0 0, .nils]) (by simp [g1, s1]) rfl (by simp) ?_
  have hH : HL (h ++ [B.var n.cells, B.var [.nils, .nils], B.var [.ref (h.length + 3) 0 0 0, .ref (h.length + 4) 0 0 0], B.row 54 0 0 true [], B.row 54 0 0 true []]) := hl.app (by simp [NetD.cells, vl])
  have hP0 : PH n h [] [] 0 0 (h ++ [B.var n.cells, B.var [.nils, .nils], B.var [.ref (h.length + 3) 0 0 0, .ref (h.length + 4) 0 0 0], B.row 54 0 0 true [], B.row 54 0 0 true []]) true [] true [] :=
    ⟨(Old.rfl hl).app hH, g0 _, g1 _ 1, g1 _ 2, rfl, rfl, ⟨g1 _ 3, fun _ => rfl, rfl, fun i y hy => by simp at hy, by omega, by simp⟩, ⟨g1 _ 4, fun _ => rfl, rfl, fun i y hy => by simp at hy, by omega, by simp⟩, by simp [idsR]⟩
  refine AW_loopGL [1, 2, 4, 7, 18, 19] (fun s : PQ => [(20, .int .i64 s.i)]) (fun s => s.hc) (PQI n gs h) (fun s => n.autos.length - s.i) ⟨0, _, true, [], true, []⟩ ⟨Nat.zero_le _, hP0⟩
    (Weak.sym (x := []) (by simp [NetD.cells, vl, g1, s1]) hH (by simp [vl])) (fun s hs => by have := hs.p.p2.b_lt; simp [NetD.cells]; omega) ?_
  clear hP0 hH
  rintro ⟨i, hc, f1, T1, f2, T2⟩ ⟨hi, hp⟩
  simp only at hi hp
  by_cases hlt : i < n.autos.length
  · obtain ⟨a, haa⟩ : ∃ a, n.autos[i] = a := ⟨_, rfl⟩
    have ham : a ∈ n.autos := haa ▸ List.getElem_mem hlt
    have hlt' : (i : Int) < n.autos.length := by omega
    have w1 : IntKind.i64.wrap ((i : Int) + 1) = i + 1 := wrap_i64 (by omega) (by omega)
    have hof := fun {hx : List B} (hlx : HL hx) (fso : Nat) (so : Int → Bool) (hso : ∀ c, PC fso [.int .u8 c] (.bool (so c))) => c_luOf n hn a ham gs hgl hgs he fso so hso hlx
    have a0 := fun x : List B => ga0 (h := hc) (x := x) rfl
    have k0 := hp.c0
    have hby : (i + 1) * 24 ≤ 140737488355328 := by omega
    have l0 := (List.getElem?_eq_some_iff.1 k0).1
    have l2 := (List.getElem?_eq_some_iff.1 hp.c2).1
    have hb3 := hp.p1.b_lt
    have hb4 := hp.p2.b_lt
    have hxl : HL (hc ++ [B.var a.cells]) := hp.ho.hl.app (by simp [AutoD.cells, vl])
    have hx : (hc ++ [B.var a.cells])[h.length]? = some (B.var n.cells) ∧ (hc ++ [B.var a.cells])[h.length + 2]? = some (B.var [.ref (h.length + 3) i 0 i, .ref (h.length + 4) i 0 i]) ∧ (hc ++ [B.var a.cells])[hc.length]? = some (B.var a.cells) := ⟨by rw [get_app l0]; exact hp.c0, by rw [get_app l2]; exact hp.c2, a0 _⟩
    repeat' (first
 |refine AW_seq_k fun K hK=>?_|refine Step.by1 ?_|refine SBlock_exit_ne (by decide) ?_|refine cz rfl ?_|refine Fork.by2 (fun h=>?_) fun h=>?_
 |(refine AW_region_AO ?_;simp [vl, gsV, hlt, hlt', haa, a0])
 |(refine Split.by2 (fun h=>?_) (fun h=>?_)<;>(simp [h, vl, gsV, hlt, hlt', haa, a0]))
 |(apply hK;clear hK K)|refine AWh (by assumption) ?_)
    refine AW_region_chain 8 9 [0, 1, 2, 3, 4] (fun H => H[h.length]? = some (B.var n.cells) ∧ H[h.length + 2]? = some (B.var [.ref (h.length + 3) i 0 i, .ref (h.length + 4) i 0 i]) ∧ H[hc.length]? = some (B.var a.cells)) mixed (by decide) (by decide) rfl hx ?_
    simp only [List.take_succ_cons, List.take_zero]
    refine PX_op (v := .ptr (h.length + 2) 0) rfl rfl rfl rfl (fun H hs => by simp) ?_
    refine PX_op (v := .ref (h.length + 3) i 0 i) rfl rfl rfl rfl (fun H hs => by simp [hs.2.1]) ?_
    refine PX_op (v := .agg n.cells) rfl rfl rfl rfl (fun H hs => by simp [hs.1, NetD.cells]) ?_
    refine PX_op (v := .agg a.cells) rfl rfl rfl rfl (fun H hs => by simp [hs.2.2, AutoD.cells]) ?_
    refine PX_op rfl rfl rfl rfl (fun H hs => ⟨trivial, rfl⟩) ?_
    refine PX_skip rfl ?_
    refine PX_skip rfl ?_
    refine PX_skip rfl ?_
    refine PX_nil ?_
    refine Ch_1 5 (by decide) (by decide) ?_
    refine ChS_callG (f := 104) rfl rfl rfl rfl (hof hxl 105 lowB c_isBelow) (fun v h1 hq => ?_)
    obtain ⟨b, g, fl, ids, rfl, ho1, hr⟩ := hq
    have hpe := hp.ext ((hp.ho.rfl').app hxl |>.trans ho1)
    have kb := fun x : List B => (get_app (x := x) hpe.p1.b_lt).trans hpe.p1.at0
    have sb := fun (x : List B) (y : B) => set_app (x := x) (y := y) hpe.p1.b_lt
    have kc := fun x : List B => (get_app (x := x) (List.getElem?_eq_some_iff.1 hpe.c2).1).trans hpe.c2
    have ka := ho1.get hx.2.2
    have la := (List.getElem?_eq_some_iff.1 ka).1
    have hg0 := fun x : List B => ga0 (h := h1) (x := x) rfl
    have hml : (T1.map fun y => [V.ref y.1 y.2.1 0 y.2.2.2.length]).length = i := by simp [hp.t1]
    refine ⟨⟨hpe.c0, hpe.c2, ka⟩, ?_⟩
    refine Ch_1 6 (by decide) (by decide) ?_
    refine ChS_op rfl rfl rfl rfl (by simp) rfl ⟨(get_app (List.getElem?_eq_some_iff.1 hpe.c0).1).trans hpe.c0, kc _, (get_app la).trans ka⟩ ?_
    simp
    refine Ch_1 7 (by decide) (by decide) ?_
    have n0 : ∀ {x : List B} {y : B}, (h1.set (h.length + 3) y ++ x)[h.length]? = some (B.var n.cells) := fun {x y} => by rw [get_app (by rw [List.length_set]; exact (List.getElem?_eq_some_iff.1 hpe.c0).1), get_set_ne (by omega)]; exact hpe.c0
    have n2 : ∀ {x : List B} {y : B}, (h1.set (h.length + 3) y ++ x)[h.length + 2]? = some (B.var [.ref (h.length + 3) i 0 i, .ref (h.length + 4) i 0 i]) := fun {x y} => by rw [get_app (by rw [List.length_set]; exact (List.getElem?_eq_some_iff.1 hpe.c2).1), get_set_ne (by omega)]; exact hpe.c2
    have na : ∀ {x : List B} {y : B}, (h1.set (h.length + 3) y ++ x)[hc.length]? = some (B.var a.cells) := fun {x y} => by rw [get_app (by rw [List.length_set]; exact la), get_set_ne (by omega)]; exact ka
    refine ChS_op (v := .ref (h.length + 3) (i + 1) 0 (i + 1)) (h' := h1.set (h.length + 3) (.row 54 (i + 1) 0 false (T1.map (fun y => [V.ref y.1 y.2.1 0 y.2.2.2.length]) ++ [[V.ref b g 0 ids.length]])) ++ [B.row 54 0 0 false [[V.ref b g 0 ids.length]]]) rfl rfl rfl rfl (by simp [kb, hg0, hml, hby, hp.t1]) (by simp [kb, hg0, hml, sb, hp.t1]) ⟨n0, n2, na⟩ ?_
    refine Ch_end (by decide) ?_
    refine AS_of_AO ?_
    simp [n2]
    have hp2 := hp.lo (hp.ho.rfl'.app hxl |>.trans ho1) hr (by simp)
    unfold loH at hp2
    have hAn : ((h1.set (h.length + 3) (.row 54 (i + 1) 0 false (T1.map (fun y => [V.ref y.1 y.2.1 0 y.2.2.2.length]) ++ [[V.ref b g 0 ids.length]])) ++ [B.row 54 0 0 false [[V.ref b g 0 ids.length]]]).set (h.length + 2) (.var [.ref (h.length + 3) (i + 1) 0 (i + 1), .ref (h.length + 4) i 0 i]))[hc.length]? = some (B.var a.cells) := by rw [get_set_ne (by omega)]; exact na
    generalize (h1.set (h.length + 3) (.row 54 (i + 1) 0 false (T1.map (fun y => [V.ref y.1 y.2.1 0 y.2.2.2.length]) ++ [[V.ref b g 0 ids.length]])) ++ [B.row 54 0 0 false [[V.ref b g 0 ids.length]]]).set (h.length + 2) (.var [.ref (h.length + 3) (i + 1) 0 (i + 1), .ref (h.length + 4) i 0 i]) = hd at *
    refine hK _ ?_
    clear hK K ho1 hr hpe kb sb kc ka la hg0 hml n0 n2 na hx hxl k0 l0 l2
    have hyl : HL hd := hp2.ho.hl
    have hy : hd[h.length]? = some (B.var n.cells) ∧ hd[h.length + 2]? = some (B.var [.ref (h.length + 3) (i + 1) 0 (i + 1), .ref (h.length + 4) i 0 i]) ∧ hd[hc.length]? = some (B.var a.cells) := ⟨hp2.c0, hp2.c2, hAn⟩
    repeat' (first
 |refine AW_seq_k fun K hK=>?_|refine Step.by1 ?_|refine SBlock_exit_ne (by decide) ?_|refine cz rfl ?_|refine Fork.by2 (fun h=>?_) fun h=>?_
 |(refine AW_region_AO ?_;simp)
 |(refine Split.by2 (fun h=>?_) (fun h=>?_)<;>(simp [h]))
 |(apply hK;clear hK K)|refine AWh (by assumption) ?_)

    refine AW_region_chain 8 9 [0, 1, 2, 3, 4] (fun H => H[h.length]? = some (B.var n.cells) ∧ H[h.length + 2]? = some (B.var [.ref (h.length + 3) (i + 1) 0 (i + 1), .ref (h.length + 4) i 0 i]) ∧ H[hc.length]? = some (B.var a.cells)) mixed (by decide) (by decide) rfl hy ?_
    simp only [List.take_succ_cons, List.take_zero]
    refine PX_op (v := .ptr (h.length + 2) 1) rfl rfl rfl rfl (fun H hs => by simp) ?_
    refine PX_op (v := .ref (h.length + 4) i 0 i) rfl rfl rfl rfl (fun H hs => by simp [hs.2.1]) ?_
    refine PX_op (v := .agg n.cells) rfl rfl rfl rfl (fun H hs => by simp [hs.1, NetD.cells]) ?_
    refine PX_op (v := .agg a.cells) rfl rfl rfl rfl (fun H hs => by simp [hs.2.2, AutoD.cells]) ?_
    refine PX_op rfl rfl rfl rfl (fun H hs => ⟨trivial, rfl⟩) ?_
    refine PX_skip rfl ?_
    refine PX_skip rfl ?_
    refine PX_skip rfl ?_
    refine PX_nil ?_
    refine Ch_1 5 (by decide) (by decide) ?_
    refine ChS_callG (f := 104) rfl rfl rfl rfl (hof hyl 106 upB c_isAbove) (fun v h2 hq => ?_)
    obtain ⟨b2, g2, fl2, ids2, rfl, ho2, hr2⟩ := hq
    have hp2e := hp2.ext ho2
    have kb := fun x : List B => (get_app (x := x) hp2e.p2.b_lt).trans hp2e.p2.at0
    have sb := fun (x : List B) (y : B) => set_app (x := x) (y := y) hp2e.p2.b_lt
    have kc := fun x : List B => (get_app (x := x) (List.getElem?_eq_some_iff.1 hp2e.c2).1).trans hp2e.c2
    have ka := ho2.get hy.2.2
    have la := (List.getElem?_eq_some_iff.1 ka).1
    have hg0 := fun x : List B => ga0 (h := h2) (x := x) rfl
    have hml : (T2.map fun y => [V.ref y.1 y.2.1 0 y.2.2.2.length]).length = i := by simp [hp2.t2]
    refine ⟨⟨hp2e.c0, hp2e.c2, ka⟩, ?_⟩
    refine Ch_1 6 (by decide) (by decide) ?_
    refine ChS_op rfl rfl rfl rfl (by simp) rfl ⟨(get_app (List.getElem?_eq_some_iff.1 hp2e.c0).1).trans hp2e.c0, kc _, (get_app la).trans ka⟩ ?_
    simp
    refine Ch_1 7 (by decide) (by decide) ?_
    have n0 : ∀ {x : List B} {y : B}, (h2.set (h.length + 4) y ++ x)[h.length]? = some (B.var n.cells) := fun {x y} => by rw [get_app (by rw [List.length_set]; exact (List.getElem?_eq_some_iff.1 hp2e.c0).1), get_set_ne (by omega)]; exact hp2e.c0
    have n2 : ∀ {x : List B} {y : B}, (h2.set (h.length + 4) y ++ x)[h.length + 2]? = some (B.var [.ref (h.length + 3) (i + 1) 0 (i + 1), .ref (h.length + 4) i 0 i]) := fun {x y} => by rw [get_app (by rw [List.length_set]; exact (List.getElem?_eq_some_iff.1 hp2e.c2).1), get_set_ne (by omega)]; exact hp2e.c2
    have na : ∀ {x : List B} {y : B}, (h2.set (h.length + 4) y ++ x)[hc.length]? = some (B.var a.cells) := fun {x y} => by rw [get_app (by rw [List.length_set]; exact la), get_set_ne (by omega)]; exact ka
    refine ChS_op (v := .ref (h.length + 4) (i + 1) 0 (i + 1)) (h' := h2.set (h.length + 4) (.row 54 (i + 1) 0 false (T2.map (fun y => [V.ref y.1 y.2.1 0 y.2.2.2.length]) ++ [[V.ref b2 g2 0 ids2.length]])) ++ [B.row 54 0 0 false [[V.ref b2 g2 0 ids2.length]]]) rfl rfl rfl rfl (by simp [kb, hg0, hml, hby, hp2.t2]) (by simp [kb, hg0, hml, sb, hp2.t2]) ⟨n0, n2, na⟩ ?_
    refine Ch_end (by decide) ?_
    refine AS_of_AO ?_
    simp [n2]
    have hp3 := hp2.up ho2 hr2 (Nat.le_refl _)
    unfold upH at hp3
    have hA3 : ((h2.set (h.length + 4) (.row 54 (i + 1) 0 false (T2.map (fun y => [V.ref y.1 y.2.1 0 y.2.2.2.length]) ++ [[V.ref b2 g2 0 ids2.length]])) ++ [B.row 54 0 0 false [[V.ref b2 g2 0 ids2.length]]]).set (h.length + 2) (.var [.ref (h.length + 3) (i + 1) 0 (i + 1), .ref (h.length + 4) (i + 1) 0 (i + 1)]))[hc.length]? = some (B.var a.cells) := by rw [get_set_ne (by omega)]; exact na
    generalize (h2.set (h.length + 4) (.row 54 (i + 1) 0 false (T2.map (fun y => [V.ref y.1 y.2.1 0 y.2.2.2.length]) ++ [[V.ref b2 g2 0 ids2.length]])) ++ [B.row 54 0 0 false [[V.ref b2 g2 0 ids2.length]]]).set (h.length + 2) (.var [.ref (h.length + 3) (i + 1) 0 (i + 1), .ref (h.length + 4) (i + 1) 0 (i + 1)]) = hf at *
    repeat' (first
 |refine AW_seq_k fun K hK=>?_|refine Step.by1 ?_|refine SBlock_exit_ne (by decide) ?_|refine cz rfl ?_|refine Fork.by2 (fun h=>?_) fun h=>?_
 |(refine AW_region_AO ?_;simp [w1])
 |(refine Split.by2 (fun h=>?_) (fun h=>?_)<;>(simp [h, w1]))
 |(apply hK;clear hK K)|refine AWh (by assumption) ?_)
    have hpa1 := luP_at (so := lowB) (gs := gs) hlt
    have hpa2 := luP_at (so := upB) (gs := gs) hlt
    rw [haa] at hpa1 hpa2
    rw [← hpa1, ← hpa2] at hp3
    exact ⟨⟨i + 1, hf, _, _, _, _⟩, ⟨by show i + 1 ≤ _; omega, hp3⟩, by show _ - (i + 1) < _ - i; omega, Weak.sym (x := []) (by simp) hp3.ho.hl (by have := hp3.p2.b_lt; simp [vl]; omega)⟩
  · obtain rfl : i = n.autos.length := by omega
    have k1 := hp.c1
    have k2 := hp.c2
    have e1 : (luP n lowB gs).take n.autos.length = luP n lowB gs := List.take_of_length_le (by simp [luP])
    have e2 : (luP n upB gs).take n.autos.length = luP n upB gs := List.take_of_length_le (by simp [luP])
    rw [e1, e2] at hp
    repeat' (first
 |refine AW_seq_k fun K hK=>?_|refine Step.by1 ?_|refine SBlock_exit_ne (by decide) ?_|refine cz rfl ?_|refine Fork.by2 (fun h=>?_) fun h=>?_
 |(refine AW_region_AO ?_;simp [vl, k1, k2])
 |(refine Split.by2 (fun h=>?_) (fun h=>?_)<;>(simp [h, vl, k1, k2]))
 |(apply hK;clear hK K)|refine AWh (by assumption) ?_)
    have hb3 := hp.p1.b_lt
    have hb4 := hp.p2.b_lt
    have hlX : HL (hc.set (h.length + 1) (B.var [V.ref (h.length + 3) n.autos.length 0 n.autos.length, V.ref (h.length + 4) n.autos.length 0 n.autos.length])) := hp.ho.hl.set (by simp; omega)
    have eX := get_set_eq (y := B.var [V.ref (h.length + 3) n.autos.length 0 n.autos.length, V.ref (h.length + 4) n.autos.length 0 n.autos.length]) k1
    have hO := hp.ho.set (b := h.length + 1) (by omega) hlX
    exact retg2c (by simp [eX]; exact ⟨rfl, rfl⟩) (by simp) ⟨h.length + 3, n.autos.length, f1, T1, h.length + 4, n.autos.length, f2, T2, by simp [hp.t1, hp.t2], hO, hp.p1.setne k1, hp.p2.setne k1, hp.dj⟩ (by simp; omega) (Go.AM.Leaves.sym hO.len hO.hl)
end Go.Proofs.YtgmlimipejcpgaaGreatDoor
end

section
set_option linter.unusedVariables false
set_option linter.unusedSimpArgs false
namespace Go.Proofs.YtgmlimipejcpgaaGreatDoor
open Go Go.AM Fx
section
variable {a : AutoD} {N : Nat} {b : Nat → Nat → Int}
theorem lu_ex : ∀ (k : Nat) {m : List (List Int)}, nM a b m ≤ k → LS a N b m → ∃ m', IsLu a N b m'
  | k, m, hk, hs => by
    by_cases hc : ∀ e ∈ a.edges, ∀ c, c < N → nclos m e c
    · exact ⟨m, hs, hc⟩
    · simp only [Classical.not_forall] at hc
      obtain ⟨e, he, c, hc, hn⟩ := hc
      unfold nclos at hn
      simp only [Classical.not_forall] at hn
      obtain ⟨u, v, hu, hsb, hv, huv⟩ := hn
      obtain ⟨r, hr, hrv⟩ := nget_some hv
      obtain ⟨j, h1, h2⟩ := hs.snd _ _ _ hu
      have hlt := nM_set (a := a) (b := b) hr (rkR_set (a := a) (b := b) hrv (rk_lt h1.lt h2 (show v < u by omega)))
      have hst := hs.step he hr hu hsb hrv (by omega)
      match k with
      | 0 => omega
      | k + 1 => exact lu_ex k (by omega) hst
theorem luM_is {m : List (List Int)} (hs : LS a N b m) : IsLu a N b (luM a N b) := by
  have h := lu_ex (nM a b m) (Nat.le_refl _) hs
  unfold Go.Proofs.YtgmlimipejcpgaaGreatDoor.luM
  rw [dif_pos h]
  exact h.choose_spec
theorem luM_ok {so : Int → Bool} {gs : List (List PartD)} : IsLu a N (luB a N so gs) (luM a N (luB a N so gs)) := by
  refine luM_is (m := (List.range a.locs.length).map (luBase a N so gs)) (L3.ls ⟨by simp, fun i hi => ?_⟩)
  simp [hi, luBase]
theorem luM_len {so : Int → Bool} {gs : List (List PartD)} : (luM a N (luB a N so gs)).length = a.locs.length := luM_ok.s.len
end
noncomputable def luAtL (n : NetD) (so : Int → Bool) (au lo : Int) (gs : List (List PartD)) : List Int :=
  if lookE n gs ≠ 0 then [] else if badLoc n au lo then [] else (luM (n.autos.getD au.toNat default) n.clocks.length (luB (n.autos.getD au.toNat default) n.clocks.length so gs)).getD lo.toNat []
theorem PCall.nil2 {f : Nat} {args : List V} {v : V} (hc : PCall Tryz.prog GV f args (.tup [.nils, .nils, v])) (hv : v.isOwn = false) : PCall Tryz.prog GV f args (.tup [.own 3 [], .own 3 [], v]) :=
  ⟨hc.1, fun G w cargs ha hg => (hc.2 G w cargs ha hg).mono fun e w' ⟨c, G', h1, h2, arr, h3, h4, h5, h6⟩ => ⟨c, G', h1, h2, arr, h3, h4, fun i u hi => by
    rcases i with _ | _ | i
    · simp at hi; subst hi
      have h7 : R G' w' true .nils (arr.getD 0 undef) := h5 0 .nils (by simp)
      generalize arr.getD 0 undef = x at *
      cases h7
      exact ⟨by simp, .inl ⟨rfl, rfl⟩⟩
    · simp at hi; subst hi
      have h7 : R G' w' true .nils (arr.getD 1 undef) := h5 1 .nils (by simp)
      show RO1 _ _ _ _ _ (arr.getD 1 undef)
      generalize arr.getD 1 undef = x at *
      cases h7
      exact ⟨by simp, .inl ⟨rfl, rfl⟩⟩
    · exact h5 (i + 2) u (by simpa using hi), fun i j u w k hi hj hu hw hk hk' => by
    have h0 : R G' w' true .nils (arr.getD 0 undef) := h5 0 .nils (by simp)
    have h1 : R G' w' true .nils (arr.getD 1 undef) := h5 1 .nils (by simp)
    rcases i with _ | _ | i
    · generalize arr.getD 0 undef = x at *
      cases h0; simp [blkOf] at hk
    · have hk : blkOf (arr.getD 1 undef) = some k := hk
      generalize arr.getD 1 undef = x at *
      cases h1; simp [blkOf] at hk
    · have : u = v := by
        rcases i with _ | i
        · simpa using hi.symm
        · simp at hi
      rw [this, hv] at hu; cases hu⟩⟩
end Go.Proofs.YtgmlimipejcpgaaGreatDoor
end
