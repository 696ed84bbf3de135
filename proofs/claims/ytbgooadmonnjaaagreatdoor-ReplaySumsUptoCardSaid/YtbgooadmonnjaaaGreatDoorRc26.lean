/-
  YtbgooadmonnjaaaGreatDoorRc26: steps of the proof of a law of the program: what these texts prove holds under the hypotheses that their theorems name, and no others.
-/
import Derived.Test.YtbgooadmonnjaaaGreatDoorRc25
import Derived.Test.YtbgooadmonnjaaaGreatDoorRc17
import Derived.Test.YtbgooadmonnjaaaGreatDoorRc19
import Derived.Test.YtbgooadmonnjaaaGreatDoorRc08
section
set_option linter.unusedSimpArgs false
set_option linter.unusedVariables false
namespace Go.Proofs.YtbgooadmonnjaaaGreatDoor
open Go Go.AM Fx
def allK (v : List RatD) (l : List (Int × Int × Int)) (a : Bool) : Bool := a && l.all (keepL v)
theorem allK_nil {v : List RatD} {a : Bool} : allK v [] a = a := by simp [allK]
theorem allK_cons {v : List RatD} {x : Int × Int × Int} {l : List (Int × Int × Int)} {a : Bool} : allK v (x :: l) a = allK v l (a && keepL v x) := by simp [allK, Bool.and_assoc]
def allH (v : List RatD) (l : List GuardD) (a : Bool) : Bool := a && !anyL (notG v) l
theorem allH_nil {v : List RatD} {a : Bool} : allH v [] a = a := by simp [allH, anyL]
theorem allH_cons {v : List RatD} {x : GuardD} {l : List GuardD} {a : Bool} : allH v (x :: l) a = allH v l (a && holdG v x) := by
  unfold allH
  rw [anC]
  unfold notG
  cases a <;> cases holdG v x <;> simp
def allKx (v : List RatD) (l : List (Int × Int × Int)) (c : Bx) : Bool := allK v l c.b
def allHx (v : List RatD) (l : List GuardD) (c : Bx) : Bool := allH v l c.b
/-- What is asked of each bound of a guard. -/
theorem lim_ok {v : List RatD} (hv : ∀ r ∈ v, r.ok) (hp : ptRight v = true) {g : GuardD} (hg : GuardR v.length g) : ∀ x ∈ limG g, 0 ≤ x.1 ∧ x.1 ≤ v.length ∧ 0 ≤ x.2.1 ∧ x.2.1 ≤ v.length ∧ someB x.2.2 = true ∧ (subQ (atQ v x.1) (atQ v x.2.1)).2 = 0 ∧ (subQ (atQ v x.1) (atQ v x.2.1)).1.ok ∧ (atQ v x.1).ok ∧ (atQ v x.2.1).ok := by
  obtain ⟨c1, c2, o, k1, k2, n1, n2⟩ := hg
  obtain ⟨i, hi⟩ : ∃ i : Nat, g.clock - 1 = i := ⟨(g.clock - 1).toNat, by omega⟩
  have hil : i < v.length := by omega
  have e0 : atQ v 0 = ⟨0, 1⟩ := rfl
  have e1 : atQ v g.clock = v[i] := by
    unfold atQ
    rw [if_neg (by omega), hi, Int.toNat_natCast]
    simp [List.getD, List.getElem?_eq_getElem hil]
  obtain ⟨q1, q2⟩ := (ptRight_iff.1 hp).2 v[i] (List.getElem_mem hil)
  have ho := hv v[i] (List.getElem_mem hil)
  have hz : (RatD.mk 0 1).ok := ⟨by show I64 0; unfold I64; omega, by show I64 1; unfold I64; omega⟩
  have hn : (RatD.mk (-v[i].num) v[i].den).ok := by
    obtain ⟨a, b⟩ := ho
    unfold I64 at a b
    exact ⟨by show I64 (-v[i].num); unfold I64; omega, by show I64 v[i].den; unfold I64; omega⟩
  have hi2 : ∀ b, someB b = true → 0 ≤ g.clock ∧ g.clock ≤ v.length ∧ (0 : Int) ≤ 0 ∧ (0 : Int) ≤ v.length ∧ someB b = true ∧ (subQ (atQ v g.clock) (atQ v 0)).2 = 0 ∧ (subQ (atQ v g.clock) (atQ v 0)).1.ok ∧ (atQ v g.clock).ok ∧ (atQ v 0).ok := fun b hb => by
    rw [e0, e1, subQ_zero ho q1]
    exact ⟨by omega, c2, by omega, by omega, hb, rfl, ho, ho, hz⟩
  have lo2 : ∀ b, someB b = true → (0 : Int) ≤ 0 ∧ (0 : Int) ≤ v.length ∧ 0 ≤ g.clock ∧ g.clock ≤ v.length ∧ someB b = true ∧ (subQ (atQ v 0) (atQ v g.clock)).2 = 0 ∧ (subQ (atQ v 0) (atQ v g.clock)).1.ok ∧ (atQ v 0).ok ∧ (atQ v g.clock).ok := fun b hb => by
    rw [e0, e1, subQ_neg ho q1 q2]
    exact ⟨by omega, by omega, by omega, c2, hb, rfl, hn, hz, ho⟩
  intro x hx
  unfold limG at hx
  split at hx
  · rw [List.mem_singleton.1 hx]; exact hi2 _ (some_bound (by dsimp only; omega) (by dsimp only; omega))
  split at hx
  · rw [List.mem_singleton.1 hx]; exact hi2 _ (some_bound (by dsimp only; omega) (by dsimp only; omega))
  split at hx
  · rw [List.mem_singleton.1 hx]; exact lo2 _ (some_bound (by dsimp only; omega) (by dsimp only; omega))
  split at hx
  · rw [List.mem_singleton.1 hx]; exact lo2 _ (some_bound (by dsimp only; omega) (by dsimp only; omega))
  · rcases List.mem_cons.1 hx with rfl | hx
    · exact hi2 _ (some_bound (by dsimp only; omega) (by dsimp only; omega))
    · rw [List.mem_singleton.1 hx]; exact lo2 _ (some_bound (by dsimp only; omega) (by dsimp only; omega))
theorem lim_len {g : GuardD} : (limG g).length ≤ 2 := by
  unfold limG
  split
  · simp
  split
  · simp
  split
  · simp
  split <;> simp
set_option maxHeartbeats 8000000 in
theorem c_ptHolds (v : List RatD) (hv : v.length ≤ 1048576 ∧ ∀ r ∈ v, r.ok) (hp : ptRight v = true) (l : List GuardD) (hll : l.length ≤ 1099511627776) (hg : ∀ g ∈ l, GuardR v.length g) : PC 64 [vl RatD.cells v, vl GuardD.cells l] (.tup [.bool (!anyL (notG v) l), .int .i64 0]) := by
  have h1 := c_ptRight v hv
  rw [hp] at h1
  have h8 := (ptRight_iff.1 hp).1
  have hvl := hv.1
  have hat := fun (i : Int) (h0 : 0 ≤ i) (h2 : i ≤ v.length) => c_at v hv.1 i h0 h2
  obtain ⟨E, hE⟩ : ∃ E, allH v l true = E := ⟨_, rfl⟩
  have e : (!anyL (notG v) l) = E := by rw [← hE]; simp [allH]
  rw [e]
  simp only [vl] at h1 hat ⊢
  refine pB Tryz.func64 rfl (by decide) Tryz.ntmps64 (by simp) Tryz.results64 ?_
  repeat' (first
 |refine aK fun K hK=>?_|refine Step.by1 ?_|refine sE (by decide) ?_|refine cz rfl ?_|refine Fork.by2 (fun h=>?_) fun h=>?_
 |((first|refine aR ?_|refine aC (f:=120) rfl rfl (h1) rfl rfl rfl ?_);simp)
 |(refine Split.by2 (fun h=>?_) (fun h=>?_)<;>(simp [h]))
 |(apply hK;clear hK K)|refine AWh ‹_› ?_)
  refine AW_range l 18 [0, 16, 17] (fun c : Bx => [(6, .bool c.b)]) (fun _ => []) (fun i c => True) (allHx v) ⟨true⟩ (r := E) hE trivial (by apply Weak.mk' <;> simp) (fun _ _ _ => rfl) ?_ ?_
  · rintro i ⟨c⟩ g _ hlt hx _ hF
    have hF : allH v (g :: l.drop (i + 1)) c = E := hF
    have hgR := hg g (hx ▸ List.getElem_mem hlt)
    have hlt' : (i : Int) < l.length := by omega
    have w1 : IntKind.i64.wrap ((i : Int) + 1) = i + 1 := wI (by omega) (by omega)
    have hL := c_Limits v.length (by omega) g hgR
    have hlo := lim_ok hv.2 hp hgR
    have hkg := keep_guard hv.2 hp hgR
    have hl2 := lim_len (g := g)
    rw [allH_cons, ← hkg] at hF
    obtain ⟨c1, c2, o, k1, k2, n1, n2⟩ := hgR
    generalize limG g = M at *
    have g1 : ¬ (v.length : Int) < g.clock := by omega
    have g2 : ¬ (v.length : Int) < 0 := by omega
    have hgc : g.cells = [.int .i64 g.clock, .int .i64 0, .int .u8 g.cmp, .int .i64 g.n] := by rw [GuardD.cells, o]
    simp only [hgc] at hL
    obtain ⟨E2, hE2⟩ : ∃ E2, allK v M c = E2 := ⟨_, rfl⟩
    have hF2 : allH v (l.drop (i + 1)) E2 = E := by rw [← hE2]; exact hF
    clear hF
    repeat' (first
 |refine aK fun K hK=>?_|refine Step.by1 ?_|refine sE (by decide) ?_|refine cz rfl ?_|refine Fork.by2 (fun h=>?_) fun h=>?_
 |((first|refine aR ?_|refine aC (f:=134) rfl rfl (hL) rfl rfl rfl ?_);simp [hlt, hlt', hx, hgc, g1, g2])
 |(refine Split.by2 (fun h=>?_) (fun h=>?_)<;>(simp [h, hlt, hlt', hx, hgc, g1, g2]))
 |(apply hK;clear hK K)|refine AWh ‹_› ?_)
    refine AW_range M 44 [0, 16, 17, 18, 42, 43] (fun c : Bx => [(6, .bool c.b)]) (fun _ => [.var [.int .i64 g.clock, .int .i64 0, .int .u8 g.cmp, .int .i64 g.n]]) (fun i c => True) (allKx v) ⟨c⟩ (r := E2) hE2 trivial (by apply Weak.mk' <;> simp) (fun _ _ _ => rfl) ?_ ?_
    · rintro k ⟨b⟩ ⟨xi, xj, xb⟩ _ hkt hxx _ hG
      have hG : allK v ((xi, xj, xb) :: M.drop (k + 1)) b = E2 := hG
      have hM := hlo _ (hxx ▸ List.getElem_mem hkt)
      simp only at hM
      obtain ⟨m1, m2, m3, m4, m5, m6, m7, m8, m9⟩ := hM
      have a1 := hat xi m1 m2
      have a2 := hat xj m3 m4
      have ek : keepL v (xi, xj, xb) = keepQ (atQ v xi) (atQ v xj) xb := rfl
      have a3 := c_keeps (atQ v xi) (atQ v xj) m8 m9 xb m5 m6 m7
      rw [allK_cons, ek] at hG
      generalize keepQ (atQ v xi) (atQ v xj) xb = r at *
      generalize atQ v xi = p at *
      generalize atQ v xj = q at *
      have hkt' : (k : Int) < M.length := by omega
      have w2 : IntKind.i64.wrap ((k : Int) + 1) = k + 1 := wI (by omega) (by omega)
      simp only [RatD.cells] at a1 a2 a3
      have hxx' : M[k] = (xi, xj, xb) := hxx
      cases b
      · repeat' (first
 |refine aK fun K hK=>?_|refine Step.by1 ?_|refine sE (by decide) ?_|refine cz rfl ?_|refine Fork.by2 (fun h=>?_) fun h=>?_
 |((first|refine aR ?_|refine aX (id:=15) 13 mixed (by decide) ?_|refine aP1 (f:=136) rfl rfl (a1) rfl rfl rfl ?_|refine aP1 (f:=136) rfl rfl (a2) rfl rfl rfl ?_|refine aP1 (f:=135) rfl rfl (a3) rfl rfl rfl ?_);simp [hkt, hkt', hxx', limV, w2])
 |(refine Split.by2 (fun h=>?_) (fun h=>?_)<;>(simp [h, hkt, hkt', hxx', limV, w2]))
 |(apply hK;clear hK K)|refine AWh ‹_› ?_)
        refine ⟨⟨false⟩, by simpa [allKx] using hG, ?_⟩
        apply Weak.mk' <;> simp
      · repeat' (first
 |refine aK fun K hK=>?_|refine Step.by1 ?_|refine sE (by decide) ?_|refine cz rfl ?_|refine Fork.by2 (fun h=>?_) fun h=>?_
 |((first|refine aR ?_|refine aX (id:=15) 13 mixed (by decide) ?_|refine aP1 (f:=136) rfl rfl (a1) rfl rfl rfl ?_|refine aP1 (f:=136) rfl rfl (a2) rfl rfl rfl ?_|refine aP1 (f:=135) rfl rfl (a3) rfl rfl rfl ?_);simp [hkt, hkt', hxx', limV, w2])
 |(refine Split.by2 (fun h=>?_) (fun h=>?_)<;>(simp [h, hkt, hkt', hxx', limV, w2]))
 |(apply hK;clear hK K)|refine AWh ‹_› ?_)
        refine ⟨⟨r⟩, by simpa [allKx] using hG, ?_⟩
        apply Weak.mk' <;> simp
    · rintro ⟨b⟩ _ hG
      have hG : allK v [] b = E2 := hG
      rw [allK_nil] at hG
      subst hG
      repeat' (first
 |refine aK fun K hK=>?_|refine Step.by1 ?_|refine sE (by decide) ?_|refine cz rfl ?_|refine Fork.by2 (fun h=>?_) fun h=>?_
 |(refine aR ?_;simp [w1])
 |(refine Split.by2 (fun h=>?_) (fun h=>?_)<;>(simp [h, w1]))
 |(apply hK;clear hK K)|refine AWh ‹_› ?_)
      refine ⟨⟨b⟩, hF2, ?_⟩
      apply Weak.mk' <;> simp
  · rintro ⟨c⟩ _ hF
    have hF : allH v [] c = E := hF
    rw [allH_nil] at hF
    subst hF
    repeat' (first
 |refine aK fun K hK=>?_|refine Step.by1 ?_|refine sE (by decide) ?_|refine cz rfl ?_|refine Fork.by2 (fun h=>?_) fun h=>?_
 |(refine aR ?_;simp)
 |(refine Split.by2 (fun h=>?_) (fun h=>?_)<;>(simp [h]))
 |(apply hK;clear hK K)|refine AWh ‹_› ?_)
    exact retq2 (cE rfl rfl)
end Go.Proofs.YtbgooadmonnjaaaGreatDoor
end
section
set_option linter.unusedSimpArgs false
set_option linter.unusedVariables false
namespace Go.AM
end Go.AM
namespace Go.AM
end Go.AM
end
section
set_option linter.unusedVariables false
set_option linter.unusedSimpArgs false
namespace Go.AM
theorem PCall.dnt {P : Program} {ge : GEnv} {f : Nat} {args vs ws : List V} (hc : PCall P ge f args (.tup vs)) (h1 : ∀ v ∈ vs, v.isOwn = false) (he : V.dns vs = ws) (h2 : ∀ v ∈ ws, v.isOwn = false) : PCall P ge f args (.tup ws) := by
  subst he
  refine ⟨hc.1, fun G w cargs ha hg => (hc.2 G w cargs ha hg).mono fun e w' ⟨c, G', k1, k2, k3⟩ => ⟨c, G', k1, k2, ?_⟩⟩
  obtain ⟨arr, rfl, hs, hr, hd⟩ := k3
  refine ⟨arr, rfl, by rw [dns_eq, List.length_map]; exact hs, fun i v hv => ?_, fun i j u v k hu hv ou ov b1 b2 => ?_⟩
  · rw [dns_eq, List.getElem?_map] at hv
    obtain ⟨u, h5, rfl⟩ := Option.map_eq_some_iff.1 hv
    have h6 := RO1_not (h1 u (List.mem_of_getElem? h5)) (hr i u h5)
    have h7 := h2 u.dn (by rw [dns_eq]; exact List.mem_map.2 ⟨u, List.mem_of_getElem? h5, rfl⟩)
    have h8 := h6.dn
    generalize u.dn = z at *
    cases z <;> first | exact h8 | cases h7
  · rw [h2 u (List.mem_of_getElem? hu)] at ou; cases ou
section
variable {P : Program} {ge : GEnv} {st : St} {Q : Exit → St → Prop} {G : Gh} {w : World}
variable {d : Option Tmp} {t : TypeId} {p : String} {af : Array Edge}
/-- A value, or a struct of values, as a reader sees it. -/
def seenW (h : List B) : V → V
  | .agg cs => .agg (cs.map (seenV h))
  | v => seenV h v
theorem seenW_spec {h : List B} (rh : RH P ge G h w) {u : V} {c : Value} (hu : R G w false u c) (hf : (seenW h u).isF = true) : R (G.all w) w true (seenW h u) c := by
  cases u
  case agg cs =>
    cases hu with
    | agg hs ho hr =>
      simp only [seenW, V.isF] at hf
      have hall := V.isFs_get hf
      refine .agg (by rw [List.length_map]; exact hs) (fun i v hv => ?_) (fun i v hv => ?_)
      · rw [List.getElem?_map] at hv
        obtain ⟨x, hx, rfl⟩ := Option.map_eq_some_iff.1 hv
        exact ho i x hx
      · have hvf := hall i v hv
        rw [List.getElem?_map] at hv
        obtain ⟨x, hx, rfl⟩ := Option.map_eq_some_iff.1 hv
        exact seen_spec rh (hr i x hx) hvf
  all_goals exact seen_spec rh hu hf
theorem GCall_seenW {f : Nat} {args args' : List V} {r : V} {h : List B} (hc : PCall P ge f args' r) (hs : args.map (seenW h) = args') (hf : V.isFs args' = true) (hp : r.scal = true) :
    GCall P ge f args h fun v h' => v = r ∧ h' = h := by
  refine ⟨hc.1, fun G w cargs ha hr => ?_⟩
  have ha' : ArgsR (G.all w) w true args' cargs := by
    subst hs
    refine ⟨by rw [ha.1, List.length_map], fun i v hv => ?_⟩
    have hvf := V.isFs_get hf i v hv
    rw [List.getElem?_map] at hv
    obtain ⟨u, hu, rfl⟩ := Option.map_eq_some_iff.1 hv
    exact seenW_spec hr (ha.2 i u hu) hvf
  have hge : GE ge (G.all w) w := ⟨fun k hk => by
    show max (G.fz k) (cellsAt w k) = 0
    have : cellsAt w k = 0 := by unfold cellsAt; rw [Array.getElem?_eq_none hk]
    rw [this, hr.fzlt k hk]; rfl, fun g cs hg => (hr.ge g cs hg).monoT all_fz (fun _ _ _ => rfl) rfl⟩
  refine (hc.2 (G.all w) w cargs ha' hge).mono ?_
  rintro e w' ⟨c, G', rfl, kept, ro⟩
  have k0 : Kept G w G w' := ⟨kept.grow, fun _ _ => rfl, fun k hk => hr.fzlt k (Nat.le_trans kept.grow.size hk)⟩
  obtain ⟨h1, h2⟩ := k0.rh hr
  have hpl : r.plain = true := by cases r <;> first | rfl | cases hp
  exact ⟨c, _, r, h, rfl, ⟨rfl, rfl⟩, h1, scal_R hp (ro.plain hpl), h2⟩
/-- Results that are one's own, read as frozen ones. -/
def V.unown : V → V
  | .own T xs => .vec xs xs.length
  | v => v
theorem unown_not {v : V} : v.unown.isOwn = false := by cases v <;> rfl
theorem RO1_unown {base : Nat} {v : V} {c : Value} (h : RO1 P G w base v c) {fz2 : Nat → Nat} (hle : ∀ j, G.fz j ≤ fz2 j) (hb : ∀ j, base ≤ j → cellsAt w j ≤ fz2 j) : R (G.withFz fz2) w true v.unown c := by
  by_cases hv : v.isOwn = true
  · obtain ⟨T, xs, rfl⟩ := isOwn_iff hv
    obtain ⟨h0, ⟨rfl, rfl⟩ | ⟨k, cap, arr, rfl, hbk, hh, hfz, hs, hl, hcm, hlen, hc⟩⟩ := h
    · exact .emp (Nat.zero_le _)
    · have hlt : ∀ (i : Nat) (x : List V) (j : Nat) (v : V), xs[i]? = some x → x[j]? = some v → i * szOf P T + j < arr.size := fun i x j v hx hv => by
        have h1 := hlen i x hx
        have h2 : i < xs.length := (List.getElem?_eq_some_iff.1 hx).1
        have h3 : j < x.length := (List.getElem?_eq_some_iff.1 hv).1
        have h4 : (i + 1) * szOf P T ≤ cap * szOf P T := Nat.mul_le_mul_right _ (by omega)
        rw [hs]; rw [Nat.add_mul] at h4; omega
      have hcd : ∀ (o : Nat), o < arr.size → w.cell? ⟨k, o, none⟩ = some (arr.getD o undef) := fun o ho => arr_cell hh ho
      have hd : ∀ (o : Nat), o < arr.size → cellD w k o = arr.getD o undef := fun o ho => by unfold cellD; rw [hcd o ho]; rfl
      have hk : arr.size ≤ fz2 k := by
        have h5 := hb k hbk
        unfold cellsAt at h5
        rw [hh] at h5
        exact h5
      refine R.vec (sz := szOf P T) (Nat.le_refl _) hl hcm hlen (fun i x j v hx hv => ?_) (fun i x j v hx hv => ?_) (fun i x j v hx hv => ?_)
      · have := hlt i x j v hx hv
        rw [Nat.zero_add]
        exact ⟨by rw [hcd _ this]; rfl, Nat.lt_of_lt_of_le this hk⟩
      · rw [Nat.zero_add, hd _ (hlt i x j v hx hv)]; exact (hc i x j v hx hv).1
      · rw [Nat.zero_add, hd _ (hlt i x j v hx hv)]; exact ((hc i x j v hx hv).2).fz hle
  · have e : v.unown = v := by cases v <;> first | rfl | exact absurd rfl hv
    rw [e]
    exact (RO1_not (by simpa using hv) h).fz hle
theorem PCall.freezeT {f : Nat} {args vs : List V} (hc : PCall P ge f args (.tup vs)) : PCall P ge f args (.tup (vs.map V.unown)) := by
  refine ⟨hc.1, fun G w cargs ha hg => (hc.2 G w cargs ha hg).mono ?_⟩
  rintro e w' ⟨c, G', rfl, kept, arr, rfl, hs, hr, hd⟩
  refine ⟨_, G'.withFz fun j => if j < w.heap.size then G'.fz j else max (G'.fz j) (cellsAt w' j), rfl, ⟨kept.grow, fun j hj => ?_, fun j hj => ?_⟩, ?_⟩
  · show (if j < w.heap.size then G'.fz j else _) = G.fz j
    rw [if_pos hj]; exact kept.fz j hj
  · show (if j < w.heap.size then G'.fz j else max (G'.fz j) (cellsAt w' j)) = 0
    have h1 := kept.grow.size
    rw [if_neg (by omega), kept.fzlt j hj]
    unfold cellsAt
    rw [Array.getElem?_eq_none hj]
    rfl
  · refine ⟨arr, rfl, by rw [List.length_map]; exact hs, fun i v hv => ?_, fun i j u v k hu hv ou ov b1 b2 => ?_⟩
    · rw [List.getElem?_map] at hv
      obtain ⟨u, hu, rfl⟩ := Option.map_eq_some_iff.1 hv
      have := RO1_unown (hr i u hu) (fz2 := fun j => if j < w.heap.size then G'.fz j else max (G'.fz j) (cellsAt w' j)) (fun j => by
        show G'.fz j ≤ if j < w.heap.size then G'.fz j else _
        split
        · exact Nat.le_refl _
        · exact Nat.le_max_left _ _) (fun j hj => by
        show cellsAt w' j ≤ if j < w.heap.size then G'.fz j else _
        rw [if_neg (by omega)]
        exact Nat.le_max_right _ _)
      have h7 : u.unown.isOwn = false := unown_not
      generalize u.unown = z at *
      cases z <;> first | exact this | cases h7
    · rw [List.getElem?_map] at hu
      obtain ⟨x, _, rfl⟩ := Option.map_eq_some_iff.1 hu
      rw [unown_not] at ou; cases ou
/-- A call on what is seen, whose results are scalars, several of them. -/
def V.scalT : V → Bool
  | .tup vs => vs.all V.scal
  | v => v.scal
theorem scalT_R {r : V} {c : Value} (h : r.scalT = true) {G G' : Gh} {w w' : World} {fr fr' : Bool} (hr : R G w fr r c) : R G' w' fr' r c := by
  cases r
  case tup vs =>
    cases hr with
    | tup hs hr =>
      refine .tup hs fun i v hv => ?_
      simp only [V.scalT, List.all_eq_true] at h
      exact scal_R (h v (List.mem_of_getElem? hv)) (hr i v hv)
  all_goals exact scal_R (by simpa [V.scalT] using h) hr
theorem scalT_plain {r : V} (h : r.scalT = true) : r.plain = true := by
  cases r
  case tup vs =>
    simp only [V.scalT, List.all_eq_true] at h
    simp only [V.plain, List.all_eq_true, Bool.not_eq_true']
    intro v hv
    have := h v hv
    cases v <;> first | rfl | cases this
  all_goals first | rfl | cases h
theorem GCall_seenT {f : Nat} {args args' : List V} {r : V} {h : List B} (hc : PCall P ge f args' r) (hs : args.map (seenW h) = args') (hf : V.isFs args' = true) (hp : r.scalT = true) :
    GCall P ge f args h fun v h' => v = r ∧ h' = h := by
  refine ⟨hc.1, fun G w cargs ha hr => ?_⟩
  have ha' : ArgsR (G.all w) w true args' cargs := by
    subst hs
    refine ⟨by rw [ha.1, List.length_map], fun i v hv => ?_⟩
    have hvf := V.isFs_get hf i v hv
    rw [List.getElem?_map] at hv
    obtain ⟨u, hu, rfl⟩ := Option.map_eq_some_iff.1 hv
    exact seenW_spec hr (ha.2 i u hu) hvf
  have hge : GE ge (G.all w) w := ⟨fun k hk => by
    show max (G.fz k) (cellsAt w k) = 0
    have : cellsAt w k = 0 := by unfold cellsAt; rw [Array.getElem?_eq_none hk]
    rw [this, hr.fzlt k hk]; rfl, fun g cs hg => (hr.ge g cs hg).monoT all_fz (fun _ _ _ => rfl) rfl⟩
  refine (hc.2 (G.all w) w cargs ha' hge).mono ?_
  rintro e w' ⟨c, G', rfl, kept, ro⟩
  have k0 : Kept G w G w' := ⟨kept.grow, fun _ _ => rfl, fun k hk => hr.fzlt k (Nat.le_trans kept.grow.size hk)⟩
  obtain ⟨h1, h2⟩ := k0.rh hr
  exact ⟨c, _, r, h, rfl, ⟨rfl, rfl⟩, h1, scalT_R hp (ro.plain (scalT_plain hp)), h2⟩
/-- A row of one's own, and a frozen value. -/
theorem conv_own2 {h : List B} {b g len : Nat} {T : TypeId} {xs : List (List V)} {v : V} (hb : h[b]? = some (.row T g 0 true xs)) (hl : len = xs.length) (hv : v.isF = true) (hr : v.refBlk = none) : Conv h (.tup [.ref b g 0 len, v]) (.tup [.own T xs, v]) := by
  subst hl
  refine .inr (.inr ⟨_, _, rfl, rfl, rfl, fun i u s hu hs => ?_, fun i j u u' k hu hu' hk hk' => ?_⟩)
  · match i with
    | 0 => simp at hu hs; subst hu; subst hs; exact .inr ⟨b, g, T, xs, rfl, hb, rfl⟩
    | 1 => simp at hu hs; subst hu; subst hs; exact .inl ⟨hv, rfl⟩
    | i + 2 => simp at hu
  · match i, j with
    | 0, 0 => rfl
    | 1, 1 => rfl
    | 1, 0 => simp at hu; subst hu; rw [hr] at hk; cases hk
    | 0, 1 => simp at hu'; subst hu'; rw [hr] at hk'; cases hk'
    | 1, j + 2 => simp at hu'
    | 0, j + 2 => simp at hu'
    | i + 2, _ => simp at hu
end
end Go.AM
end
section
set_option linter.unusedSimpArgs false
set_option linter.unusedVariables false
namespace Go.Proofs.YtbgooadmonnjaaaGreatDoor
open Go Go.AM Fx
theorem leaves_same {h : List B} : Go.AM.Leaves h h h := ⟨Nat.le_refl _, Nat.le_refl _, fun b y hy => .inr ⟨hy, .inl hy⟩⟩
theorem leaves_push {h x : List B} (hl : HL (h ++ x)) : Go.AM.Leaves h (h ++ x) (h ++ x) := Go.AM.Leaves.sym (by simp) hl
theorem HL.app {h x : List B} (hl : HL h) (hx : ∀ y ∈ x, y.lt (h.length + x.length)) : HL (h ++ x) := fun z hz => by
  rw [List.length_append]
  rcases List.mem_append.1 hz with hz | hz
  · exact B.lt_mono (by omega) (hl z hz)
  · exact hx z hz
theorem g_right (h : List B) (hH : HL h) (n : NetD) : GCall Tryz.prog GV 46 [.agg n.cells] h (fun v h' => v = .fn (.func 117) [] [.ptr h.length 0] ∧ h' = h ++ [.var n.cells]) := by
  have hcells : n.cells = [.vec (n.clocks.map fun x => [.str x]) n.clocks.length, .vec (n.vars.map VarD.cells) n.vars.length, .vec (n.chans.map fun x => [.str x]) n.chans.length, .vec (n.autos.map AutoD.cells) n.autos.length] := rfl
  rw [hcells]
  refine gB1 Tryz.func46 rfl (by decide) Tryz.ntmps46 (by simp) Tryz.results46 ?_
  repeat' (first
 |refine aK fun K hK=>?_|refine Step.by1 ?_|refine sE (by decide) ?_|refine cz rfl ?_|refine Fork.by2 (fun h=>?_) fun h=>?_
 |(refine aR ?_;simp)
 |(refine Split.by2 (fun h=>?_) (fun h=>?_)<;>(simp [h]))
 |(apply hK;clear hK K)|refine AWh ‹_› ?_)
  refine retg1 ⟨rfl, rfl⟩ (by simp) (leaves_push (hH.app ?_))
  intro y hy
  simp at hy
  subst hy
  simp
theorem g_right1 (h : List B) (n : NetD) (hn : n.ok) (b : Nat) (hb : h[b]? = some (.var n.cells)) : GCall Tryz.prog GV 117 [.ptr b 0] h (fun v h' => v = .int .i64 (netE n) ∧ h' = h) := by
  have h1 := c_Net n hn
  have hcells : n.cells = [.vec (n.clocks.map fun x => [.str x]) n.clocks.length, .vec (n.vars.map VarD.cells) n.vars.length, .vec (n.chans.map fun x => [.str x]) n.chans.length, .vec (n.autos.map AutoD.cells) n.autos.length] := rfl
  rw [hcells] at hb h1
  refine gB1 Tryz.func117 rfl (by decide) Tryz.ntmps117 (by simp) Tryz.results117 ?_
  repeat' (first
 |refine aK fun K hK=>?_|refine Step.by1 ?_|refine sE (by decide) ?_|refine cz rfl ?_|refine Fork.by2 (fun h=>?_) fun h=>?_
 |((first|refine aR ?_|refine aC (f:=112) rfl rfl (h1) rfl rfl rfl ?_);simp [hb])
 |(refine Split.by2 (fun h=>?_) (fun h=>?_)<;>(simp [h, hb]))
 |(apply hK;clear hK K)|refine AWh ‹_› ?_)
  exact retg1 ⟨rfl, rfl⟩ rfl leaves_same
theorem g_otherwise (h : List B) (hH : HL h) (e : Int) (k : Nat) (C : List V) (hf : V.lts h.length C = true) : GCall Tryz.prog GV 53 [.int .i64 e, .fn (.func k) [] C] h (fun v h' => v = .fn (.func 124) [] [.ptr (h.length + 1) 0, .ptr h.length 0] ∧ h' = h ++ [.var [.int .i64 e], .var [.fn (.func k) [] C]]) := by
  have hf2 := V.lts_mono (m := h.length + 2) (by omega) hf
  have hH2 : HL (h ++ [.var [.int .i64 e], .var [.fn (.func k) [] C]]) := hH.app (by
    intro y hy
    simp at hy
    rcases hy with rfl | rfl
    · simp
    · simp [hf2])
  refine gB1 Tryz.func53 rfl (by decide) Tryz.ntmps53 (by simp) Tryz.results53 ?_
  repeat' (first
 |refine aK fun K hK=>?_|refine Step.by1 ?_|refine sE (by decide) ?_|refine cz rfl ?_|refine Fork.by2 (fun h=>?_) fun h=>?_
 |(refine aR ?_;simp [hf])
 |(refine Split.by2 (fun h=>?_) (fun h=>?_)<;>(simp [h, hf]))
 |(apply hK;clear hK K)|refine AWh ‹_› ?_)
  exact retg1 (h' := h ++ [.var [.int .i64 e], .var [.fn (.func k) [] C]]) ⟨by simp, by simp⟩ (by simp) (Go.AM.Leaves.sym (by simp) hH2)
theorem g_other1 (h : List B) (i j k : Nat) (C : List V) (e : Int) (b : Bool) (hi : h[i]? = some (.var [.fn (.func k) [] C])) (hj : h[j]? = some (.var [.int .i64 e])) (hc : GCall Tryz.prog GV k C h (fun v h' => v = .bool b ∧ h' = h)) :
    GCall Tryz.prog GV 124 [.ptr i 0, .ptr j 0] h (fun v h' => v = .int .i64 (if b = true then 0 else e) ∧ h' = h) := by
  refine gB1 Tryz.func124 rfl (by decide) Tryz.ntmps124 (by simp) Tryz.results124 ?_
  cases b
  all_goals
    repeat' (first
 |refine aK fun K hK=>?_|refine Step.by1 ?_|refine sE (by decide) ?_|refine cz rfl ?_|refine Fork.by2 (fun h=>?_) fun h=>?_
 |(refine aR ?_;simp [hi, hj])
 |(refine Split.by2 (fun h=>?_) (fun h=>?_)<;>(simp [h, hi, hj]))
 |(refine aG (f := k) rfl rfl hc rfl (fun v h' hq => ?_); obtain ⟨rfl, rfl⟩ := hq; simp [hi, hj])
 |(apply hK;clear hK K)|refine AWh ‹_› ?_)
    exact retg1 ⟨rfl, rfl⟩ rfl leaves_same
theorem g_conf (h : List B) (hH : HL h) (n : NetD) (c : CfgD) : GCall Tryz.prog GV 47 [.agg n.cells, .agg c.cells] h (fun v h' => v = .fn (.func 124) [] [.ptr (h.length + 3) 0, .ptr (h.length + 2) 0] ∧ h' = h ++ [.var n.cells, .var c.cells, .var [.int .i64 130], .var [.fn (.func 118) [] [.ptr h.length 0, .ptr (h.length + 1) 0]]]) := by
  have hcells : n.cells = [.vec (n.clocks.map fun x => [.str x]) n.clocks.length, .vec (n.vars.map VarD.cells) n.vars.length, .vec (n.chans.map fun x => [.str x]) n.chans.length, .vec (n.autos.map AutoD.cells) n.autos.length] := rfl
  have ccells : c.cells = [.vec (ivs c.st.locs) c.st.locs.length, .vec (ivs c.st.vars) c.st.vars.length, .vec (c.clocks.map RatD.cells) c.clocks.length] := rfl
  have hH2 : HL (h ++ [.var n.cells, .var c.cells]) := hH.app (by
    intro y hy
    simp at hy
    rcases hy with rfl | rfl <;> simp [hcells, ccells])
  have ho := g_otherwise (h ++ [.var n.cells, .var c.cells]) hH2 130 118 [.ptr h.length 0, .ptr (h.length + 1) 0] (by simp)
  have hH3 : HL (h ++ [.var n.cells, .var c.cells] ++ [.var [.int .i64 130], .var [.fn (.func 118) [] [.ptr h.length 0, .ptr (h.length + 1) 0]]]) := hH2.app (by
    intro y hy
    simp at hy
    rcases hy with rfl | rfl <;> simp <;> omega)
  simp only [List.append_assoc, List.cons_append, List.nil_append, List.length_append, List.length_cons, List.length_nil, hcells, ccells] at ho hH3 ⊢
  refine gB1 Tryz.func47 rfl (by decide) Tryz.ntmps47 (by simp) Tryz.results47 ?_
  repeat' (first
 |refine aK fun K hK=>?_|refine Step.by1 ?_|refine sE (by decide) ?_|refine cz rfl ?_|refine Fork.by2 (fun h=>?_) fun h=>?_
 |(refine aR ?_;simp)
 |(refine Split.by2 (fun h=>?_) (fun h=>?_)<;>(simp [h]))
 |(refine aG (f := 53) rfl rfl (ho.imp (by simp) (by simp)) rfl (fun v h' hq => ?_); obtain ⟨rfl, rfl⟩ := hq; simp)
 |(apply hK;clear hK K)|refine AWh ‹_› ?_)
  exact retg1 (h' := h ++ [.var [.vec (n.clocks.map fun x => [.str x]) n.clocks.length, .vec (n.vars.map VarD.cells) n.vars.length, .vec (n.chans.map fun x => [.str x]) n.chans.length, .vec (n.autos.map AutoD.cells) n.autos.length], .var [.vec (ivs c.st.locs) c.st.locs.length, .vec (ivs c.st.vars) c.st.vars.length, .vec (c.clocks.map RatD.cells) c.clocks.length], .var [.int .i64 130], .var [.fn (.func 118) [] [.ptr h.length 0, .ptr (h.length + 1) 0]]]) ⟨by simp, by simp⟩ (by simp) (Go.AM.Leaves.sym (by simp) hH3)
theorem g_conf1 (h : List B) (n : NetD) (hn : n.ok) (c : CfgD) (hc : c.ok) (i j : Nat) (hi : h[i]? = some (.var n.cells)) (hj : h[j]? = some (.var c.cells)) : GCall Tryz.prog GV 118 [.ptr i 0, .ptr j 0] h (fun v h' => v = .bool (confB n c) ∧ h' = h) := by
  have h1 := c_stRight n hn c.st
  have h2 := c_ptRight c.clocks hc.2
  have hcells : n.cells = [.vec (n.clocks.map fun x => [.str x]) n.clocks.length, .vec (n.vars.map VarD.cells) n.vars.length, .vec (n.chans.map fun x => [.str x]) n.chans.length, .vec (n.autos.map AutoD.cells) n.autos.length] := rfl
  have ccells : c.cells = [.vec (ivs c.st.locs) c.st.locs.length, .vec (ivs c.st.vars) c.st.vars.length, .vec (c.clocks.map RatD.cells) c.clocks.length] := rfl
  have scells : c.st.cells = [.vec (ivs c.st.locs) c.st.locs.length, .vec (ivs c.st.vars) c.st.vars.length] := rfl
  rw [hcells] at hi h1
  rw [ccells] at hj
  rw [scells] at h1
  simp only [vl] at h2
  have e : confB n c = (rightSE n c.st && (decide (c.clocks.length = n.clocks.length) && ptRight c.clocks)) := rfl
  rw [e]
  generalize rightSE n c.st = x at *
  generalize ptRight c.clocks = y at *
  refine gB1 Tryz.func118 rfl (by decide) Tryz.ntmps118 (by simp) Tryz.results118 ?_
  cases x
  · repeat' (first
 |refine aK fun K hK=>?_|refine Step.by1 ?_|refine sE (by decide) ?_|refine cz rfl ?_|refine Fork.by2 (fun h=>?_) fun h=>?_
 |((first|refine aR ?_|refine aC (f:=119) rfl rfl (h1) rfl rfl rfl ?_|refine aC (f:=120) rfl rfl (h2) rfl rfl rfl ?_);simp [hi, hj])
 |(refine Split.by2 (fun h=>?_) (fun h=>?_)<;>(simp [h, hi, hj]))
 |(apply hK;clear hK K)|refine AWh ‹_› ?_)
    exact retg1 (h' := h) ⟨by simp, rfl⟩ rfl leaves_same
  · by_cases hl : c.clocks.length = n.clocks.length
    · have hl' : (c.clocks.length : Int) = n.clocks.length := by omega
      repeat' (first
 |refine aK fun K hK=>?_|refine Step.by1 ?_|refine sE (by decide) ?_|refine cz rfl ?_|refine Fork.by2 (fun h=>?_) fun h=>?_
 |((first|refine aR ?_|refine aC (f:=119) rfl rfl (h1) rfl rfl rfl ?_|refine aC (f:=120) rfl rfl (h2) rfl rfl rfl ?_);simp [hi, hj, hl'])
 |(refine Split.by2 (fun h=>?_) (fun h=>?_)<;>(simp [h, hi, hj, hl']))
 |(apply hK;clear hK K)|refine AWh ‹_› ?_)
      exact retg1 (h' := h) ⟨by simp [hl], rfl⟩ rfl leaves_same
    · have hl' : ¬ (c.clocks.length : Int) = n.clocks.length := by omega
      repeat' (first
 |refine aK fun K hK=>?_|refine Step.by1 ?_|refine sE (by decide) ?_|refine cz rfl ?_|refine Fork.by2 (fun h=>?_) fun h=>?_
 |((first|refine aR ?_|refine aC (f:=119) rfl rfl (h1) rfl rfl rfl ?_|refine aC (f:=120) rfl rfl (h2) rfl rfl rfl ?_);simp [hi, hj, hl, hl'])
 |(refine Split.by2 (fun h=>?_) (fun h=>?_)<;>(simp [h, hi, hj, hl, hl']))
 |(apply hK;clear hK K)|refine AWh ‹_› ?_)
      exact retg1 (h' := h) ⟨by simp [hl], rfl⟩ rfl leaves_same
/-- Do the invariants of a configuration hold? -/
theorem c_kept (n : NetD) (hn : n.ok) (h0 : netE n = 0) (c : CfgD) (hc : c.ok) (hf : confB n c = true) : PC 60 [.agg n.cells, .agg c.cells] (.bool (keptB n c)) := by
  obtain ⟨c1, c2, c3⟩ := conf_iff.1 hf
  have hb : badE n c.st = 0 := by
    obtain ⟨a, b, d⟩ := right_split c1
    unfold locsOk at b; unfold valsOk at d
    simp [badE, a, stB, b, d]
  have h1 := c_InvX n hn c.st hb
  have hll : (invL n c.st).length ≤ 1099511627776 := by
    have h1 : (invL n c.st).length ≤ (n.autos.zip c.st.locs).length * 1048576 := by
      have : ∀ (l : List (AutoD × Int)), (∀ p ∈ l, (invF p).length ≤ 1048576) → (l.flatMap invF).length ≤ l.length * 1048576 := fun l => by
        induction l with
        | nil => intro _; simp
        | cons x r ih =>
          intro h
          have h1 := h x (List.mem_cons_self ..)
          have h2 := ih fun y hy => h y (List.mem_cons_of_mem _ hy)
          rw [List.flatMap_cons, List.length_append, List.length_cons, Nat.add_mul]
          omega
      refine this _ fun p hp => ?_
      obtain ⟨a, k⟩ := p
      have ha : a ∈ n.autos := (List.of_mem_zip hp).1
      by_cases hk : k.toNat < a.locs.length
      · have e : invF (a, k) = a.locs[k.toNat].inv := by simp [invF, List.getD, List.getElem?_eq_getElem hk]
        rw [e]
        exact ((hn.2.2.2.2 a ha).2.1.2 _ (List.getElem_mem hk)).2.2.1
      · have e : invF (a, k) = [] := by simp [invF, List.getD, List.getElem?_eq_none (Nat.le_of_not_lt hk)]; rfl
        rw [e]; simp
    have h2 : (n.autos.zip c.st.locs).length ≤ 1048576 := by
      rw [List.length_zip]
      exact Nat.le_trans (Nat.min_le_left _ _) hn.2.2.2.1
    have := Nat.mul_le_mul_right 1048576 h2
    omega
  have h2 := c_ptHolds c.clocks hc.2 c3 (invL n c.st) hll (fun g hg => by
    have := net_guardR h0 g (invL_sub c1 g hg)
    rw [c2]; exact this)
  have ek : keptB n c = !anyL (notG c.clocks) (invL n c.st) := rfl
  rw [ek]
  generalize anyL (notG c.clocks) (invL n c.st) = b at *
  simp only [NetD.cells, StateD.cells, CfgD.cells, vl] at h1 h2 ⊢
  refine pB Tryz.func60 rfl (by decide) Tryz.ntmps60 (by simp) Tryz.results60 ?_
  repeat' (first
 |refine aK fun K hK=>?_|refine Step.by1 ?_|refine sE (by decide) ?_|refine cz rfl ?_|refine Fork.by2 (fun h=>?_) fun h=>?_
 |((first|refine aR ?_|refine aC (f:=84) rfl rfl (h1) rfl rfl rfl ?_|refine aC (f:=64) rfl rfl (h2) rfl rfl rfl ?_);simp)
 |(refine Split.by2 (fun h=>?_) (fun h=>?_)<;>(simp [h]))
 |(apply hK;clear hK K)|refine AWh ‹_› ?_)
  exact r1q (cE (by simp) rfl)
theorem g_keptW (h : List B) (n : NetD) (hn : n.ok) (h0 : netE n = 0) (c : CfgD) (hc : c.ok) (hf : confB n c = true) (i j : Nat) (x y z : V) (hi : h[i]? = some (.var n.cells)) (hj : h[j]? = some (.var [x, y, z])) (hs : [seenV h x, seenV h y, seenV h z] = c.cells) : GCall Tryz.prog GV 59 [.ptr i 0, .ptr j 0] h (fun v h' => v = .bool (keptB n c) ∧ h' = h) := by
  have h1 := c_kept n hn h0 c hc hf
  have hcells : n.cells = [.vec (n.clocks.map fun x => [.str x]) n.clocks.length, .vec (n.vars.map VarD.cells) n.vars.length, .vec (n.chans.map fun x => [.str x]) n.chans.length, .vec (n.autos.map AutoD.cells) n.autos.length] := rfl
  have ccells : c.cells = [.vec (ivs c.st.locs) c.st.locs.length, .vec (ivs c.st.vars) c.st.vars.length, .vec (c.clocks.map RatD.cells) c.clocks.length] := rfl
  rw [hcells] at hi h1
  rw [ccells] at hs h1
  obtain ⟨s1, s2, s3⟩ : seenV h x = _ ∧ seenV h y = _ ∧ seenV h z = _ := by simpa using hs
  have h2 : GCall Tryz.prog GV 60 [.agg [.vec (n.clocks.map fun x => [.str x]) n.clocks.length, .vec (n.vars.map VarD.cells) n.vars.length, .vec (n.chans.map fun x => [.str x]) n.chans.length, .vec (n.autos.map AutoD.cells) n.autos.length], .agg [x, y, z]] h (fun v h' => v = .bool (keptB n c) ∧ h' = h) :=
    GCall_seenW h1 (by show [V.agg _, V.agg [seenV h x, seenV h y, seenV h z]] = _; rw [s1, s2, s3]; rfl) (by simp) rfl
  refine gB1 Tryz.func59 rfl (by decide) Tryz.ntmps59 (by simp) Tryz.results59 ?_
  repeat' (first
 |refine aK fun K hK=>?_|refine Step.by1 ?_|refine sE (by decide) ?_|refine cz rfl ?_|refine Fork.by2 (fun h=>?_) fun h=>?_
 |(refine aR ?_;simp [hi, hj])
 |(refine Split.by2 (fun h=>?_) (fun h=>?_)<;>(simp [h, hi, hj]))
 |(refine aG (f := 60) rfl rfl (h2.imp (by simp) rfl) rfl (fun v h' hq => ?_); obtain ⟨rfl, rfl⟩ := hq; simp)
 |(apply hK;clear hK K)|refine AWh ‹_› ?_)
  exact retg1 ⟨rfl, rfl⟩ rfl leaves_same
theorem g_keptD (h : List B) (n : NetD) (hn : n.ok) (h0 : netE n = 0) (c : CfgD) (hc : c.ok) (hf : confB n c = true) (i j : Nat) (x y z : V) (hi : h[i]? = some (.var n.cells)) (hj : h[j]? = some (.var [x, y, z])) (hs : [seenV h x, seenV h y, seenV h z] = c.cells) : GCall Tryz.prog GV 70 [.ptr i 0, .ptr j 0] h (fun v h' => v = .bool (keptB n c) ∧ h' = h) := by
  have h1 := c_kept n hn h0 c hc hf
  have hcells : n.cells = [.vec (n.clocks.map fun x => [.str x]) n.clocks.length, .vec (n.vars.map VarD.cells) n.vars.length, .vec (n.chans.map fun x => [.str x]) n.chans.length, .vec (n.autos.map AutoD.cells) n.autos.length] := rfl
  have ccells : c.cells = [.vec (ivs c.st.locs) c.st.locs.length, .vec (ivs c.st.vars) c.st.vars.length, .vec (c.clocks.map RatD.cells) c.clocks.length] := rfl
  rw [hcells] at hi h1
  rw [ccells] at hs h1
  obtain ⟨s1, s2, s3⟩ : seenV h x = _ ∧ seenV h y = _ ∧ seenV h z = _ := by simpa using hs
  have h2 : GCall Tryz.prog GV 60 [.agg [.vec (n.clocks.map fun x => [.str x]) n.clocks.length, .vec (n.vars.map VarD.cells) n.vars.length, .vec (n.chans.map fun x => [.str x]) n.chans.length, .vec (n.autos.map AutoD.cells) n.autos.length], .agg [x, y, z]] h (fun v h' => v = .bool (keptB n c) ∧ h' = h) :=
    GCall_seenW h1 (by show [V.agg _, V.agg [seenV h x, seenV h y, seenV h z]] = _; rw [s1, s2, s3]; rfl) (by simp) rfl
  refine gB1 Tryz.func70 rfl (by decide) Tryz.ntmps70 (by simp) Tryz.results70 ?_
  repeat' (first
 |refine aK fun K hK=>?_|refine Step.by1 ?_|refine sE (by decide) ?_|refine cz rfl ?_|refine Fork.by2 (fun h=>?_) fun h=>?_
 |(refine aR ?_;simp [hi, hj])
 |(refine Split.by2 (fun h=>?_) (fun h=>?_)<;>(simp [h, hi, hj]))
 |(refine aG (f := 60) rfl rfl (h2.imp (by simp) rfl) rfl (fun v h' hq => ?_); obtain ⟨rfl, rfl⟩ := hq; simp)
 |(apply hK;clear hK K)|refine AWh ‹_› ?_)
  exact retg1 ⟨rfl, rfl⟩ rfl leaves_same
theorem g_keptF (h : List B) (n : NetD) (hn : n.ok) (h0 : netE n = 0) (c : CfgD) (hc : c.ok) (hf : confB n c = true) (i j : Nat) (x y z : V) (hi : h[i]? = some (.var n.cells)) (hj : h[j]? = some (.var [x, y, z])) (hs : [seenV h x, seenV h y, seenV h z] = c.cells) : GCall Tryz.prog GV 74 [.ptr i 0, .ptr j 0] h (fun v h' => v = .bool (keptB n c) ∧ h' = h) := by
  have h1 := c_kept n hn h0 c hc hf
  have hcells : n.cells = [.vec (n.clocks.map fun x => [.str x]) n.clocks.length, .vec (n.vars.map VarD.cells) n.vars.length, .vec (n.chans.map fun x => [.str x]) n.chans.length, .vec (n.autos.map AutoD.cells) n.autos.length] := rfl
  have ccells : c.cells = [.vec (ivs c.st.locs) c.st.locs.length, .vec (ivs c.st.vars) c.st.vars.length, .vec (c.clocks.map RatD.cells) c.clocks.length] := rfl
  rw [hcells] at hi h1
  rw [ccells] at hs h1
  obtain ⟨s1, s2, s3⟩ : seenV h x = _ ∧ seenV h y = _ ∧ seenV h z = _ := by simpa using hs
  have h2 : GCall Tryz.prog GV 60 [.agg [.vec (n.clocks.map fun x => [.str x]) n.clocks.length, .vec (n.vars.map VarD.cells) n.vars.length, .vec (n.chans.map fun x => [.str x]) n.chans.length, .vec (n.autos.map AutoD.cells) n.autos.length], .agg [x, y, z]] h (fun v h' => v = .bool (keptB n c) ∧ h' = h) :=
    GCall_seenW h1 (by show [V.agg _, V.agg [seenV h x, seenV h y, seenV h z]] = _; rw [s1, s2, s3]; rfl) (by simp) rfl
  refine gB1 Tryz.func74 rfl (by decide) Tryz.ntmps74 (by simp) Tryz.results74 ?_
  repeat' (first
 |refine aK fun K hK=>?_|refine Step.by1 ?_|refine sE (by decide) ?_|refine cz rfl ?_|refine Fork.by2 (fun h=>?_) fun h=>?_
 |(refine aR ?_;simp [hi, hj])
 |(refine Split.by2 (fun h=>?_) (fun h=>?_)<;>(simp [h, hi, hj]))
 |(refine aG (f := 60) rfl rfl (h2.imp (by simp) rfl) rfl (fun v h' hq => ?_); obtain ⟨rfl, rfl⟩ := hq; simp)
 |(apply hK;clear hK K)|refine AWh ‹_› ?_)
  exact retg1 ⟨rfl, rfl⟩ rfl leaves_same
/-- A closure that tells an error and leaves a heap. -/
def Callee (f : V) (h : List B) (e : Int) (h' : List B) : Prop := ∃ k C, f = .fn (.func k) [] C ∧ GCall Tryz.prog GV k C h (fun v h'' => v = .int .i64 e ∧ h'' = h')
/-- Closures, one behind another, up to the first that tells an error. -/
inductive Chain (b : Nat) (R : B) : List V → List B → Int → List B → Prop
  | nil {h} : Chain b R [] h 0 h
  | stop {f r h e h'} (hc : Callee f h e h') (he : e ≠ 0) (hl : h'.length = h.length) (hH : HL h') : Chain b R (f :: r) h e h'
  | go {f r h e h'} (h1 : List B) (hc : Callee f h 0 h1) (hl : h1.length = h.length) (hH : HL h1) (hb : h1[b]? = some R) (hr : Chain b R r h1 e h') : Chain b R (f :: r) h e h'
def rowF (fs : List V) : B := .row 121 0 0 false (fs.map fun f => [f])
set_option maxHeartbeats 4000000 in
theorem g_first (b : Nat) (fs : List V) (h h' : List B) (e : Int) (hH : HL h) (hb : h[b]? = some (rowF fs)) (hlen : fs.length ≤ 100) (hc : Chain b (rowF fs) fs h e h') : GCall Tryz.prog GV 45 [.ref b 0 0 fs.length] h (fun v h'' => v = .int .i64 e ∧ h'' = h') := by
  have hbl := (List.getElem?_eq_some_iff.1 hb).1
  refine gB1 Tryz.func45 rfl (by decide) Tryz.ntmps45 (by simp) Tryz.results45 ?_
  repeat' (first
 |refine aK fun K hK=>?_|refine Step.by1 ?_|refine sE (by decide) ?_|refine cz rfl ?_|refine Fork.by2 (fun h=>?_) fun h=>?_
 |(refine aR ?_;simp)
 |(refine Split.by2 (fun h=>?_) (fun h=>?_)<;>(simp [h]))
 |(apply hK;clear hK K)|refine AWh ‹_› ?_)
  refine aL [6, 7] (fun x : Nat × List B => [(8, .int .i64 x.1)]) (fun x => x.2) (fun x => x.1 ≤ fs.length ∧ x.2.length = h.length ∧ HL x.2 ∧ x.2[b]? = some (rowF fs) ∧ Chain b (rowF fs) (fs.drop x.1) x.2 e h') (fun x => fs.length - x.1) (0, h) ⟨Nat.zero_le _, rfl, hH, hb, by simpa using hc⟩ (Weak.sym (x := []) (by simp) hH (by simp [hbl])) (fun x hx => by rw [hx.2.1]) ?_
  rintro ⟨i, H⟩ ⟨hi, hHl, hHH, hHb, hch⟩
  simp only at hi hHl hHH hHb hch
  have hbl2 : b < H.length := by omega
  by_cases hlt : i < fs.length
  · rw [List.drop_eq_getElem_cons hlt] at hch
    have hlt' : (i : Int) < fs.length := by omega
    have w1 : IntKind.i64.wrap ((i : Int) + 1) = i + 1 := wI (by omega) (by omega)
    have hb2 : H[b]? = some (.row 121 0 0 false (fs.map fun f => [f])) := hHb
    generalize hfr : fs[i] = f at *
    generalize hdr : fs.drop (i + 1) = r at *
    cases hch with
    | stop hc he hl hHc =>
      obtain ⟨k, C, rfl, hg⟩ := hc
      repeat' (first
 |refine aK fun K hK=>?_|refine Step.by1 ?_|refine sE (by decide) ?_|refine cz rfl ?_|refine Fork.by2 (fun h=>?_) fun h=>?_
 |(refine aR ?_;simp [hlt, hlt', hb2, hfr, w1, he])
 |(refine Split.by2 (fun h=>?_) (fun h=>?_)<;>(simp [h, hlt, hlt', hb2, hfr, w1, he]))
 |(refine aG (f := k) rfl rfl (hg.imp (by simp) rfl) rfl (fun v h'' hq => ?_); obtain ⟨rfl, rfl⟩ := hq; simp [he])
 |(apply hK;clear hK K)|refine AWh ‹_› ?_)
      exact retg1 ⟨rfl, rfl⟩ rfl (Go.AM.Leaves.sym (by dsimp only; omega) hHc)
    | go H1 hc hl hHc hbc hr =>
      obtain ⟨k, C, rfl, hg⟩ := hc
      repeat' (first
 |refine aK fun K hK=>?_|refine Step.by1 ?_|refine sE (by decide) ?_|refine cz rfl ?_|refine Fork.by2 (fun h=>?_) fun h=>?_
 |(refine aR ?_;simp [hlt, hlt', hb2, hfr, w1])
 |(refine Split.by2 (fun h=>?_) (fun h=>?_)<;>(simp [h, hlt, hlt', hb2, hfr, w1]))
 |(refine aG (f := k) rfl rfl (hg.imp (by simp) rfl) rfl (fun v h'' hq => ?_); obtain ⟨rfl, rfl⟩ := hq; simp)
 |(apply hK;clear hK K)|refine AWh ‹_› ?_)
      refine ⟨i + 1, _, ⟨by omega, by omega, hHc, hbc, by rw [hdr]; exact hr⟩, by omega, ?_⟩
      exact Weak.sym (x := []) (by simp) hHc (by simp; omega)
  · obtain rfl : i = fs.length := by omega
    rw [List.drop_length] at hch
    cases hch
    have hHl2 := hHl
    repeat' (first
 |refine aK fun K hK=>?_|refine Step.by1 ?_|refine sE (by decide) ?_|refine cz rfl ?_|refine Fork.by2 (fun h=>?_) fun h=>?_
 |(refine aR ?_;simp)
 |(refine Split.by2 (fun h=>?_) (fun h=>?_)<;>(simp [h]))
 |(apply hK;clear hK K)|refine AWh ‹_› ?_)
    exact retg1 ⟨rfl, rfl⟩ rfl (Go.AM.Leaves.sym (by dsimp only; omega) hHH)
end Go.Proofs.YtbgooadmonnjaaaGreatDoor
end
