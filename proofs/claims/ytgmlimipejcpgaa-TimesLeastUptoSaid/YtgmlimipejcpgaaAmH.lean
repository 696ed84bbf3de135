/-
  YtgmlimipejcpgaaAmH: a step of the proof of a law of the program: what this text proves holds under the hypotheses that its theorems name, and no others.
-/
import Derived.Test.YtgmlimipejcpgaaAmG
/-! AM, part H: freezing; pure contracts out of bodies; append; slices of slices. -/
set_option linter.unusedVariables false
set_option linter.unusedSimpArgs false
namespace Go.AM
section
variable {P : Program} {ge : GEnv} {st : St} {G G' : Gh} {w w' : World} {Q : Exit → St → Prop}
variable {d : Option Tmp} {t : TypeId} {p : String} {af : Array Edge} {g : Option (Nat × Bool)}

/-- A value as it reads when nobody writes any more. -/
def frz (h : List B) : Nat → V → V
  | 0, v => if v.isF then v else .junk
  | n + 1, .ref b g off len => match h[b]? with
    | some (.row _ g' _ flat xs) => if g = g' ∧ off + len ≤ xs.length then .vec (if flat = true then xs.drop off else (xs.drop off).map fun x => x.map (frz h n)) len else .junk
    | _ => .junk
  | n + 1, .ptr b off => match h[b]? with
    | some (.var cs) => .fp (cs.map (frz h n)) off
    | _ => .junk
  | n + 1, .agg cs => .agg (cs.map (frz h n))
  | n + 1, .tup cs => .tup (cs.map (frz h n))
  | _ + 1, v => if v.isF then v else .junk

theorem R.fz {fz2 : Nat → Nat} {v : V} {c : Value} (h : R G w true v c) (hfz : ∀ k, G.fz k ≤ fz2 k) : R (G.withFz fz2) w true v c :=
  h.monoT (G' := G.withFz fz2) hfz (fun _ _ _ => rfl) rfl

theorem frz_spec {h : List B} (rh : RH P ge G h w) {fz2 : Nat → Nat} (hfz : ∀ k, G.fz k ≤ fz2 k)
    (hall : ∀ (b : Nat) (x : B) (k : Nat) (arr : Array Value) (T : TypeId) (fr : Nat × Nat), h[b]? = some x → G.at b x = some k → w.heap[k]? = some (.cells arr T fr) → arr.size ≤ fz2 k) :
    ∀ (n : Nat) {fr : Bool} {v : V} {c : Value}, R G w fr v c → R (G.withFz fz2) w true (frz h n v) c := by
  have hF : ∀ {fr : Bool} {v : V} {c : Value}, R G w fr v c → R (G.withFz fz2) w true (if v.isF then v else .junk) c := fun {fr v c} hr => by
    split
    · rename_i hf; exact (hr.frozen hf).fz hfz
    · exact .junk
  have hmap : ∀ (n : Nat), (∀ {fr : Bool} {v : V} {c : Value}, R G w fr v c → R (G.withFz fz2) w true (frz h n v) c) → ∀ (cs : List V) (i : Nat) (u : V), (cs.map (frz h n))[i]? = some u → ∃ u0, cs[i]? = some u0 ∧ u = frz h n u0 := fun n _ cs i u hu => by
    rw [List.getElem?_map] at hu
    obtain ⟨u0, h1, h2⟩ := Option.map_eq_some_iff.1 hu
    exact ⟨u0, h1, h2.symm⟩
  intro n
  induction n with
  | zero => intro fr v c hr; exact hF hr
  | succ n ih =>
    intro fr v c hr
    cases hr with
    | agg hs ho hr =>
      refine .agg (by rw [List.length_map]; exact hs) (fun i u hu => ?_) (fun i u hu => ?_)
      · obtain ⟨u0, h1, rfl⟩ := hmap n ih _ i u hu; exact ho i u0 h1
      · obtain ⟨u0, h1, rfl⟩ := hmap n ih _ i u hu; exact ih (hr i u0 h1)
    | tup hs hr =>
      refine .tup (by rw [List.length_map]; exact hs) (fun i u hu => ?_)
      obtain ⟨u0, h1, rfl⟩ := hmap n ih _ i u hu; exact ih (hr i u0 h1)
    | @ref b g off len k hb hg hm hle =>
      simp only [frz]
      split
      · rename_i T g' fzn flat xs hx
        split
        · rename_i hc
          obtain ⟨rfl, hlen⟩ := hc
          obtain ⟨h00, hfx, ⟨hsz0, hszT⟩, hrow⟩ := rh.bl b _ hx
          rcases hrow with ⟨hn, rfl⟩ | ⟨k', arr, hm', hh, hfzk, hs, hl, hcm, hlen', hcells⟩
          · rw [hm] at hn; cases hn
          · rw [hm] at hm'; cases hm'
            have hbig := hall b _ k arr T _ hx (by simp only [Gh.at]; exact hm) hh
            have hin : ∀ (i : Nat) (x : List V) (j : Nat), xs[i]? = some x → j < x.length → i * G.sz b + j < arr.size := fun i x j hx hj => by
              rw [hlen' i x hx] at hj
              have h2 : i < xs.length := (List.getElem?_eq_some_iff.1 hx).1
              have h3 : (i + 1) * G.sz b ≤ G.cap b g * G.sz b := Nat.mul_le_mul_right _ (by omega)
              rw [hs]; rw [Nat.add_mul] at h3; omega
            have haddr : ∀ i j, off * G.sz b + (i * G.sz b + j) = (off + i) * G.sz b + j := fun i j => by rw [Nat.add_mul]; omega
            -- one cell of the row
            have hone : ∀ (i : Nat) (x : List V) (j : Nat) (v : V), xs[off + i]? = some x → x[j]? = some v →
                ((w.cell? ⟨k, off * G.sz b + (i * G.sz b + j), none⟩).isSome = true ∧ off * G.sz b + (i * G.sz b + j) < (G.withFz fz2).fz k) ∧
                (cellD w k (off * G.sz b + (i * G.sz b + j))).oneCell' = true ∧ R G w flat v (cellD w k (off * G.sz b + (i * G.sz b + j))) := fun i x j v hx hv => by
              rw [haddr]
              have hj := hin (off + i) x j hx (List.getElem?_eq_some_iff.1 hv).1
              have hc := arr_cell hh hj
              have hd : cellD w k ((off + i) * G.sz b + j) = arr.getD ((off + i) * G.sz b + j) undef := by unfold cellD; rw [hc]; rfl
              rw [hd]
              exact ⟨⟨by rw [hc]; rfl, Nat.lt_of_lt_of_le hj hbig⟩, (hcells _ x j v hx hv).1, (hcells _ x j v hx hv).2⟩
            cases flat with
            | true =>
              simp only [if_true]
              have hd : ∀ (i : Nat) (x : List V), (xs.drop off)[i]? = some x → xs[off + i]? = some x := fun i x hx => by rw [List.getElem?_drop] at hx; exact hx
              refine .vec (sz := G.sz b) (by rw [List.length_drop]; omega) (by rw [List.length_drop]; omega) (by omega) (fun i x hx => hlen' _ x (hd i x hx)) (fun i x j v hx hv => (hone i x j v (hd i x hx) hv).1)
                (fun i x j v hx hv => (hone i x j v (hd i x hx) hv).2.1) (fun i x j v hx hv => ?_)
              exact (hone i x j v (hd i x hx) hv).2.2.fz hfz
            | false =>
              simp only [Bool.false_eq_true, if_false]
              have hd : ∀ (i : Nat) (x : List V), ((xs.drop off).map fun x => x.map (frz h n))[i]? = some x → ∃ x0, xs[off + i]? = some x0 ∧ x = x0.map (frz h n) := fun i x hx => by
                rw [List.getElem?_map, List.getElem?_drop] at hx
                obtain ⟨x0, h1, h2⟩ := Option.map_eq_some_iff.1 hx
                exact ⟨x0, h1, h2.symm⟩
              refine .vec (sz := G.sz b) (by rw [List.length_map, List.length_drop]; omega) (by rw [List.length_map, List.length_drop]; omega) (by omega) (fun i x hx => ?_) (fun i x j v hx hv => ?_) (fun i x j v hx hv => ?_) (fun i x j v hx hv => ?_)
              · obtain ⟨x0, h1, rfl⟩ := hd i x hx; rw [List.length_map]; exact hlen' _ x0 h1
              · obtain ⟨x0, h1, rfl⟩ := hd i x hx; obtain ⟨v0, h2, rfl⟩ := hmap n ih _ j v hv; exact (hone i x0 j v0 h1 h2).1
              · obtain ⟨x0, h1, rfl⟩ := hd i x hx; obtain ⟨v0, h2, rfl⟩ := hmap n ih _ j v hv; exact (hone i x0 j v0 h1 h2).2.1
              · obtain ⟨x0, h1, rfl⟩ := hd i x hx; obtain ⟨v0, h2, rfl⟩ := hmap n ih _ j v hv; exact ih (hone i x0 j v0 h1 h2).2.2
        · exact .junk
      · exact .junk
    | @refn b g hb hg hm =>
      simp only [frz]
      split
      · rename_i T g' fzn flat xs hx
        split
        · rename_i hc
          obtain ⟨rfl, hlen⟩ := hc
          obtain ⟨h00, hfx, _, hrow⟩ := rh.bl b _ hx
          rcases hrow with ⟨hn, rfl⟩ | ⟨k', arr, hm', _⟩
          · cases flat <;> exact .emp (Nat.zero_le _)
          · rw [hm] at hm'; cases hm'
        · exact .junk
      · exact .junk
    | @ptr b off k hb hm =>
      simp only [frz]
      split
      · rename_i cs hx
        obtain ⟨h00, k', arr, T, hm', hh, hfz0, hs, hc⟩ := rh.bl b _ hx
        rw [hm] at hm'; cases hm'
        have hbig := hall b _ k arr T _ hx (by simp only [Gh.at]; exact hm) hh
        have e : (⟨k, off, none⟩ : Addr) = ⟨k, 0 + off, none⟩ := by simp
        rw [e]
        have hcell : ∀ (j : Nat) (u : V), cs[j]? = some u → w.cell? ⟨k, 0 + j, none⟩ = some (arr.getD j undef) ∧ j < arr.size := fun j u hu => by
          have hj : j < arr.size := by rw [hs]; exact (List.getElem?_eq_some_iff.1 hu).1
          rw [Nat.zero_add]; exact ⟨arr_cell hh hj, hj⟩
        have hd : ∀ (j : Nat) (u : V), cs[j]? = some u → cellD w k (0 + j) = arr.getD j undef := fun j u hu => by unfold cellD; rw [(hcell j u hu).1]; rfl
        refine .fp (fun j u hu => ?_) (fun j u hu => ?_) (fun j u hu => ?_)
        · obtain ⟨u0, h1, rfl⟩ := hmap n ih _ j u hu
          refine ⟨by rw [(hcell j u0 h1).1]; rfl, ?_⟩
          rw [Nat.zero_add]; exact Nat.lt_of_lt_of_le (hcell j u0 h1).2 hbig
        · obtain ⟨u0, h1, rfl⟩ := hmap n ih _ j u hu
          rw [hd j u0 h1]; exact (hc j u0 h1).1
        · obtain ⟨u0, h1, rfl⟩ := hmap n ih _ j u hu
          rw [hd j u0 h1]; exact ih (hc j u0 h1).2
      · exact .junk
    | junk => exact .junk
    | void => exact .void
    | bool => exact .bool
    | int => exact .int
    | str => exact .str
    | nils => exact .nils
    | nilp => exact .nilp
    | nilf => exact .nilf
    | nilm => exact .nilm
    | nili => exact .nili
    | emp h => exact .emp h
    | vec h1 h2 h3 hl hc ho hr => exact hF (fr := true) (.vec h1 h2 h3 hl hc ho hr)
    | fp hc ho hr => exact hF (fr := true) (.fp hc ho hr)
    | fn hs hr hs' hr' => exact hF (fr := fr) (.fn hs hr hs' hr')
    | ifc hr => exact hF (fr := fr) (.ifc hr)
    | ep hb hg hm => exact hF (fr := false) (.ep hb hg hm)
    | mp hb hm => exact hF (fr := false) (.mp hb hm)
end

/-- How a result is told: frozen; or, row by row, as one's own. -/
def Conv1 (h : List B) (v r : V) : Prop :=
  (v.isF = true ∧ r = v) ∨ ∃ b g T xs, v = .ref b g 0 xs.length ∧ h[b]? = some (.row T g 0 true xs) ∧ r = .own T xs
def V.refBlk : V → Option Nat
  | .ref b _ _ _ => some b
  | _ => none
def Conv (h : List B) (v r : V) : Prop :=
  (∃ n, r = frz h n v ∧ r.plain = true) ∨ Conv1 h v r ∨
  ∃ vs rs, v = .tup vs ∧ r = .tup rs ∧ vs.length = rs.length ∧ (∀ (i : Nat) (u s : V), vs[i]? = some u → rs[i]? = some s → Conv1 h u s) ∧
    ∀ (i j : Nat) (u u' : V) (b : Nat), vs[i]? = some u → vs[j]? = some u' → u.refBlk = some b → u'.refBlk = some b → i = j

section
variable {P : Program} {ge : GEnv} {st : St} {G G' : Gh} {w w' : World} {Q : Exit → St → Prop}
variable {d : Option Tmp} {t : TypeId} {p : String} {af : Array Edge} {g : Option (Nat × Bool)}

theorem RO1_of_conv {h : List B} (rh : RH P ge G h w) {base : Nat} (hbase : ∀ (b : Nat) (x : B) (k : Nat), h[b]? = some x → G.at b x = some k → base ≤ k) {v r : V} {c : Value} (hv : R G w false v c) (hc : Conv1 h v r) :
    RO1 P G w base r c := by
  rcases hc with ⟨hf, rfl⟩ | ⟨b, g, T, xs, rfl, hb, rfl⟩
  · have := hv.frozen hf
    cases r <;> first | exact this | (simp [V.isF] at hf)
  · obtain ⟨h00, hfx, ⟨hsz0, hszT⟩, hrow⟩ := rh.bl b _ hb
    refine ⟨by rw [← hszT]; exact hsz0, ?_⟩
    generalize hnl : xs.length = nl at hv
    cases hv with
    | @ref _ _ _ _ k hbn hg hm hle =>
      subst hnl
      rcases hrow with ⟨hn, rfl⟩ | ⟨k', arr, hm', hh, hfzk, hs, hl, hcm, hlen', hcells⟩
      · rw [hm] at hn; cases hn
      · rw [hm] at hm'; cases hm'
        refine .inr ⟨k, G.cap b g, arr, by simp, hbase b _ k hb (by simp only [Gh.at]; exact hm), hh, by omega, by rw [← hszT]; exact hs, hl, hcm, by rw [← hszT]; exact hlen', ?_⟩
        rw [← hszT]; exact hcells
    | refn hbn hg hm =>
      rcases hrow with ⟨hn, rfl⟩ | ⟨k', arr, hm', _⟩
      · exact .inl ⟨rfl, rfl⟩
      · rw [hm] at hm'; cases hm'

theorem RO_of_one {base : Nat} {r : V} {c : Value} (h : RO1 P G w base r c) : RO P G w base r c := by
  cases r
  case tup vs =>
    have h' : R G w true (.tup vs) c := h
    cases h' with
    | @tup _ _ arr hs hr =>
      refine ⟨arr, rfl, hs, fun i v hv => ?_, fun i j u v k hu hv h1 h2 => ?_⟩
      · have := hr i v hv
        cases v <;> first | exact this | (cases this)
      · have := hr i u hu
        cases u <;> simp [V.isOwn] at h1
        cases this
  all_goals exact h

theorem R_not_own {fr : Bool} {T : TypeId} {xs : List (List V)} {c : Value} (h : R G w fr (.own T xs) c) : False := by cases h

/-- A pure contract, out of the body's walk. -/
theorem PCall_of_body {f : Nat} {fn : Func} {code : Code} {args : List V} {r : V} (hf : P.funcs[f]? = some fn) (hb : fn.body = some code) (hname : fn.name ≠ "runtime.NumGoroutine") (hn : args.length ≤ fn.ntmps)
    (body : AW P ge code (fun e s => (e = .normal ∨ e = .ret) ∧ ∃ v, RetV P s fn.results.toList v ∧ Conv s.h v r) ⟨fn.ntmps, argTm 0 args, []⟩) : PCall P ge f args r := by
  refine ⟨⟨fn, hf, by rw [hb]; rfl, hname⟩, fun G w cargs ha gee => ?_⟩
  let G0 : Gh := { fz := G.fz, n := 0, gm := fun _ => 0, m := fun _ _ => none, sz := fun _ => 0, cap := fun _ _ => 0 }
  have ha0 : ArgsR G0 w false args cargs := ⟨ha.1, fun i v hv => ((ha.2 i v hv).monoT (G' := G0) (fun k => Nat.le_refl (G.fz k)) (fun _ _ _ => rfl) rfl).weak rfl⟩
  have rh0 : RH P ge G0 [] w := ⟨rfl, fun b x hx => by simp at hx, fun b b' x x' k hx => by simp at hx, gee.fzlt, fun g cs hg => (gee.ge g cs hg).monoT (G' := G0) (fun k => Nat.le_refl (G.fz k)) (fun _ _ _ => rfl) rfl⟩
  have hr := Rep_enter ha0 rh0 hn
  refine calls_of_wp hf hb (wp_mono (body G0 _ w hr) ?_)
  rintro e a' w' ⟨G', s, ⟨he, v, hret, hconv⟩, rr, ext⟩
  obtain ⟨c, hc, hvc⟩ := run_results rr hret
  have grow : WGrow w w' := ⟨ext.size, fun k hk => (ext.frame k hk fun b x hx => by simp at hx).1, ext.os, ext.out⟩
  have hfzold : ∀ k, k < w.heap.size → G'.fz k = G.fz k := fun k hk => (ext.frame k hk fun b x hx => by simp at hx).2
  have hbase : ∀ (b : Nat) (x : B) (k : Nat), s.h[b]? = some x → G'.at b x = some k → w.heap.size ≤ k := fun b x k hx hk => by
    rcases ext.fresh b x k hx hk with h | ⟨b0, x0, h, _⟩
    · exact h
    · simp at h
  have fin : ∃ c1 G2, Ending.returned c = .returned c1 ∧ Kept G w G2 w' ∧ RO P G2 w' w.heap.size r c1 := by
    rcases hconv with ⟨n, hrr, hp⟩ | h1 | ⟨vs, rs, rfl, rfl, hl, hall, hdis⟩
    · let fz2 : Nat → Nat := fun k => if k < w.heap.size then G'.fz k else match w'.heap[k]? with
        | some (.cells arr _ _) => max (G'.fz k) arr.size
        | _ => G'.fz k
      have hle : ∀ k, G'.fz k ≤ fz2 k := fun k => by
        show G'.fz k ≤ if k < w.heap.size then G'.fz k else match w'.heap[k]? with | some (.cells arr _ _) => max (G'.fz k) arr.size | _ => G'.fz k
        split
        · exact Nat.le_refl _
        · split
          · exact Nat.le_max_left _ _
          · exact Nat.le_refl _
      have hfr := frz_spec rr.rh (fz2 := fz2) hle (fun b x k arr T fr hx hk hh => by
        have hb := hbase b x k hx hk
        show arr.size ≤ if k < w.heap.size then G'.fz k else match w'.heap[k]? with | some (.cells arr _ _) => max (G'.fz k) arr.size | _ => G'.fz k
        rw [if_neg (by omega), hh]
        exact Nat.le_max_right _ _) n hvc
      refine ⟨c, G'.withFz fz2, rfl, ⟨grow, fun k hk => ?_, fun k hk => ?_⟩, ?_⟩
      · show (if k < w.heap.size then G'.fz k else _) = G.fz k
        rw [if_pos hk]; exact hfzold k hk
      · have hk2 : ¬ k < w.heap.size := by have := ext.size; omega
        show (if k < w.heap.size then G'.fz k else match w'.heap[k]? with | some (.cells arr _ _) => max (G'.fz k) arr.size | _ => G'.fz k) = 0
        rw [if_neg hk2, Array.getElem?_eq_none hk]
        exact rr.rh.fzlt k hk
      · rw [← hrr] at hfr
        refine RO_of_one ?_
        cases r <;> first | exact hfr | (simp [V.plain] at hp)
    · exact ⟨c, G', rfl, ⟨grow, hfzold, rr.rh.fzlt⟩, RO_of_one (RO1_of_conv rr.rh hbase hvc h1)⟩
    · refine ⟨c, G', rfl, ⟨grow, hfzold, rr.rh.fzlt⟩, ?_⟩
      cases hvc with
      | @tup _ _ arr hs hr' =>
        refine ⟨arr, rfl, by rw [hs]; exact hl, fun i v hv => ?_, fun i j u v k hu hv ou ov b1 b2 => ?_⟩
        · have hi : i < vs.length := by rw [hl]; exact (List.getElem?_eq_some_iff.1 hv).1
          exact RO1_of_conv rr.rh hbase (hr' i _ (List.getElem?_eq_getElem hi)) (hall i _ v (List.getElem?_eq_getElem hi) hv)
        · have hi : i < vs.length := by rw [hl]; exact (List.getElem?_eq_some_iff.1 hu).1
          have hj : j < vs.length := by rw [hl]; exact (List.getElem?_eq_some_iff.1 hv).1
          have key : ∀ (i : Nat) (hi : i < vs.length) (u : V), rs[i]? = some u → u.isOwn = true → blkOf (arr.getD i undef) = some k → ∃ b x, vs[i].refBlk = some b ∧ s.h[b]? = some x ∧ G'.at b x = some k := by
            intro i hi u hu ou hb1
            have hR := hr' i _ (List.getElem?_eq_getElem hi)
            rcases hall i _ u (List.getElem?_eq_getElem hi) hu with ⟨hf, rfl⟩ | ⟨b, g, T, xs, hvi, hbx, rfl⟩
            · generalize hvv : vs[i] = vv at *
              cases vv <;> simp [V.isOwn] at ou
              simp [V.isF] at hf
            · rw [hvi] at hR
              refine ⟨b, _, by rw [hvi]; rfl, hbx, ?_⟩
              generalize arr.getD i undef = cc at *
              generalize hnl : xs.length = nl at hR
              cases hR with
              | ref hb' hg' hm' hle' => simp only [blkOf, Option.some.injEq] at hb1; subst hb1; exact hm'
              | refn => simp [blkOf] at hb1
          obtain ⟨bi, xi, e1, e2, e3⟩ := key i hi u hu ou b1
          obtain ⟨bj, xj, f1, f2, f3⟩ := key j hj v hv ov b2
          have hbb := rr.rh.inj bi bj xi xj k e2 f2 e3 f3
          subst hbb
          exact hdis i j _ _ bi (List.getElem?_eq_getElem hi) (List.getElem?_eq_getElem hj) e1 f1
  rcases he with rfl | rfl
  · exact ⟨rr.d, c, hc, fin⟩
  · exact ⟨rr.d, c, hc, fin⟩
end
end Go.AM
