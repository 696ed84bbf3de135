/-
  YtgmlimipejcpgaaAmU: a step of the proof of a law of the program: what this text proves holds under the hypotheses that its theorems name, and no others.
-/
import Derived.Test.YtgmlimipejcpgaaAmT
/-! AM, part U: loops whose head is told by the temps that turn; loops over a list; values cut to what is seen. -/
set_option linter.unusedVariables false
set_option linter.unusedSimpArgs false
namespace Go.AM

/-- The temps of a state that stay. -/
def pickTm (tm : List (Nat × V)) : List Nat → List (Nat × V)
  | [] => []
  | t :: r => (t, lk tm t) :: pickTm tm r

section
variable {P : Program} {ge : GEnv} {st : St} {Q : Exit → St → Prop}

/-- The state at the head of a loop: the index, what turns, what stays. -/
def headSt (st : St) (L : List Nat) (vs : List (Nat × V)) (h : List B) : St := ⟨st.n, vs ++ pickTm st.tm L, h⟩

/-- A loop whose head is told by what turns (vs, H) and the temps that stay (L). -/
theorem AW_loopL {σ : Type} (L : List Nat) (vs : σ → List (Nat × V)) (H : σ → List B) (I : σ → Prop) (μ : σ → Nat) {c : Code} (x0 : σ) (h0 : I x0)
    (hst : Weak st (headSt st L (vs x0) (H x0))) (hlen : ∀ x, I x → (H x).length = st.h.length)
    (round : ∀ x, I x → AW P ge c (SThen (fun s => ∃ x', I x' ∧ μ x' < μ x ∧ Weak s (headSt st L (vs x') (H x'))) Q) (headSt st L (vs x) (H x))) : AW P ge (.loop c) Q st :=
  AW_loop (fun x => headSt st L (vs x) (H x)) I μ h0 hst hlen round

/-- A loop over a list, element by element, told by a function of the rest of the list. -/
theorem AW_range {α acc ρ : Type} (l : List α) (ti : Nat) (L : List Nat) (vs : acc → List (Nat × V)) (H : acc → List B) (J : Nat → acc → Prop) (F : List α → acc → ρ) {c : Code} (a0 : acc) {r : ρ}
    (hr : F l a0 = r) (hJ : J 0 a0) (hst : Weak st (headSt st L ((ti, .int .i64 ((0 : Nat) : Int)) :: vs a0) (H a0))) (hlen : ∀ i a, J i a → (H a).length = st.h.length)
    (body : ∀ (i : Nat) (a : acc) (x : α), l[i]? = some x → (hlt : i < l.length) → l[i] = x → J i a → F (x :: l.drop (i + 1)) a = r →
      AW P ge c (SThen (fun s => ∃ a', F (l.drop (i + 1)) a' = r ∧ J (i + 1) a' ∧ Weak s (headSt st L ((ti, .int .i64 ((i + 1 : Nat) : Int)) :: vs a') (H a'))) Q) (headSt st L ((ti, .int .i64 (i : Int)) :: vs a) (H a)))
    (done : ∀ a, J l.length a → F [] a = r → AW P ge c (SThen (fun _ => False) Q) (headSt st L ((ti, .int .i64 (l.length : Int)) :: vs a) (H a))) : AW P ge (.loop c) Q st := by
  refine AW_loop (fun x : Nat × acc => headSt st L ((ti, .int .i64 (x.1 : Int)) :: vs x.2) (H x.2)) (fun x => x.1 ≤ l.length ∧ J x.1 x.2 ∧ F (l.drop x.1) x.2 = r) (fun x => l.length - x.1) (x0 := (0, a0))
    ⟨Nat.zero_le _, hJ, hr⟩ hst (fun x hx => hlen x.1 x.2 hx.2.1) ?_
  rintro ⟨i, a⟩ ⟨h1, h2, h3⟩
  simp only at h1 h2 h3
  rcases Nat.lt_or_ge i l.length with hlt | hge
  · have hx : l[i]? = some l[i] := List.getElem?_eq_getElem hlt
    rw [List.drop_eq_getElem_cons hlt] at h3
    refine (body i a l[i] hx hlt rfl h2 h3).mono fun e s h => ?_
    cases e <;> simp only [SThen] at h ⊢
    case normal =>
      obtain ⟨a', k1, k2, k3⟩ := h
      exact ⟨(i + 1, a'), ⟨hlt, k2, k1⟩, by simp only; omega, k3⟩
    all_goals exact h
  · have hi : i = l.length := by omega
    subst hi
    rw [List.drop_of_length_le (Nat.le_refl _)] at h3
    refine (done a h2 h3).mono fun e s h => ?_
    cases e <;> simp only [SThen] at h ⊢
    all_goals first | exact h.elim | exact h
end

/-! ### Values cut to what is seen -/
mutual
def V.trim : V → V
  | .vec xs len => .vec (V.trimR len xs) len
  | .agg cs => .agg (V.trims cs)
  | .tup cs => .tup (V.trims cs)
  | .fp cs off => .fp (V.trims cs) off
  | .fn f a b => .fn f (V.trims a) (V.trims b)
  | .ifc t v => .ifc t (V.trim v)
  | v => v
def V.trims : List V → List V
  | [] => []
  | v :: r => V.trim v :: V.trims r
def V.trimR : Nat → List (List V) → List (List V)
  | 0, _ => []
  | _ + 1, [] => []
  | n + 1, x :: r => V.trims x :: V.trimR n r
end

theorem trims_eq : ∀ cs : List V, V.trims cs = cs.map V.trim
  | [] => rfl
  | v :: r => by rw [V.trims, List.map_cons, trims_eq r]
theorem trimR_eq : ∀ (n : Nat) (xs : List (List V)), V.trimR n xs = (xs.take n).map V.trims
  | 0, xs => by simp [V.trimR]
  | n + 1, [] => by simp [V.trimR]
  | n + 1, x :: r => by rw [V.trimR, List.take_succ_cons, List.map_cons, trimR_eq n r]

theorem R.trim {G : Gh} {w : World} {fr : Bool} {v : V} {c : Value} (h : R G w fr v c) : R G w fr v.trim c := by
  have tg : ∀ {cs : List V} {j : Nat} {v : V}, (V.trims cs)[j]? = some v → ∃ u, cs[j]? = some u ∧ v = u.trim := fun {cs j v} hv => by
    rw [trims_eq, List.getElem?_map] at hv
    obtain ⟨u, h1, h2⟩ := Option.map_eq_some_iff.1 hv
    exact ⟨u, h1, h2.symm⟩
  have rg : ∀ {xs : List (List V)} {n i : Nat} {x : List V}, (V.trimR n xs)[i]? = some x → ∃ y, xs[i]? = some y ∧ x = V.trims y := fun {xs n i x} hx => by
    rw [trimR_eq, List.getElem?_map] at hx
    obtain ⟨y, h1, h2⟩ := Option.map_eq_some_iff.1 hx
    rw [List.getElem?_take] at h1
    split at h1
    · exact ⟨y, h1, h2.symm⟩
    · cases h1
  induction h with
  | emp h => exact .emp h
  | @vec _ _ _ _ _ _ sz h1 h2 h3 hl hc ho hr ih =>
    refine .vec (sz := sz) (by rw [trimR_eq, List.length_map, List.length_take]; omega) (by rw [trimR_eq, List.length_map, List.length_take]; omega) h3 (fun i x hx => ?_) (fun i x j v hx hv => ?_) (fun i x j v hx hv => ?_) (fun i x j v hx hv => ?_)
    · obtain ⟨y, h4, rfl⟩ := rg hx; rw [trims_eq, List.length_map]; exact hl i y h4
    · obtain ⟨y, h4, rfl⟩ := rg hx; obtain ⟨u, h5, rfl⟩ := tg hv; exact hc i y j u h4 h5
    · obtain ⟨y, h4, rfl⟩ := rg hx; obtain ⟨u, h5, rfl⟩ := tg hv; exact ho i y j u h4 h5
    · obtain ⟨y, h4, rfl⟩ := rg hx; obtain ⟨u, h5, rfl⟩ := tg hv; exact ih i y j u h4 h5
  | fp hc ho hr ih =>
    refine .fp (fun j v hv => ?_) (fun j v hv => ?_) (fun j v hv => ?_)
    · obtain ⟨u, h5, rfl⟩ := tg hv; exact hc j u h5
    · obtain ⟨u, h5, rfl⟩ := tg hv; exact ho j u h5
    · obtain ⟨u, h5, rfl⟩ := tg hv; exact ih j u h5
  | agg hs ho hr ih =>
    refine .agg (by rw [trims_eq, List.length_map]; exact hs) (fun i v hv => ?_) (fun i v hv => ?_)
    · obtain ⟨u, h5, rfl⟩ := tg hv; exact ho i u h5
    · obtain ⟨u, h5, rfl⟩ := tg hv; exact ih i u h5
  | tup hs hr ih =>
    refine .tup (by rw [trims_eq, List.length_map]; exact hs) (fun i v hv => ?_)
    obtain ⟨u, h5, rfl⟩ := tg hv; exact ih i u h5
  | fn hs hr hs' hr' ih ih' =>
    refine .fn (by rw [trims_eq, List.length_map]; exact hs) (fun i v hv => ?_) (by rw [trims_eq, List.length_map]; exact hs') (fun i v hv => ?_)
    · obtain ⟨u, h5, rfl⟩ := tg hv; exact ih i u h5
    · obtain ⟨u, h5, rfl⟩ := tg hv; exact ih' i u h5
  | ifc hr ih => exact .ifc ih
  | junk => exact .junk
  | void => exact .void
  | bool => exact .bool
  | int => exact .int
  | str => exact .str
  | nils => exact .nils
  | nilp => exact .nilp
  | nilf => exact .nilf
  | nilm => exact .nilm
  | nili => exact .nili
  | ref hb hg hm hle => exact .ref hb hg hm hle
  | refn hb hg hm => exact .refn hb hg hm
  | ptr hb hm => exact .ptr hb hm
  | ep hb hg hm => exact .ep hb hg hm
  | mp hb hm => exact .mp hb hm

/-- A contract for what is seen of the arguments. -/
theorem PCall.trim {P : Program} {ge : GEnv} {f : Nat} {args args' : List V} {r : V} (hc : PCall P ge f args' r) (ha : V.trims args = args') : PCall P ge f args r := by
  subst ha
  refine ⟨hc.1, fun G w cargs h hg => hc.2 G w cargs ⟨by rw [trims_eq, List.length_map]; exact h.1, fun i v hv => ?_⟩ hg⟩
  rw [trims_eq, List.getElem?_map] at hv
  obtain ⟨u, h1, rfl⟩ := Option.map_eq_some_iff.1 hv
  exact (h.2 i u h1).trim

/-- A row of one's own, frozen. -/
theorem PCall.freeze {P : Program} {ge : GEnv} {f : Nat} {args : List V} {T : TypeId} {xs : List (List V)} (hc : PCall P ge f args (.own T xs)) : PCall P ge f args (.vec xs xs.length) := by
  refine ⟨hc.1, fun G w cargs ha hg => (hc.2 G w cargs ha hg).mono ?_⟩
  rintro e w' ⟨c, G', rfl, kept, h0, ⟨rfl, rfl⟩ | ⟨k, cap, arr, rfl, hb, hh, hfz, hs, hl, hcm, hlen, hc⟩⟩
  · exact ⟨_, G', rfl, kept, .emp (Nat.zero_le _)⟩
  · have hk : k < w'.heap.size := by
      rcases Nat.lt_or_ge k w'.heap.size with h | h
      · exact h
      · rw [Array.getElem?_eq_none h] at hh; cases hh
    have hle : ∀ j, G'.fz j ≤ (if j = k then arr.size else G'.fz j) := fun j => by
      split
      · rename_i h; subst h; omega
      · exact Nat.le_refl _
    refine ⟨_, G'.withFz fun j => if j = k then arr.size else G'.fz j, rfl, ⟨kept.grow, fun j hj => ?_, fun j hj => ?_⟩, ?_⟩
    · show (if j = k then arr.size else G'.fz j) = G.fz j
      rw [if_neg (by omega)]; exact kept.fz j hj
    · show (if j = k then arr.size else G'.fz j) = 0
      rw [if_neg (by omega)]; exact kept.fzlt j hj
    · have hlt : ∀ (i : Nat) (x : List V) (j : Nat) (v : V), xs[i]? = some x → x[j]? = some v → i * szOf P T + j < arr.size := fun i x j v hx hv => by
        have h1 := hlen i x hx
        have h2 : i < xs.length := (List.getElem?_eq_some_iff.1 hx).1
        have h3 : j < x.length := (List.getElem?_eq_some_iff.1 hv).1
        have h4 : (i + 1) * szOf P T ≤ cap * szOf P T := Nat.mul_le_mul_right _ (by omega)
        rw [hs]; rw [Nat.add_mul] at h4; omega
      have hcd : ∀ (o : Nat), o < arr.size → w'.cell? ⟨k, o, none⟩ = some (arr.getD o undef) := fun o ho => arr_cell hh ho
      have hd : ∀ (o : Nat), o < arr.size → cellD w' k o = arr.getD o undef := fun o ho => by unfold cellD; rw [hcd o ho]; rfl
      refine R.vec (sz := szOf P T) (Nat.le_refl _) hl hcm hlen (fun i x j v hx hv => ?_) (fun i x j v hx hv => ?_) (fun i x j v hx hv => ?_)
      · have := hlt i x j v hx hv
        rw [Nat.zero_add]
        refine ⟨by rw [hcd _ this]; rfl, ?_⟩
        show _ < if k = k then arr.size else G'.fz k
        rw [if_pos rfl]; exact this
      · rw [Nat.zero_add, hd _ (hlt i x j v hx hv)]; exact (hc i x j v hx hv).1
      · rw [Nat.zero_add, hd _ (hlt i x j v hx hv)]; exact ((hc i x j v hx hv).2).fz hle
attribute [simp] pickTm headSt
end Go.AM
