/-
  YtgmlimipejcpgaaGreatDoorPart06: steps of the proof of a law of the program: what these texts prove holds under the hypotheses that their theorems name, and no others.
-/
import Derived.Test.YtgmlimipejcpgaaGreatDoorPart05
import Derived.MapKept
import Derived.Test.YtgmlimipejcpgaaGreatDoorPart04
import Derived.Test.YtgmlimipejcpgaaGreatDoorRows
import Derived.OpenShut
import Derived.Test.YtgmlimipejcpgaaGreatDoorCards
import Derived.Test.YtgmlimipejcpgaaGreatDoorTie
import Derived.WalkKit
import Derived.ProofKit
import Derived.ChangeOld
import Derived.Carry
import Derived.JoinedCond
import Derived.Deep.DeepHandedRow
section
/-! AM, part T: a cut, where branches meet again. -/
set_option linter.unusedVariables false
namespace Go.AM
section
variable {P : Program} {ge : GEnv} {st : St} {Q : Exit → St → Prop}
def SMeet (S : St) (Q : Exit → St → Prop) : Exit → St → Prop
  | .normal, s => Weak s S ∧ S.h.length = s.h.length
  | e, s => Q e s
theorem AW_mid {id : Nat} {ops : Array Oper} {b : Bool} {y z : Code} (S : St) (h1 : AW P ge (.seq (.region id ops b) y) (SMeet S Q) st) (h2 : AW P ge z Q S) :
    AW P ge (.seq (.seq (.region id ops b) y) z) Q st := by
  refine AW_seq (h1.mono fun e s h => ?_)
  cases e <;> simp only [SMeet, SThen] at h ⊢
  case normal => exact h2.weak h.1 h.2
  all_goals exact h
theorem AW_mid1 {id : Nat} {ops : Array Oper} {b : Bool} {z : Code} (S : St) (h1 : AW P ge (.region id ops b) (SMeet S Q) st) (h2 : AW P ge z Q S) :
    AW P ge (.seq (.region id ops b) z) Q st := by
  refine AW_seq (h1.mono fun e s h => ?_)
  cases e <;> simp only [SMeet, SThen] at h ⊢
  case normal => exact h2.weak h.1 h.2
  all_goals exact h
/-- Held back from a walk. -/
structure Hold (p : Prop) : Prop where
  mk' ::
  get : p
theorem Hold.mk {p : Prop} (h : Hold p) : p := h.get
theorem Hold.out {p : Prop} (h : p) : Hold p := ⟨h⟩
theorem SMeet_normal {S s : St} (h : Weak s S) (hl : S.h.length = s.h.length) : SMeet S Q .normal s := ⟨h, hl⟩
theorem SMeet_ret {S s : St} (h : Q .ret s) : SMeet S Q .ret s := h
theorem SMeet_exit {S s : St} {id : Nat} (h : Q (.exit id) s) : SMeet S Q (.exit id) s := h
end
end Go.AM
end

section
/-! AM, part U: loops whose head is told by the temps that turn; loops over a list; values cut to what is seen. -/
set_option linter.unusedVariables false
set_option linter.unusedSimpArgs false
namespace Go.AM

/-- The temps of a state that stay. -/
def pickTm (tm : List (Nat × V)) : List Nat → List (Nat × V)
  | [] => []
  | t :: r => (t, lk tm t) :: pickTm tm r

section
variable {P : Program} {ge : GEnv} {st : St} {Q : Exit → St → Prop}

/-- The state at the head of a loop: the index, what turns, what stays. -/
def headSt (st : St) (L : List Nat) (vs : List (Nat × V)) (h : List B) : St := ⟨st.n, vs ++ pickTm st.tm L, h⟩

/-- A loop whose head is told by what turns (vs, H) and the temps that stay (L). -/
theorem AW_loopL {σ : Type} (L : List Nat) (vs : σ → List (Nat × V)) (H : σ → List B) (I : σ → Prop) (μ : σ → Nat) {c : Code} (x0 : σ) (h0 : I x0)
    (hst : Weak st (headSt st L (vs x0) (H x0))) (hlen : ∀ x, I x → (H x).length = st.h.length)
    (round : ∀ x, I x → AW P ge c (SThen (fun s => ∃ x', I x' ∧ μ x' < μ x ∧ Weak s (headSt st L (vs x') (H x'))) Q) (headSt st L (vs x) (H x))) : AW P ge (.loop c) Q st :=
  AW_loop (fun x => headSt st L (vs x) (H x)) I μ h0 hst hlen round

/-- A loop over a list, element by element, told by a function of the rest of the list. -/
theorem AW_range {α acc ρ : Type} (l : List α) (ti : Nat) (L : List Nat) (vs : acc → List (Nat × V)) (H : acc → List B) (J : Nat → acc → Prop) (F : List α → acc → ρ) {c : Code} (a0 : acc) {r : ρ}
    (hr : F l a0 = r) (hJ : J 0 a0) (hst : Weak st (headSt st L ((ti, .int .i64 ((0 : Nat) : Int)) :: vs a0) (H a0))) (hlen : ∀ i a, J i a → (H a).length = st.h.length)
    (body : ∀ (i : Nat) (a : acc) (x : α), l[i]? = some x → (hlt : i < l.length) → l[i] = x → J i a → F (x :: l.drop (i + 1)) a = r →
      AW P ge c (SThen (fun s => ∃ a', F (l.drop (i + 1)) a' = r ∧ J (i + 1) a' ∧ Weak s (headSt st L ((ti, .int .i64 ((i + 1 : Nat) : Int)) :: vs a') (H a'))) Q) (headSt st L ((ti, .int .i64 (i : Int)) :: vs a) (H a)))
    (done : ∀ a, J l.length a → F [] a = r → AW P ge c (SThen (fun _ => False) Q) (headSt st L ((ti, .int .i64 (l.length : Int)) :: vs a) (H a))) : AW P ge (.loop c) Q st := by
  refine AW_loop (fun x : Nat × acc => headSt st L ((ti, .int .i64 (x.1 : Int)) :: vs x.2) (H x.2)) (fun x => x.1 ≤ l.length ∧ J x.1 x.2 ∧ F (l.drop x.1) x.2 = r) (fun x => l.length - x.1) (x0 := (0, a0))
    ⟨Nat.zero_le _, hJ, hr⟩ hst (fun x hx => hlen x.1 x.2 hx.2.1) ?_
  rintro ⟨i, a⟩ ⟨h1, h2, h3⟩
  simp only at h1 h2 h3
  rcases Nat.lt_or_ge i l.length with hlt | hge
  · have hx : l[i]? = some l[i] := List.getElem?_eq_getElem hlt
    rw [List.drop_eq_getElem_cons hlt] at h3
    refine (body i a l[i] hx hlt rfl h2 h3).mono fun e s h => ?_
    cases e <;> simp only [SThen] at h ⊢
    case normal =>
      obtain ⟨a', k1, k2, k3⟩ := h
      exact ⟨(i + 1, a'), ⟨hlt, k2, k1⟩, by simp only; omega, k3⟩
    all_goals exact h
  · have hi : i = l.length := by omega
    subst hi
    rw [List.drop_of_length_le (Nat.le_refl _)] at h3
    refine (done a h2 h3).mono fun e s h => ?_
    cases e <;> simp only [SThen] at h ⊢
    all_goals first | exact h.elim | exact h
/-- A loop over a list that only looks. -/
theorem AW_scan {α ρ : Type} (l : List α) (ti : Nat) (L : List Nat) (F : List α → ρ) {c : Code} {r : ρ} (hr : F l = r) (hst : Weak st (headSt st L [(ti, .int .i64 ((0 : Nat) : Int))] st.h))
    (body : ∀ (i : Nat) (x : α), l[i]? = some x → (hlt : i < l.length) → l[i] = x → F (x :: l.drop (i + 1)) = r →
      AW P ge c (SThen (fun s => F (l.drop (i + 1)) = r ∧ Weak s (headSt st L [(ti, .int .i64 ((i + 1 : Nat) : Int))] st.h)) Q) (headSt st L [(ti, .int .i64 (i : Int))] st.h))
    (done : F [] = r → AW P ge c (SThen (fun _ => False) Q) (headSt st L [(ti, .int .i64 (l.length : Int))] st.h)) : AW P ge (.loop c) Q st :=
  AW_range l ti L (fun _ : Unit => []) (fun _ => st.h) (fun _ _ => True) (fun l _ => F l) () hr trivial hst (fun _ _ _ => rfl)
    (fun i _ x h1 h2 h3 _ h4 => (body i x h1 h2 h3 h4).mono fun e s h => by
      cases e <;> simp only [SThen] at h ⊢
      case normal => exact ⟨(), h.1, trivial, h.2⟩
      all_goals exact h) (fun _ _ h => done h)
end

/-! ### Values cut to what is seen -/
mutual
def V.trim : V → V
  | .vec xs len => .vec (V.trimR len xs) len
  | .agg cs => .agg (V.trims cs)
  | .tup cs => .tup (V.trims cs)
  | .fp cs off => .fp (V.trims cs) off
  | .fn f a b => .fn f (V.trims a) (V.trims b)
  | .ifc t v => .ifc t (V.trim v)
  | v => v
def V.trims : List V → List V
  | [] => []
  | v :: r => V.trim v :: V.trims r
def V.trimR : Nat → List (List V) → List (List V)
  | 0, _ => []
  | _ + 1, [] => []
  | n + 1, x :: r => V.trims x :: V.trimR n r
end

theorem trims_eq : ∀ cs : List V, V.trims cs = cs.map V.trim
  | [] => rfl
  | v :: r => by rw [V.trims, List.map_cons, trims_eq r]
theorem trimR_eq : ∀ (n : Nat) (xs : List (List V)), V.trimR n xs = (xs.take n).map V.trims
  | 0, xs => by simp [V.trimR]
  | n + 1, [] => by simp [V.trimR]
  | n + 1, x :: r => by rw [V.trimR, List.take_succ_cons, List.map_cons, trimR_eq n r]

theorem R.trim {G : Gh} {w : World} {fr : Bool} {v : V} {c : Value} (h : R G w fr v c) : R G w fr v.trim c := by
  have tg : ∀ {cs : List V} {j : Nat} {v : V}, (V.trims cs)[j]? = some v → ∃ u, cs[j]? = some u ∧ v = u.trim := fun {cs j v} hv => by
    rw [trims_eq, List.getElem?_map] at hv
    obtain ⟨u, h1, h2⟩ := Option.map_eq_some_iff.1 hv
    exact ⟨u, h1, h2.symm⟩
  have rg : ∀ {xs : List (List V)} {n i : Nat} {x : List V}, (V.trimR n xs)[i]? = some x → ∃ y, xs[i]? = some y ∧ x = V.trims y := fun {xs n i x} hx => by
    rw [trimR_eq, List.getElem?_map] at hx
    obtain ⟨y, h1, h2⟩ := Option.map_eq_some_iff.1 hx
    rw [List.getElem?_take] at h1
    split at h1
    · exact ⟨y, h1, h2.symm⟩
    · cases h1
  induction h with
  | emp h => exact .emp h
  | @vec _ _ _ _ _ _ sz h1 h2 h3 hl hc ho hr ih =>
    refine .vec (sz := sz) (by rw [trimR_eq, List.length_map, List.length_take]; omega) (by rw [trimR_eq, List.length_map, List.length_take]; omega) h3 (fun i x hx => ?_) (fun i x j v hx hv => ?_) (fun i x j v hx hv => ?_) (fun i x j v hx hv => ?_)
    · obtain ⟨y, h4, rfl⟩ := rg hx; rw [trims_eq, List.length_map]; exact hl i y h4
    · obtain ⟨y, h4, rfl⟩ := rg hx; obtain ⟨u, h5, rfl⟩ := tg hv; exact hc i y j u h4 h5
    · obtain ⟨y, h4, rfl⟩ := rg hx; obtain ⟨u, h5, rfl⟩ := tg hv; exact ho i y j u h4 h5
    · obtain ⟨y, h4, rfl⟩ := rg hx; obtain ⟨u, h5, rfl⟩ := tg hv; exact ih i y j u h4 h5
  | fp hc ho hr ih =>
    refine .fp (fun j v hv => ?_) (fun j v hv => ?_) (fun j v hv => ?_)
    · obtain ⟨u, h5, rfl⟩ := tg hv; exact hc j u h5
    · obtain ⟨u, h5, rfl⟩ := tg hv; exact ho j u h5
    · obtain ⟨u, h5, rfl⟩ := tg hv; exact ih j u h5
  | agg hs ho hr ih =>
    refine .agg (by rw [trims_eq, List.length_map]; exact hs) (fun i v hv => ?_) (fun i v hv => ?_)
    · obtain ⟨u, h5, rfl⟩ := tg hv; exact ho i u h5
    · obtain ⟨u, h5, rfl⟩ := tg hv; exact ih i u h5
  | tup hs hr ih =>
    refine .tup (by rw [trims_eq, List.length_map]; exact hs) (fun i v hv => ?_)
    obtain ⟨u, h5, rfl⟩ := tg hv; exact ih i u h5
  | fn hs hr hs' hr' ih ih' =>
    refine .fn (by rw [trims_eq, List.length_map]; exact hs) (fun i v hv => ?_) (by rw [trims_eq, List.length_map]; exact hs') (fun i v hv => ?_)
    · obtain ⟨u, h5, rfl⟩ := tg hv; exact ih i u h5
    · obtain ⟨u, h5, rfl⟩ := tg hv; exact ih' i u h5
  | ifc hr ih => exact .ifc ih
  | junk => exact .junk
  | void => exact .void
  | bool => exact .bool
  | int => exact .int
  | str => exact .str
  | nils => exact .nils
  | nilp => exact .nilp
  | nilf => exact .nilf
  | nilm => exact .nilm
  | nili => exact .nili
  | ref hb hg hm hle => exact .ref hb hg hm hle
  | refn hb hg hm => exact .refn hb hg hm
  | ptr hb hm => exact .ptr hb hm
  | ep hb hg hm => exact .ep hb hg hm
  | mp hb hm => exact .mp hb hm

/-- A contract for what is seen of the arguments. -/
theorem PCall.trim {P : Program} {ge : GEnv} {f : Nat} {args args' : List V} {r : V} (hc : PCall P ge f args' r) (ha : V.trims args = args') : PCall P ge f args r := by
  subst ha
  refine ⟨hc.1, fun G w cargs h hg => hc.2 G w cargs ⟨by rw [trims_eq, List.length_map]; exact h.1, fun i v hv => ?_⟩ hg⟩
  rw [trims_eq, List.getElem?_map] at hv
  obtain ⟨u, h1, rfl⟩ := Option.map_eq_some_iff.1 hv
  exact (h.2 i u h1).trim

/-- A row of one's own, frozen. -/
theorem PCall.freeze {P : Program} {ge : GEnv} {f : Nat} {args : List V} {T : TypeId} {xs : List (List V)} (hc : PCall P ge f args (.own T xs)) : PCall P ge f args (.vec xs xs.length) := by
  refine ⟨hc.1, fun G w cargs ha hg => (hc.2 G w cargs ha hg).mono ?_⟩
  rintro e w' ⟨c, G', rfl, kept, h0, ⟨rfl, rfl⟩ | ⟨k, cap, arr, rfl, hb, hh, hfz, hs, hl, hcm, hlen, hc⟩⟩
  · exact ⟨_, G', rfl, kept, .emp (Nat.zero_le _)⟩
  · have hk : k < w'.heap.size := by
      rcases Nat.lt_or_ge k w'.heap.size with h | h
      · exact h
      · rw [Array.getElem?_eq_none h] at hh; cases hh
    have hle : ∀ j, G'.fz j ≤ (if j = k then arr.size else G'.fz j) := fun j => by
      split
      · rename_i h; subst h; omega
      · exact Nat.le_refl _
    refine ⟨_, G'.withFz fun j => if j = k then arr.size else G'.fz j, rfl, ⟨kept.grow, fun j hj => ?_, fun j hj => ?_⟩, ?_⟩
    · show (if j = k then arr.size else G'.fz j) = G.fz j
      rw [if_neg (by omega)]; exact kept.fz j hj
    · show (if j = k then arr.size else G'.fz j) = 0
      rw [if_neg (by omega)]; exact kept.fzlt j hj
    · have hlt : ∀ (i : Nat) (x : List V) (j : Nat) (v : V), xs[i]? = some x → x[j]? = some v → i * szOf P T + j < arr.size := fun i x j v hx hv => by
        have h1 := hlen i x hx
        have h2 : i < xs.length := (List.getElem?_eq_some_iff.1 hx).1
        have h3 : j < x.length := (List.getElem?_eq_some_iff.1 hv).1
        have h4 : (i + 1) * szOf P T ≤ cap * szOf P T := Nat.mul_le_mul_right _ (by omega)
        rw [hs]; rw [Nat.add_mul] at h4; omega
      have hcd : ∀ (o : Nat), o < arr.size → w'.cell? ⟨k, o, none⟩ = some (arr.getD o undef) := fun o ho => arr_cell hh ho
      have hd : ∀ (o : Nat), o < arr.size → cellD w' k o = arr.getD o undef := fun o ho => by unfold cellD; rw [hcd o ho]; rfl
      refine R.vec (sz := szOf P T) (Nat.le_refl _) hl hcm hlen (fun i x j v hx hv => ?_) (fun i x j v hx hv => ?_) (fun i x j v hx hv => ?_)
      · have := hlt i x j v hx hv
        rw [Nat.zero_add]
        refine ⟨by rw [hcd _ this]; rfl, ?_⟩
        show _ < if k = k then arr.size else G'.fz k
        rw [if_pos rfl]; exact this
      · rw [Nat.zero_add, hd _ (hlt i x j v hx hv)]; exact (hc i x j v hx hv).1
      · rw [Nat.zero_add, hd _ (hlt i x j v hx hv)]; exact ((hc i x j v hx hv).2).fz hle
attribute [simp] pickTm headSt
end Go.AM
end

section
/-! AM, part W: maps whose keys are strings. -/
set_option linter.unusedVariables false
set_option linter.unusedSimpArgs false
namespace Go.AM
open Go.MapKept

def smap (l : List (ByteArray × V)) : List (V × V) := l.map fun p => (.str p.1, p.2)
def sget (l : List (ByteArray × V)) (s : ByteArray) : Option V := (l.find? fun p => p.1 = s).map (·.2)
def sput (l : List (ByteArray × V)) (s : ByteArray) (v : V) : List (ByteArray × V) := match l.findIdx? fun p => p.1 = s with
  | some j => l.set j (s, v)
  | none => l ++ [(s, v)]

section
variable {P : Program} {ge : GEnv} {st : St} {Q : Exit → St → Prop}
variable {d : Option Tmp} {t : TypeId} {p : String} {af : Array Edge} {g : Option (Nat × Bool)}

theorem S_makeMap {T : TypeId} : OpS P ge st ⟨d, .makeMap T none, t, p, af, g⟩ (.mp st.h.length) (st.h ++ [.map []]) := by
  intro G a w hr
  have hk : ∀ k', (G.push (some w.heap.size) 1 1).at G.n (.map []) = some k' → w.heap.size ≤ k' := fun k' h => by
    simp [Gh.at, Gh.push] at h; omega
  have hrb : RB P (G.push (some w.heap.size) 1 1) (w.alloc (.map #[] 0)) G.n (.map []) :=
    ⟨by simp [Gh.push], w.heap.size, #[], 0, by simp [Gh.push], heap_alloc_new w _, rfl, fun i e c h => by simp at h⟩
  refine ⟨.map (some w.heap.size), G.push (some w.heap.size) 1 1, w.alloc (.map #[] 0), .inl ?_, hr.rh.push (.alloc w _) hrb hk, ?_, .push hr.rh (.alloc w _) hk⟩
  · simp [execOp, Instr.makeMap]
  · rw [hr.rh.n]; exact .mp (by simp [Gh.push]) (by simp [Gh.push])

/-- The keys of a map's entries are the strings. -/
theorem ents_keys {G : Gh} {w : World} {l : List (ByteArray × V)} {ents : Array MapEntry} (hs : ents.size = (smap l).length)
    (hc : ∀ (i : Nat) (e : V × V) (c : MapEntry), (smap l)[i]? = some e → ents[i]? = some c → R G w true e.1 c.key ∧ R G w true e.2 c.val) :
    (∀ x ∈ ents.toList, IsKey .string x.key) ∧ ∀ (j : Nat) (c : MapEntry), ents[j]? = some c → ∃ q, l[j]? = some q ∧ c.key = .string q.1 ∧ R G w true q.2 c.val := by
  have key : ∀ (j : Nat) (c : MapEntry), ents[j]? = some c → ∃ q, l[j]? = some q ∧ c.key = .string q.1 ∧ R G w true q.2 c.val := fun j c hj => by
    have hlt := (Array.getElem?_eq_some_iff.1 hj).1
    have hl : j < l.length := by rw [hs] at hlt; simpa [smap] using hlt
    have he : (smap l)[j]? = some (.str l[j].1, l[j].2) := by simp [smap, hl]
    obtain ⟨h1, h2⟩ := hc j _ c he hj
    exact ⟨l[j], List.getElem?_eq_getElem hl, h1.inv_str, h2⟩
  refine ⟨fun x hx => ?_, key⟩
  obtain ⟨j, hj⟩ := List.getElem?_of_mem hx
  obtain ⟨q, _, hq, _⟩ := key j x (by simpa using hj)
  rw [hq]; trivial

theorem find_at {l : List (ByteArray × V)} (hn : (l.map (·.1)).Nodup) {j : Nat} {q : ByteArray × V} (hj : l[j]? = some q) : sget l q.1 = some q.2 ∧ l.findIdx? (fun p => p.1 = q.1) = some j := by
  induction l generalizing j with
  | nil => simp at hj
  | cons a r ih =>
    rw [List.map_cons, List.nodup_cons] at hn
    cases j with
    | zero =>
      simp at hj; subst hj
      exact ⟨by simp [sget], by simp [List.findIdx?_cons]⟩
    | succ j =>
      have hj' : r[j]? = some q := by simpa using hj
      obtain ⟨h1, h2⟩ := ih hn.2 hj'
      have hne : ¬ a.1 = q.1 := fun e => hn.1 (by rw [e]; exact List.mem_map_of_mem (List.mem_of_getElem? hj'))
      refine ⟨?_, ?_⟩
      · unfold sget at h1 ⊢; rw [List.find?_cons]; simp only [hne, decide_false]; exact h1
      · rw [List.findIdx?_cons]; simp [hne, h2]
theorem find_none {l : List (ByteArray × V)} {s : ByteArray} (h : ∀ q ∈ l, q.1 ≠ s) : sget l s = none ∧ l.findIdx? (fun p => p.1 = s) = none := by
  constructor
  · unfold sget
    rw [List.find?_eq_none.2 (fun x hx => by simpa using h x hx)]; rfl
  · rw [List.findIdx?_eq_none_iff]; intro x hx; simpa using h x hx

theorem inv_mp {G : Gh} {w : World} {fr : Bool} {b : Nat} {c : Value} (h : R G w fr (.mp b) c) : ∃ k, c = .map (some k) ∧ G.m b 0 = some k := by
  cases h; exact ⟨_, rfl, by assumption⟩

theorem run_zero {et : TypeId} {zv : Value} (hz : (P.info? et).bind (·.zero) = some zv) (w : World) : (zeroValue et).run P w = .ok zv w := by
  cases hi : P.info? et with
  | none => rw [hi] at hz; cases hz
  | some i => rw [hi] at hz; simp only [Option.bind_some] at hz; simp [zeroValue, typeInfo, hi, hz]

theorem S_lookup {T kt et : TypeId} {x y : Operand} {b : Nat} {l : List (ByteArray × V)} {s : ByteArray} {zv : Value} (hT : P.underlying T = some (.map kt et)) (hkt : P.underlying kt = some .string) (hz : (P.info? et).bind (·.zero) = some zv)
    (hx : ev ge st.tm x = .mp b) (hb : st.h[b]? = some (.map (smap l))) (hy : ev ge st.tm y = .str s) (hn : (l.map (·.1)).Nodup) :
    OpS P ge st ⟨d, .lookup T x y false, t, p, af, g⟩ ((sget l s).getD (V.ofCell zv)) st.h := by
  refine OpS_pure fun G a w hr => ?_
  have hvx := hr.ev x
  have hvy := hr.ev y
  rw [hx] at hvx
  rw [hy] at hvy
  obtain ⟨k, hck, hm⟩ := inv_mp hvx
  have hcy := hvy.inv_str
  obtain ⟨h00, k', ents, clock, hm', hh, hs, hc⟩ := hr.rh.bl b _ hb
  rw [hm] at hm'; cases hm'
  obtain ⟨hks, hkey⟩ := ents_keys hs hc
  rcases findNow_spec (d := .string) (k := .string s) trivial ents.toList 0 hks with ⟨h1, h2⟩ | ⟨j, e, h1, h2, h3⟩
  · have hnone : sget l s = none := (find_none fun q hq e => by
      obtain ⟨j, hj⟩ := List.getElem?_of_mem hq
      have hl := (List.getElem?_eq_some_iff.1 hj).1
      have hl2 : j < ents.size := by rw [hs]; simpa [smap] using hl
      obtain ⟨q', h4, h5, _⟩ := hkey j ents[j] (Array.getElem?_eq_getElem hl2)
      rw [hj] at h4; cases h4
      exact h2 ents[j] (Array.getElem_mem_toList hl2) (by rw [h5, e])).1
    rw [hnone]
    refine ⟨zv, ?_, .ofCell zv⟩
    simp [execOp, Instr.lookup, hck, hcy, run_underlying hT, MapKept.run_getObj_map hh, MapKept.run_checkKey (d := .string) (k := .string s) hkt trivial, MapKept.run_findKey hkt h1, run_zero hz, Result.andThen]
  · obtain ⟨q, h4, h5, h6⟩ := hkey j e (by simpa using h2)
    have hqs : q.1 = s := by rw [h5] at h3; cases h3; rfl
    have := (find_at hn h4).1
    rw [hqs] at this
    rw [this]
    refine ⟨e.val, ?_, h6.weak rfl⟩
    simp [execOp, Instr.lookup, hck, hcy, run_underlying hT, MapKept.run_getObj_map hh, MapKept.run_checkKey (d := .string) (k := .string s) hkt trivial, MapKept.run_findKey hkt h1, Result.andThen]

theorem S_mapUpdate {T kt et : TypeId} {x y z : Operand} {b : Nat} {l : List (ByteArray × V)} {s : ByteArray} (hT : P.underlying T = some (.map kt et)) (hkt : P.underlying kt = some .string)
    (hx : ev ge st.tm x = .mp b) (hb : st.h[b]? = some (.map (smap l))) (hy : ev ge st.tm y = .str s) (hn : (l.map (·.1)).Nodup) (hv : (ev ge st.tm z).isF = true) :
    OpS P ge st ⟨d, .mapUpdate T x y z, t, p, af, g⟩ .void (st.h.set b (.map (smap (sput l s (ev ge st.tm z))))) := by
  intro G a w hr
  have hvx := hr.ev x
  have hvy := hr.ev y
  have hvz := (hr.ev z).frozen hv
  rw [hx] at hvx
  rw [hy] at hvy
  obtain ⟨k, hck, hm⟩ := inv_mp hvx
  have hcy := hvy.inv_str
  obtain ⟨h00, k', ents, clock, hm', hh, hs, hc⟩ := hr.rh.bl b _ hb
  rw [hm] at hm'; cases hm'
  obtain ⟨hks, hkey⟩ := ents_keys hs hc
  have hlt : k < w.heap.size := (Array.getElem?_eq_some_iff.1 hh).1
  have up : ∀ (ents' : Array MapEntry) (clock' : Nat) (l' : List (ByteArray × V)), ents'.size = l'.length →
      (∀ (i : Nat) (q : ByteArray × V) (c : MapEntry), l'[i]? = some q → ents'[i]? = some c → c.key = .string q.1 ∧ R G w true q.2 c.val) →
      RH P ge G (st.h.set b (.map (smap l'))) { w with heap := w.heap.setIfInBounds k (.map ents' clock') } ∧ Ext G st.h w G (st.h.set b (.map (smap l'))) { w with heap := w.heap.setIfInBounds k (.map ents' clock') } := by
    intro ents' clock' l' h1 h2
    have hother : ∀ k', k' ≠ k → (w.heap.setIfInBounds k (.map ents' clock'))[k']? = w.heap[k']? := (heap_set hh).2
    have le : GLe G w G { w with heap := w.heap.setIfInBounds k (.map ents' clock') } := ⟨fun _ => Nat.le_refl _, fun k' o ho => by
      by_cases e : k' = k
      · subst e
        simp [World.cell?, hh, (heap_set hh).1]
      · exact cell_eq (hother k' e), Nat.le_refl _, fun _ _ => Nat.le_refl _, fun _ _ _ _ => rfl, fun _ _ => rfl, fun _ _ _ _ => rfl⟩
    refine RH_upd hr.rh hb hm (by simp) hother rfl ⟨rfl, rfl⟩ le ⟨h00, k, ents', clock', hm, (heap_set hh).1, by simp [smap, h1], fun i e c he hcc => ?_⟩ hm
    rw [smap, List.getElem?_map] at he
    obtain ⟨q, hq, rfl⟩ := Option.map_eq_some_iff.1 he
    obtain ⟨h3, h4⟩ := h2 i q c hq hcc
    rw [h3]
    exact ⟨.str, h4.mono le⟩
  rcases findNow_spec (d := .string) (k := .string s) trivial ents.toList 0 hks with ⟨h1, h2⟩ | ⟨j, e, h1, h2, h3⟩
  · have hnone : l.findIdx? (fun p => p.1 = s) = none := (find_none fun q hq e => by
      obtain ⟨j, hj⟩ := List.getElem?_of_mem hq
      have hl := (List.getElem?_eq_some_iff.1 hj).1
      have hl2 : j < ents.size := by rw [hs]; simpa [smap] using hl
      obtain ⟨q', h4, h5, _⟩ := hkey j ents[j] (Array.getElem?_eq_getElem hl2)
      rw [hj] at h4; cases h4
      exact h2 ents[j] (Array.getElem_mem_toList hl2) (by rw [h5, e])).2
    have hsz : ents.size = l.length := by simpa [smap] using hs
    obtain ⟨r1, r2⟩ := up (ents.push { key := .string s, val := a.eval z, born := clock }) (clock + 1) (l ++ [(s, ev ge st.tm z)]) (by simp [hsz]) (fun i q c hq hcc => by
      rw [Array.getElem?_push] at hcc
      split at hcc
      · rename_i e
        cases hcc
        rw [hsz] at e
        subst e
        rw [List.getElem?_append_right (Nat.le_refl _), Nat.sub_self] at hq
        cases hq
        exact ⟨rfl, hvz⟩
      · have hi := (Array.getElem?_eq_some_iff.1 hcc).1
        rw [List.getElem?_append_left (by omega)] at hq
        obtain ⟨q', h4, h5, h6⟩ := hkey i c hcc
        rw [hq] at h4; cases h4
        exact ⟨h5, h6⟩)
    refine ⟨undef, G, { w with heap := w.heap.setIfInBounds k (.map (ents.push { key := .string s, val := a.eval z, born := clock }) (clock + 1)) }, .inr ⟨?_, rfl⟩, ?_, .void, ?_⟩
    rotate_left
    · unfold sput; rw [hnone]; exact r1
    · unfold sput; rw [hnone]; exact r2
    · simp [execOp, Instr.mapUpdate, hck, hcy, run_underlying hT, MapKept.run_getObj_map hh, MapKept.run_checkKey (d := .string) (k := .string s) hkt trivial, MapKept.run_findKey hkt h1, MapKept.run_setObj_map _ hh, Result.andThen]
  · have hj : ents[j]? = some e := by simpa using h2
    obtain ⟨q, h4, h5, h6⟩ := hkey j e hj
    have hqs : q.1 = s := by rw [h5] at h3; cases h3; rfl
    have hfi := (find_at hn h4).2
    rw [hqs] at hfi
    have hsz : ents.size = l.length := by simpa [smap] using hs
    have hjl := (List.getElem?_eq_some_iff.1 h4).1
    obtain ⟨r1, r2⟩ := up (ents.modify j fun e => { e with key := .string s, val := a.eval z }) clock (l.set j (s, ev ge st.tm z)) (by simp [hsz]) (fun i q' c hq hcc => by
      rw [Array.getElem?_modify] at hcc
      rw [List.getElem?_set] at hq
      split at hcc
      · rename_i e'
        subst e'
        rw [if_pos rfl, if_pos hjl] at hq
        rw [hj] at hcc
        cases hcc; cases hq
        exact ⟨rfl, hvz⟩
      · rename_i e'
        rw [if_neg e'] at hq
        obtain ⟨q'', h7, h8, h9⟩ := hkey i c hcc
        rw [hq] at h7; cases h7
        exact ⟨h8, h9⟩)
    refine ⟨undef, G, { w with heap := w.heap.setIfInBounds k (.map (ents.modify j fun e => { e with key := .string s, val := a.eval z }) clock) }, .inr ⟨?_, rfl⟩, ?_, .void, ?_⟩
    rotate_left
    · unfold sput; rw [hfi]; exact r1
    · unfold sput; rw [hfi]; exact r2
    · simp [execOp, Instr.mapUpdate, hck, hcy, run_underlying hT, MapKept.run_getObj_map hh, MapKept.run_checkKey (d := .string) (k := .string s) hkt trivial, MapKept.run_findKey hkt h1, hj, h3, MapKept.run_keyThatStays (d := .string) (k := .string s) trivial, MapKept.run_setObj_map _ hh, Result.andThen]

/-- An operation whose law is told by hand, in a walk. -/
theorem AS_op1 {ops : Array Oper} {op : Op} {rest : List Oper} {v : V} {h' : List B} (hd : dstOk st.n d = true) (ho : OpS P ge st ⟨d, op, t, p, af, none⟩ v h')
    (h : AO P ge ops Q rest ⟨st.n, putD d v st.tm, h'⟩) : AS P ge ops (⟨d, op, t, p, af, none⟩ :: rest) Q st := AS_op rfl hd ho (AS_of_AO h)
end
end Go.AM
end

section
set_option linter.unusedVariables false
namespace Go.Proofs.YtgmlimipejcpgaaGreatDoor
open Go Go.AM
/-! The measure of the statements' second form; the package variables; the words of all contracts of this seat. -/
theorem one_leB {H : Type} (d : DataW H) : 1 ≤ Rows.uptoBulk d := by
  cases d with
  | lit l => cases l <;> simp [Rows.uptoBulk]
  | nil => simp [Rows.uptoBulk]
  | ptr d => simp [Rows.uptoBulk]
  | slice elems spare => simp [Rows.uptoBulk]
  | agg parts => simp [Rows.uptoBulk]
  | iface t d => simp [Rows.uptoBulk]
  | map entries => simp [Rows.uptoBulk]
  | held h => simp [Rows.uptoBulk]
theorem part_leB {H : Type} {d : DataW H} {l : List (DataW H)} (h : d ∈ l) : Rows.uptoBulk d ≤ Rows.uptoBulkAll l := by
  induction l with
  | nil => cases h
  | cons x r ih =>
    simp only [Rows.uptoBulkAll]
    cases List.mem_cons.1 h with
    | inl e => subst e; omega
    | inr e => have := ih e; omega
theorem length_leB {H : Type} (l : List (DataW H)) : l.length ≤ Rows.uptoBulkAll l := by
  induction l with
  | nil => simp [Rows.uptoBulkAll]
  | cons x r ih => have := one_leB x; simp only [Rows.uptoBulkAll, List.length_cons]; omega
def KB : Bk where
  bk H d := Rows.uptoBulk d
  N := 1048576
  len es sp h := by
    simp only [Rows.uptoBulk] at h
    exact ⟨by have := length_leB es; omega, fun d hd => by have := part_leB hd; omega⟩
  agg ps h d hd := by
    simp only [Rows.uptoBulk] at h
    have := part_leB hd; omega
  str b h := by simp only [Rows.uptoBulk] at h; omega
def I64 (n : Int) : Prop := -9223372036854775808 ≤ n ∧ n ≤ 9223372036854775807
def I32 (n : Int) : Prop := -2147483648 ≤ n ∧ n ≤ 2147483647
theorem wf64 {n : Int} (h : (Lit.int .i64 n).wf = true) : I64 n := by
  have : -9223372036854775808 ≤ n ∧ n ≤ 9223372036854775807 := by simpa [Lit.wf, IntKind.min, IntKind.max, IntKind.signed, IntKind.bits] using h
  exact this
theorem wf32 {n : Int} (h : (Lit.int .i32 n).wf = true) : I32 n := by
  have : -2147483648 ≤ n ∧ n ≤ 2147483647 := by simpa [Lit.wf, IntKind.min, IntKind.max, IntKind.signed, IntKind.bits] using h
  exact this
theorem wfu8 {n : Int} (h : (Lit.int .u8 n).wf = true) : 0 ≤ n ∧ n ≤ 255 := by
  simpa [Lit.wf, IntKind.min, IntKind.max, IntKind.signed, IntKind.bits] using h
theorem wrap_i64 {n : Int} (h1 : -9223372036854775808 ≤ n) (h2 : n ≤ 9223372036854775807) : IntKind.i64.wrap n = n := by
  unfold IntKind.wrap; simp [IntKind.bits, IntKind.signed]; omega
theorem wrap_u8 {n : Int} (h1 : 0 ≤ n) (h2 : n ≤ 255) : IntKind.u8.wrap n = n := by
  unfold IntKind.wrap; simp [IntKind.bits, IntKind.signed]; omega
theorem mixed : Tryz.prog.follows .mixedOrders = true := by decide
/-- A slice of data. -/
def vl {α : Type} (c : α → List V) (l : List α) : V := .vec (l.map c) l.length
def big (n : Nat) : Prop := n ≤ 1099511627776
end Go.Proofs.YtgmlimipejcpgaaGreatDoor
end

section
set_option linter.unusedVariables false
namespace Go.Proofs.YtgmlimipejcpgaaGreatDoor
open Go Go.AM

theorem zco9 : Tryz.prog.cellsOf 9 = 1 := by kernel_rfl
structure VarD where
  name : ByteArray
  lo : Int
  hi : Int
  init : Int
  deriving DecidableEq, Inhabited
def VarD.cells (x : VarD) : List V := [.str x.name, .int .i64 x.lo, .int .i64 x.hi, .int .i64 x.init]
def VarD.ok (x : VarD) : Prop := x.name.size ≤ 1048576 ∧ I64 x.lo ∧ I64 x.hi ∧ I64 x.init
theorem zco3 : Tryz.prog.cellsOf 3 = 1 := by kernel_rfl
theorem zco167 : Tryz.prog.cellsOf 167 = 4 := by kernel_rfl
theorem rnVarD : RdN KB Tryz.prog 167 VarD.cells VarD.ok :=
  (RdN_struct Tryz.underlying167 zco167 (RdNs_cons rfl zco9 (RdN_string Tryz.underlying9) (fun _ => rfl) (RdNs_cons rfl zco3 (RdN_int Tryz.underlying3) (fun _ => rfl) (RdNs_cons rfl zco3 (RdN_int Tryz.underlying3) (fun _ => rfl) (RdNs_cons rfl zco3 (RdN_int Tryz.underlying3) (fun _ => rfl) (RdNs_nil rfl)))))).map
    (fun p => ⟨p.1, p.2.1, p.2.2.1, p.2.2.2.1⟩) (fun _ => rfl) (fun p h => ⟨(h.1).2, wf64 h.2.1, wf64 h.2.2.1, wf64 h.2.2.2.1⟩)
@[simp] theorem VarD.cells_len (x : VarD) : x.cells.length = 4 := rfl
structure GuardD where
  clock : Int
  other : Int
  cmp : Int
  n : Int
  deriving DecidableEq, Inhabited
def GuardD.cells (x : GuardD) : List V := [.int .i64 x.clock, .int .i64 x.other, .int .u8 x.cmp, .int .i64 x.n]
def GuardD.ok (x : GuardD) : Prop := I64 x.clock ∧ I64 x.other ∧ (0 ≤ x.cmp ∧ x.cmp ≤ 255) ∧ I64 x.n
theorem zco125 : Tryz.prog.cellsOf 125 = 1 := by kernel_rfl
theorem zco127 : Tryz.prog.cellsOf 127 = 4 := by kernel_rfl
theorem rnGuardD : RdN KB Tryz.prog 127 GuardD.cells GuardD.ok :=
  (RdN_struct Tryz.underlying127 zco127 (RdNs_cons rfl zco3 (RdN_int Tryz.underlying3) (fun _ => rfl) (RdNs_cons rfl zco3 (RdN_int Tryz.underlying3) (fun _ => rfl) (RdNs_cons rfl zco125 (RdN_int Tryz.underlying125) (fun _ => rfl) (RdNs_cons rfl zco3 (RdN_int Tryz.underlying3) (fun _ => rfl) (RdNs_nil rfl)))))).map
    (fun p => ⟨p.1, p.2.1, p.2.2.1, p.2.2.2.1⟩) (fun _ => rfl) (fun p h => ⟨wf64 h.1, wf64 h.2.1, wfu8 h.2.2.1, wf64 h.2.2.2.1⟩)
@[simp] theorem GuardD.cells_len (x : GuardD) : x.cells.length = 4 := rfl
structure LocD where
  name : ByteArray
  kind : Int
  inv : List GuardD
  deriving DecidableEq, Inhabited
def LocD.cells (x : LocD) : List V := [.str x.name, .int .u8 x.kind, vl GuardD.cells x.inv]
def LocD.ok (x : LocD) : Prop := x.name.size ≤ 1048576 ∧ (0 ≤ x.kind ∧ x.kind ≤ 255) ∧ (x.inv.length ≤ 1048576 ∧ ∀ a ∈ x.inv, a.ok)
theorem zco106 : Tryz.prog.cellsOf 106 = 1 := by kernel_rfl
theorem zco105 : Tryz.prog.cellsOf 105 = 1 := by kernel_rfl
theorem zco108 : Tryz.prog.cellsOf 108 = 3 := by kernel_rfl
theorem rnLocD : RdN KB Tryz.prog 108 LocD.cells LocD.ok :=
  (RdN_struct Tryz.underlying108 zco108 (RdNs_cons rfl zco9 (RdN_string Tryz.underlying9) (fun _ => rfl) (RdNs_cons rfl zco105 (RdN_int Tryz.underlying105) (fun _ => rfl) (RdNs_cons rfl zco106 (RdN_slice Tryz.underlying106 (by rw [zco127]; decide) rnGuardD (fun _ => by rw [zco127]; rfl)) (fun _ => rfl) (RdNs_nil rfl))))).map
    (fun p => ⟨p.1, p.2.1, p.2.2.1⟩) (fun _ => rfl) (fun p h => ⟨(h.1).2, wfu8 h.2.1, ⟨(h.2.2.1).1, fun a ha => ((h.2.2.1).2 a ha)⟩⟩)
@[simp] theorem LocD.cells_len (x : LocD) : x.cells.length = 3 := rfl
structure NodeD where
  op : Int
  n : Int
  deriving DecidableEq, Inhabited
def NodeD.cells (x : NodeD) : List V := [.int .u8 x.op, .int .i64 x.n]
def NodeD.ok (x : NodeD) : Prop := (0 ≤ x.op ∧ x.op ≤ 255) ∧ I64 x.n
theorem zco162 : Tryz.prog.cellsOf 162 = 1 := by kernel_rfl
theorem zco164 : Tryz.prog.cellsOf 164 = 2 := by kernel_rfl
theorem rnNodeD : RdN KB Tryz.prog 164 NodeD.cells NodeD.ok :=
  (RdN_struct Tryz.underlying164 zco164 (RdNs_cons rfl zco162 (RdN_int Tryz.underlying162) (fun _ => rfl) (RdNs_cons rfl zco3 (RdN_int Tryz.underlying3) (fun _ => rfl) (RdNs_nil rfl)))).map
    (fun p => ⟨p.1, p.2.1⟩) (fun _ => rfl) (fun p h => ⟨wfu8 h.1, wf64 h.2.1⟩)
@[simp] theorem NodeD.cells_len (x : NodeD) : x.cells.length = 2 := rfl
structure SetD where
  clock : Int
  n : Int
  var : Int
  expr : List NodeD
  deriving DecidableEq, Inhabited
def SetD.cells (x : SetD) : List V := [.int .i64 x.clock, .int .i64 x.n, .int .i64 x.var, vl NodeD.cells x.expr]
def SetD.ok (x : SetD) : Prop := I64 x.clock ∧ I64 x.n ∧ I64 x.var ∧ (x.expr.length ≤ 1048576 ∧ ∀ a ∈ x.expr, a.ok)
theorem zco110 : Tryz.prog.cellsOf 110 = 1 := by kernel_rfl
theorem zco116 : Tryz.prog.cellsOf 116 = 4 := by kernel_rfl
theorem rnSetD : RdN KB Tryz.prog 116 SetD.cells SetD.ok :=
  (RdN_struct Tryz.underlying116 zco116 (RdNs_cons rfl zco3 (RdN_int Tryz.underlying3) (fun _ => rfl) (RdNs_cons rfl zco3 (RdN_int Tryz.underlying3) (fun _ => rfl) (RdNs_cons rfl zco3 (RdN_int Tryz.underlying3) (fun _ => rfl) (RdNs_cons rfl zco110 (RdN_slice Tryz.underlying110 (by rw [zco164]; decide) rnNodeD (fun _ => by rw [zco164]; rfl)) (fun _ => rfl) (RdNs_nil rfl)))))).map
    (fun p => ⟨p.1, p.2.1, p.2.2.1, p.2.2.2.1⟩) (fun _ => rfl) (fun p h => ⟨wf64 h.1, wf64 h.2.1, wf64 h.2.2.1, ⟨(h.2.2.2.1).1, fun a ha => ((h.2.2.2.1).2 a ha)⟩⟩)
@[simp] theorem SetD.cells_len (x : SetD) : x.cells.length = 4 := rfl
structure EdgeD where
  frm : Int
  to : Int
  guards : List GuardD
  test : List NodeD
  chan : Int
  send : Bool
  sets : List SetD
  deriving DecidableEq, Inhabited
def EdgeD.cells (x : EdgeD) : List V := [.int .i64 x.frm, .int .i64 x.to, vl GuardD.cells x.guards, vl NodeD.cells x.test, .int .i64 x.chan, .bool x.send, vl SetD.cells x.sets]
def EdgeD.ok (x : EdgeD) : Prop := I64 x.frm ∧ I64 x.to ∧ (x.guards.length ≤ 1048576 ∧ ∀ a ∈ x.guards, a.ok) ∧ (x.test.length ≤ 1048576 ∧ ∀ a ∈ x.test, a.ok) ∧ I64 x.chan ∧ True ∧ (x.sets.length ≤ 1048576 ∧ ∀ a ∈ x.sets, a.ok)
theorem zco111 : Tryz.prog.cellsOf 111 = 1 := by kernel_rfl
theorem zco4 : Tryz.prog.cellsOf 4 = 1 := by kernel_rfl
theorem zco113 : Tryz.prog.cellsOf 113 = 7 := by kernel_rfl
theorem rnEdgeD : RdN KB Tryz.prog 113 EdgeD.cells EdgeD.ok :=
  (RdN_struct Tryz.underlying113 zco113 (RdNs_cons rfl zco3 (RdN_int Tryz.underlying3) (fun _ => rfl) (RdNs_cons rfl zco3 (RdN_int Tryz.underlying3) (fun _ => rfl) (RdNs_cons rfl zco106 (RdN_slice Tryz.underlying106 (by rw [zco127]; decide) rnGuardD (fun _ => by rw [zco127]; rfl)) (fun _ => rfl) (RdNs_cons rfl zco110 (RdN_slice Tryz.underlying110 (by rw [zco164]; decide) rnNodeD (fun _ => by rw [zco164]; rfl)) (fun _ => rfl) (RdNs_cons rfl zco3 (RdN_int Tryz.underlying3) (fun _ => rfl) (RdNs_cons rfl zco4 (RdN_bool Tryz.underlying4) (fun _ => rfl) (RdNs_cons rfl zco111 (RdN_slice Tryz.underlying111 (by rw [zco116]; decide) rnSetD (fun _ => by rw [zco116]; rfl)) (fun _ => rfl) (RdNs_nil rfl))))))))).map
    (fun p => ⟨p.1, p.2.1, p.2.2.1, p.2.2.2.1, p.2.2.2.2.1, p.2.2.2.2.2.1, p.2.2.2.2.2.2.1⟩) (fun _ => rfl) (fun p h => ⟨wf64 h.1, wf64 h.2.1, ⟨(h.2.2.1).1, fun a ha => ((h.2.2.1).2 a ha)⟩, ⟨(h.2.2.2.1).1, fun a ha => ((h.2.2.2.1).2 a ha)⟩, wf64 h.2.2.2.2.1, trivial, ⟨(h.2.2.2.2.2.2.1).1, fun a ha => ((h.2.2.2.2.2.2.1).2 a ha)⟩⟩)
@[simp] theorem EdgeD.cells_len (x : EdgeD) : x.cells.length = 7 := rfl
structure AutoD where
  name : ByteArray
  locs : List LocD
  edges : List EdgeD
  deriving DecidableEq, Inhabited
def AutoD.cells (x : AutoD) : List V := [.str x.name, vl LocD.cells x.locs, vl EdgeD.cells x.edges]
def AutoD.ok (x : AutoD) : Prop := x.name.size ≤ 1048576 ∧ (x.locs.length ≤ 1048576 ∧ ∀ a ∈ x.locs, a.ok) ∧ (x.edges.length ≤ 1048576 ∧ ∀ a ∈ x.edges, a.ok)
theorem zco102 : Tryz.prog.cellsOf 102 = 1 := by kernel_rfl
theorem zco101 : Tryz.prog.cellsOf 101 = 1 := by kernel_rfl
theorem zco104 : Tryz.prog.cellsOf 104 = 3 := by kernel_rfl
theorem rnAutoD : RdN KB Tryz.prog 104 AutoD.cells AutoD.ok :=
  (RdN_struct Tryz.underlying104 zco104 (RdNs_cons rfl zco9 (RdN_string Tryz.underlying9) (fun _ => rfl) (RdNs_cons rfl zco101 (RdN_slice Tryz.underlying101 (by rw [zco108]; decide) rnLocD (fun _ => by rw [zco108]; rfl)) (fun _ => rfl) (RdNs_cons rfl zco102 (RdN_slice Tryz.underlying102 (by rw [zco113]; decide) rnEdgeD (fun _ => by rw [zco113]; rfl)) (fun _ => rfl) (RdNs_nil rfl))))).map
    (fun p => ⟨p.1, p.2.1, p.2.2.1⟩) (fun _ => rfl) (fun p h => ⟨(h.1).2, ⟨(h.2.1).1, fun a ha => ((h.2.1).2 a ha)⟩, ⟨(h.2.2.1).1, fun a ha => ((h.2.2.1).2 a ha)⟩⟩)
@[simp] theorem AutoD.cells_len (x : AutoD) : x.cells.length = 3 := rfl
structure NetD where
  clocks : List ByteArray
  vars : List VarD
  chans : List ByteArray
  autos : List AutoD
  deriving DecidableEq, Inhabited
def NetD.cells (x : NetD) : List V := [vl (fun x => [.str x]) x.clocks, vl VarD.cells x.vars, vl (fun x => [.str x]) x.chans, vl AutoD.cells x.autos]
def NetD.ok (x : NetD) : Prop := (x.clocks.length ≤ 1048576 ∧ ∀ a ∈ x.clocks, a.size ≤ 1048576) ∧ (x.vars.length ≤ 1048576 ∧ ∀ a ∈ x.vars, a.ok) ∧ (x.chans.length ≤ 1048576 ∧ ∀ a ∈ x.chans, a.size ≤ 1048576) ∧ (x.autos.length ≤ 1048576 ∧ ∀ a ∈ x.autos, a.ok)
theorem zco24 : Tryz.prog.cellsOf 24 = 1 := by kernel_rfl
theorem zco22 : Tryz.prog.cellsOf 22 = 1 := by kernel_rfl
theorem zco23 : Tryz.prog.cellsOf 23 = 1 := by kernel_rfl
theorem zco26 : Tryz.prog.cellsOf 26 = 4 := by kernel_rfl
theorem rnNetD : RdN KB Tryz.prog 26 NetD.cells NetD.ok :=
  (RdN_struct Tryz.underlying26 zco26 (RdNs_cons rfl zco22 (RdN_slice Tryz.underlying22 (by rw [zco9]; decide) (RdN_string Tryz.underlying9) (fun _ => by rw [zco9]; rfl)) (fun _ => rfl) (RdNs_cons rfl zco23 (RdN_slice Tryz.underlying23 (by rw [zco167]; decide) rnVarD (fun _ => by rw [zco167]; rfl)) (fun _ => rfl) (RdNs_cons rfl zco22 (RdN_slice Tryz.underlying22 (by rw [zco9]; decide) (RdN_string Tryz.underlying9) (fun _ => by rw [zco9]; rfl)) (fun _ => rfl) (RdNs_cons rfl zco24 (RdN_slice Tryz.underlying24 (by rw [zco104]; decide) rnAutoD (fun _ => by rw [zco104]; rfl)) (fun _ => rfl) (RdNs_nil rfl)))))).map
    (fun p => ⟨p.1, p.2.1, p.2.2.1, p.2.2.2.1⟩) (fun _ => rfl) (fun p h => ⟨⟨(h.1).1, fun a ha => (((h.1).2 a ha)).2⟩, ⟨(h.2.1).1, fun a ha => ((h.2.1).2 a ha)⟩, ⟨(h.2.2.1).1, fun a ha => (((h.2.2.1).2 a ha)).2⟩, ⟨(h.2.2.2.1).1, fun a ha => ((h.2.2.2.1).2 a ha)⟩⟩)
@[simp] theorem NetD.cells_len (x : NetD) : x.cells.length = 4 := rfl
structure AtD where
  auto : Int
  loc : Int
  deriving DecidableEq, Inhabited
def AtD.cells (x : AtD) : List V := [.int .i64 x.auto, .int .i64 x.loc]
def AtD.ok (x : AtD) : Prop := I64 x.auto ∧ I64 x.loc
theorem zco171 : Tryz.prog.cellsOf 171 = 2 := by kernel_rfl
theorem rnAtD : RdN KB Tryz.prog 171 AtD.cells AtD.ok :=
  (RdN_struct Tryz.underlying171 zco171 (RdNs_cons rfl zco3 (RdN_int Tryz.underlying3) (fun _ => rfl) (RdNs_cons rfl zco3 (RdN_int Tryz.underlying3) (fun _ => rfl) (RdNs_nil rfl)))).map
    (fun p => ⟨p.1, p.2.1⟩) (fun _ => rfl) (fun p h => ⟨wf64 h.1, wf64 h.2.1⟩)
@[simp] theorem AtD.cells_len (x : AtD) : x.cells.length = 2 := rfl
structure PartD where
  locs : List AtD
  guards : List GuardD
  test : List NodeD
  deriving DecidableEq, Inhabited
def PartD.cells (x : PartD) : List V := [vl AtD.cells x.locs, vl GuardD.cells x.guards, vl NodeD.cells x.test]
def PartD.ok (x : PartD) : Prop := (x.locs.length ≤ 1048576 ∧ ∀ a ∈ x.locs, a.ok) ∧ (x.guards.length ≤ 1048576 ∧ ∀ a ∈ x.guards, a.ok) ∧ (x.test.length ≤ 1048576 ∧ ∀ a ∈ x.test, a.ok)
theorem zco128 : Tryz.prog.cellsOf 128 = 1 := by kernel_rfl
theorem zco130 : Tryz.prog.cellsOf 130 = 3 := by kernel_rfl
theorem rnPartD : RdN KB Tryz.prog 130 PartD.cells PartD.ok :=
  (RdN_struct Tryz.underlying130 zco130 (RdNs_cons rfl zco128 (RdN_slice Tryz.underlying128 (by rw [zco171]; decide) rnAtD (fun _ => by rw [zco171]; rfl)) (fun _ => rfl) (RdNs_cons rfl zco106 (RdN_slice Tryz.underlying106 (by rw [zco127]; decide) rnGuardD (fun _ => by rw [zco127]; rfl)) (fun _ => rfl) (RdNs_cons rfl zco110 (RdN_slice Tryz.underlying110 (by rw [zco164]; decide) rnNodeD (fun _ => by rw [zco164]; rfl)) (fun _ => rfl) (RdNs_nil rfl))))).map
    (fun p => ⟨p.1, p.2.1, p.2.2.1⟩) (fun _ => rfl) (fun p h => ⟨⟨(h.1).1, fun a ha => ((h.1).2 a ha)⟩, ⟨(h.2.1).1, fun a ha => ((h.2.1).2 a ha)⟩, ⟨(h.2.2.1).1, fun a ha => ((h.2.2.1).2 a ha)⟩⟩)
@[simp] theorem PartD.cells_len (x : PartD) : x.cells.length = 3 := rfl
end Go.Proofs.YtgmlimipejcpgaaGreatDoor
end

section
set_option linter.unusedVariables false
namespace Go.Proofs.YtgmlimipejcpgaaGreatDoor
open Go Go.AM Fx
/-! The package variables, as they read. -/
def keptV : List V := [.str ⟨#[99, 108, 111, 99, 107]⟩, .str ⟨#[105, 110, 116]⟩, .str ⟨#[99, 104, 97, 110]⟩, .str ⟨#[97, 117, 116, 111]⟩, .str ⟨#[108, 111, 99]⟩, .str ⟨#[101, 100, 103, 101]⟩, .str ⟨#[105, 110]⟩, .str ⟨#[105, 110, 118]⟩, .str ⟨#[119, 104, 101, 110]⟩, .str ⟨#[115, 121, 110, 99]⟩, .str ⟨#[100, 111]⟩, .str ⟨#[117, 114, 103, 101, 110, 116]⟩, .str ⟨#[99, 111, 109, 109, 105, 116, 116, 101, 100]⟩, .str ⟨#[116, 114, 117, 101]⟩, .str ⟨#[114, 101, 97, 99, 104]⟩, .str ⟨#[110, 101, 118, 101, 114]⟩]
def kindsV : List V := [.int .i64 0, .bool false, .bool false, .str ⟨#[]⟩, .int .i64 0, .int .i64 0, .bool false, .bool false, .str ⟨#[]⟩, .int .i64 9, .int .i64 0, .bool false, .bool false, .str ⟨#[]⟩, .int .i64 9, .int .i64 1, .bool false, .bool false, .str ⟨#[45]⟩, .int .i64 6, .int .i64 2, .bool false, .bool false, .str ⟨#[43]⟩, .int .i64 4, .int .i64 2, .bool false, .bool false, .str ⟨#[45]⟩, .int .i64 4, .int .i64 2, .bool false, .bool false, .str ⟨#[42]⟩, .int .i64 5, .int .i64 0, .bool true, .bool false, .str ⟨#[116, 114, 117, 101]⟩, .int .i64 9, .int .i64 2, .bool true, .bool false, .str ⟨#[60]⟩, .int .i64 3, .int .i64 2, .bool true, .bool false, .str ⟨#[60, 61]⟩, .int .i64 3, .int .i64 2, .bool true, .bool false, .str ⟨#[61, 61]⟩, .int .i64 3, .int .i64 2, .bool true, .bool false, .str ⟨#[33, 61]⟩, .int .i64 3, .int .i64 1, .bool true, .bool true, .str ⟨#[33]⟩, .int .i64 9, .int .i64 2, .bool true, .bool true, .str ⟨#[38, 38]⟩, .int .i64 2, .int .i64 2, .bool true, .bool true, .str ⟨#[124, 124]⟩, .int .i64 1]
def GV : GEnv := fun g => if g = 0 then some keptV else if g = 1 then some kindsV else none
abbrev PC := PCall Tryz.prog GV
@[simp] theorem GV0 : GV 0 = some keptV := rfl
@[simp] theorem GV1 : GV 1 = some kindsV := rfl
end Go.Proofs.YtgmlimipejcpgaaGreatDoor
end

section
/-! AM, part Gl: package variables that read as known data. -/
set_option linter.unusedVariables false
set_option linter.unusedSimpArgs false
namespace Go.AM
/-- What reads as this datum stands for these cells. -/
def RdX (P : Program) (T : TypeId) (d : DataW Unit) (vs : List V) : Prop :=
  ∀ (enc : TypeId × Value → Unit) (w : World) (held : Bool) (fuel : Nat) (cs : List Value) (p : List MemPlace), DataW.trod enc P w 0 (fun _ => true) held fuel T cs = some (d, p) → RdCells w vs cs
section
variable {P : Program} {T : TypeId}
theorem RdX_int {k : IntKind} {n : Int} (ht : P.underlying T = some (.int k)) : RdX P T (.lit (.int k n)) [.int k n] := fun enc w held fuel cs p hx => by
  obtain ⟨m, rfl, h, _⟩ := DataW.trod_int ht hx
  cases h
  exact .one rfl .int
theorem RdX_bool {b : Bool} (ht : P.underlying T = some .bool) : RdX P T (.lit (.bool b)) [.bool b] := fun enc w held fuel cs p hx => by
  obtain ⟨m, rfl, h⟩ := DataW.trod_bool ht hx
  cases h
  exact .one rfl .bool
theorem RdX_string {l : List UInt8} (ht : P.underlying T = some .string) : RdX P T (.lit (.string l)) [.str ⟨l.toArray⟩] := fun enc w held fuel cs p hx => by
  obtain ⟨s, rfl, h, _⟩ := DataW.trod_string ht hx
  cases h
  exact .one rfl .str
theorem rd_aux {enc : TypeId × Value → Unit} {w : World} {held : Bool} {m : Nat} {e : TypeId} {sz : Nat} {cs : List Value} : ∀ (l : List (DataW Unit × List V)) (i0 : Nat), (∀ p ∈ l, RdX P e p.1 p.2 ∧ p.2.length = sz) →
    (∀ (i : Nat) (x : DataW Unit × List V), l[i]? = some x → ∃ q, DataW.trod enc P w 0 (fun _ => true) held m e ((cs.drop ((i0 + i) * sz)).take sz) = some (x.1, q)) → (i0 + l.length) * sz = cs.length →
    RdCells w (l.flatMap (·.2)) (cs.drop (i0 * sz))
  | [], i0, _, _, hl => by
    rw [List.drop_eq_nil_of_le (by simp at hl; omega)]
    exact ⟨rfl, fun i v hv => by simp at hv⟩
  | x :: r, i0, h, hx, hl => by
    obtain ⟨h1, h2⟩ := h x (.head _)
    obtain ⟨q, hq⟩ := hx 0 x rfl
    have h3 := h1 enc w held m _ q hq
    have h4 := rd_aux r (i0 + 1) (fun p hp => h p (.tail _ hp)) (fun i y hy => by
      have := hx (i + 1) y (by simpa using hy)
      rw [show i0 + (i + 1) = i0 + 1 + i by omega] at this; exact this) (by rw [← hl, List.length_cons]; congr 1; omega)
    rw [List.flatMap_cons]
    refine RdCells.append h2 h3 ?_
    rw [List.drop_drop]
    rw [show i0 * sz + sz = (i0 + 1) * sz by rw [Nat.add_mul, Nat.one_mul]]
    exact h4
theorem RdX_array {n : Nat} {e : TypeId} {sz : Nat} (ht : P.underlying T = some (.array n e)) (hc : P.cellsOf T = n * sz) (hs : P.cellsOf e = sz) (l : List (DataW Unit × List V)) (hn : l.length = n) (h : ∀ p ∈ l, RdX P e p.1 p.2 ∧ p.2.length = sz) :
    RdX P T (.agg (l.map (·.1))) (l.flatMap (·.2)) := fun enc w held fuel cs p hx => by
  obtain ⟨xs, m, _, he, h1, h2, h3⟩ := DataW.trod_array ht hx
  have hd : l.map (·.1) = xs.map (·.1) := by
    have := congrArg Prod.fst he
    simpa using this
  have := rd_aux (P := P) (enc := enc) (w := w) (held := held) (m := m) (e := e) (sz := sz) (cs := cs) l 0 h (fun i x hx => by
    have hi : i < n := by rw [← hn]; exact (List.getElem?_eq_some_iff.1 hx).1
    have h4 := h3 i hi
    rw [hs] at h4
    rw [Nat.zero_add, h4]
    have h5 : (l.map (·.1))[i]? = some x.1 := by rw [List.getElem?_map, hx]; rfl
    rw [hd, List.getElem?_map] at h5
    obtain ⟨y, h6, h7⟩ := Option.map_eq_some_iff.1 h5
    exact ⟨y.2, by rw [h6, ← h7]⟩) (by rw [Nat.zero_add, hn, h1, hc])
  simpa using this
/-- A struct's fields from one on. -/
def RdXs (P : Program) (tot : Nat) (fs : List Field) (off : Nat) (ds : List (DataW Unit)) (vs : List V) : Prop :=
  ∀ (enc : TypeId × Value → Unit) (w : World) (held : Bool) (n : Nat) (cs : List Value) (xs : List (DataW Unit × List MemPlace)), cs.length = tot → xs.length = fs.length →
    (∀ (i : Nat) (g : Field), fs[i]? = some g → DataW.trod enc P w 0 (fun _ => true) held n g.type ((cs.drop g.offset).take (P.cellsOf g.type)) = xs[i]?) → xs.map (·.1) = ds → RdCells w vs (cs.drop off)
theorem RdXs_nil {tot off : Nat} (h : off = tot) : RdXs P tot [] off [] [] :=
  fun enc w held n cs xs hl _ _ _ => by rw [List.drop_eq_nil_of_le (by omega)]; exact ⟨rfl, fun i v hv => by simp at hv⟩
theorem RdXs_cons {tot off sz : Nat} {fd : Field} {fs : List Field} {d : DataW Unit} {v : List V} {ds : List (DataW Unit)} {vs : List V} (ho : fd.offset = off) (hs : P.cellsOf fd.type = sz) (h : RdX P fd.type d v) (hlen : v.length = sz)
    (h' : RdXs P tot fs (off + sz) ds vs) : RdXs P tot (fd :: fs) off (d :: ds) (v ++ vs) :=
  fun enc w held n cs xs hl hxl hx hd => by
    cases xs with
    | nil => simp at hxl
    | cons x xs =>
      simp only [List.map_cons, List.cons.injEq] at hd
      have h0 := hx 0 fd rfl
      have h1 := h enc w held n _ x.2 (by rw [← hd.1]; exact h0)
      have h4 := h' enc w held n cs xs hl (by simpa using hxl) (fun i g hg => by simpa using hx (i + 1) g (by simpa using hg)) hd.2
      rw [ho, hs] at h1
      rw [← List.drop_drop] at h4
      exact .append hlen h1 h4
theorem RdX_struct {fs : Array Field} {tot : Nat} {ds : List (DataW Unit)} {vs : List V} (ht : P.underlying T = some (.struct fs)) (hc : P.cellsOf T = tot) (h : RdXs P tot fs.toList 0 ds vs) : RdX P T (.agg ds) vs :=
  fun enc w held fuel cs p hx => by
    obtain ⟨xs, n, _, he, h1, h2, h3⟩ := DataW.trod_struct ht hx
    have hd : ds = xs.map (·.1) := by
      have := congrArg Prod.fst he
      simpa using this
    have := h enc w held n cs xs (by rw [h1, hc]) (by simpa using h2) (fun i g hg => h3 i g (by simpa using hg)) hd.symm
    simpa using this
/-- A package variable's cells, as frozen ones. -/
theorem fp_of_var {n : String} {g : Nat} {w : World} {cs : Array Value} {vs : List V} (hg : P.globalNamed n = some g) (hv : w.var? P n = some cs) (h : RdCells w vs cs.toList) : R (Gall w) w true (.fp vs 0) (.pointer (some ⟨g, 0, none⟩)) := by
  have hc : ∀ (j : Nat) (v : V), vs[j]? = some v → w.cell? ⟨g, 0 + j, none⟩ = some (cs.toList.getD j undef) := fun j v hv' => by
    have hj : j < cs.toList.length := by rw [← h.1]; exact (List.getElem?_eq_some_iff.1 hv').1
    rw [Nat.zero_add, World.var?_cell hg hv j]
    have hj' : j < cs.size := by simpa using hj
    rw [Array.getElem?_eq_getElem hj', List.getD, List.getElem?_eq_getElem hj]
    simp
  have hd : ∀ (j : Nat) (v : V), vs[j]? = some v → cellD w g (0 + j) = cs.toList.getD j undef := fun j v hv' => by unfold cellD; rw [hc j v hv']; rfl
  refine .fp (fun j v hv' => ⟨by rw [hc j v hv']; rfl, Gall_cell (hc j v hv')⟩) (fun j v hv' => ?_) (fun j v hv' => ?_)
  · rw [hd j v hv']; exact (h.2 j v hv').1
  · rw [hd j v hv']; exact (h.2 j v hv').2
end
end Go.AM
end

section
set_option linter.unusedVariables false
namespace Go.Proofs.YtgmlimipejcpgaaGreatDoor
open Go Go.AM
/-! The two package variables that the rows list, as the contracts want them; the world of the witnesses. -/
theorem laidOut : laidOutB Tryz.prog = true := by kernel_rfl
theorem ownNone : ownKnob Tryz.prog.godebug = none := by kernel_rfl
def keptBytes : List (List UInt8) := [[99, 108, 111, 99, 107], [105, 110, 116], [99, 104, 97, 110], [97, 117, 116, 111], [108, 111, 99], [101, 100, 103, 101], [105, 110], [105, 110, 118], [119, 104, 101, 110], [115, 121, 110, 99], [100, 111], [117, 114, 103, 101, 110, 116], [99, 111, 109, 109, 105, 116, 116, 101, 100], [116, 114, 117, 101], [114, 101, 97, 99, 104], [110, 101, 118, 101, 114]]
def kindRows : List (Int × Bool × Bool × List UInt8 × Int) := [(0, false, false, [], 0), (0, false, false, [], 9), (0, false, false, [], 9), (1, false, false, [45], 6), (2, false, false, [43], 4), (2, false, false, [45], 4), (2, false, false, [42], 5), (0, true, false, [116, 114, 117, 101], 9), (2, true, false, [60], 3), (2, true, false, [60, 61], 3), (2, true, false, [61, 61], 3), (2, true, false, [33, 61], 3), (1, true, true, [33], 9), (2, true, true, [38, 38], 2), (2, true, true, [124, 124], 1)]
theorem co9 : Tryz.prog.cellsOf 9 = 1 := by kernel_rfl
theorem co3 : Tryz.prog.cellsOf 3 = 1 := by kernel_rfl
theorem co4 : Tryz.prog.cellsOf 4 = 1 := by kernel_rfl
theorem co243 : Tryz.prog.cellsOf 243 = 5 := by kernel_rfl
theorem co259 : Tryz.prog.cellsOf 259 = 16 * 1 := by kernel_rfl
theorem co261 : Tryz.prog.cellsOf 261 = 15 * 5 := by kernel_rfl
def keptPairs : List (DataW Unit × List V) := keptBytes.map fun s => (.lit (.string s), [.str ⟨s.toArray⟩])
def kindPairs : List (DataW Unit × List V) := kindRows.map fun x => (.agg [.lit (.int .i64 x.1), .lit (.bool x.2.1), .lit (.bool x.2.2.1), .lit (.string x.2.2.2.1), .lit (.int .i64 x.2.2.2.2)], [.int .i64 x.1, .bool x.2.1, .bool x.2.2.1, .str ⟨x.2.2.2.1.toArray⟩, .int .i64 x.2.2.2.2])
set_option maxRecDepth 100000 in
theorem rdKept : RdX Tryz.prog 259 Rows.laid_gnomon_lex_kept keptV := by
  have h := RdX_array (P := Tryz.prog) (T := 259) (n := 16) (e := 9) (sz := 1) Tryz.underlying259 co259 co9 keptPairs rfl (fun p hp => by
    obtain ⟨s, _, rfl⟩ := List.mem_map.1 hp
    exact ⟨RdX_string Tryz.underlying9, rfl⟩)
  exact h
set_option maxRecDepth 100000 in
theorem rdKinds : RdX Tryz.prog 261 Rows.laid_gnomon_expr_kinds kindsV := by
  have h := RdX_array (P := Tryz.prog) (T := 261) (n := 15) (e := 243) (sz := 5) Tryz.underlying261 co261 co243 kindPairs rfl (fun p hp => by
    obtain ⟨x, _, rfl⟩ := List.mem_map.1 hp
    refine ⟨?_, rfl⟩
    exact RdX_struct Tryz.underlying243 co243 (RdXs_cons rfl co3 (RdX_int Tryz.underlying3) rfl (RdXs_cons rfl co4 (RdX_bool Tryz.underlying4) rfl (RdXs_cons rfl co4 (RdX_bool Tryz.underlying4) rfl (RdXs_cons rfl co9 (RdX_string Tryz.underlying9) rfl (RdXs_cons rfl co3 (RdX_int Tryz.underlying3) rfl (RdXs_nil rfl)))))))
  exact h
theorem gKept : Tryz.prog.globalNamed "gnomon/lex.kept" = some 0 := by kernel_rfl
theorem gKinds : Tryz.prog.globalNamed "gnomon/expr.kinds" = some 1 := by kernel_rfl
theorem tKept : (Tryz.prog.globals[0]?).map (·.type) = some 259 := by kernel_rfl
theorem tKinds : (Tryz.prog.globals[1]?).map (·.type) = some 261 := by kernel_rfl
/-- What all rows of this seat list. -/
def laidAll : List (String × DataW Unit) := [("gnomon/expr.kinds", Rows.laid_gnomon_expr_kinds), ("gnomon/lex.kept", Rows.laid_gnomon_lex_kept)]
set_option maxRecDepth 100000 in
theorem ge_of_laid {W : World} (h : laidMetH Tryz.prog laidAll W) : GE GV (Gall W) W := by
  rw [MakeChecks.laidMetH_plain _ _ _ (by kernel_rfl)] at h
  obtain ⟨ps, ⟨g1, t1, cs1, f1, p1, q1, hg1, ht1, hv1, hd1, ⟨g0, t0, cs0, f0, p0, q0, hg0, ht0, hv0, hd0, _, _⟩, _⟩, _, _⟩ := h
  obtain rfl := Option.some.inj (gKinds.symm.trans hg1)
  obtain rfl := Option.some.inj (gKept.symm.trans hg0)
  obtain rfl := Option.some.inj (tKinds.symm.trans ht1)
  obtain rfl := Option.some.inj (tKept.symm.trans ht0)
  refine GE_all fun g cs hgc => ?_
  unfold GV at hgc
  split at hgc
  · rename_i h0; subst h0; cases hgc
    exact fp_of_var gKept hv0 (rdKept _ W false _ _ _ hd0)
  · split at hgc
    · rename_i h0 h1; subst h1; cases hgc
      exact fp_of_var gKinds hv1 (rdKinds _ W false _ _ _ hd1)
    · cases hgc
def keptArr : Array Value := #[.string ⟨#[99, 108, 111, 99, 107]⟩, .string ⟨#[105, 110, 116]⟩, .string ⟨#[99, 104, 97, 110]⟩, .string ⟨#[97, 117, 116, 111]⟩, .string ⟨#[108, 111, 99]⟩, .string ⟨#[101, 100, 103, 101]⟩, .string ⟨#[105, 110]⟩, .string ⟨#[105, 110, 118]⟩, .string ⟨#[119, 104, 101, 110]⟩, .string ⟨#[115, 121, 110, 99]⟩, .string ⟨#[100, 111]⟩, .string ⟨#[117, 114, 103, 101, 110, 116]⟩, .string ⟨#[99, 111, 109, 109, 105, 116, 116, 101, 100]⟩, .string ⟨#[116, 114, 117, 101]⟩, .string ⟨#[114, 101, 97, 99, 104]⟩, .string ⟨#[110, 101, 118, 101, 114]⟩]
def kindArr : Array Value := (kindRows.flatMap fun x => [Value.int .i64 x.1, .bool x.2.1, .bool x.2.2.1, .string ⟨x.2.2.2.1.toArray⟩, .int .i64 x.2.2.2.2]).toArray
def laidCells (arr : Array Value) : Obj → Obj
  | .cells _ t frozen => .cells arr t frozen
  | o => o
/-- A world for the witnesses: the settled one, the two variables holding what their initialisers lay. -/
noncomputable def laidWorld (os : Os) : World :=
  { World.holding Tryz.prog os ⟨#[], #[], []⟩ with heap := ((World.holding Tryz.prog os ⟨#[], #[], []⟩).heap.modify 0 (laidCells keptArr)).modify 1 (laidCells kindArr) }
theorem laid_met (os : Os) (args : Array Value) : laidMetH Tryz.prog laidAll ((laidWorld os).forCall (fun _ _ => 0) ⟨#[], args, []⟩).memory := by
  rw [MakeChecks.laidMetH_plain _ _ _ (by kernel_rfl)]
  exact laidMet_of_run' 8 (by kernel_rfl) (by kernel_rfl)
end Go.Proofs.YtgmlimipejcpgaaGreatDoor
end

section
/-! AM, part X: cells of variables: rows that are frozen there, nil slices as empty rows. -/
set_option linter.unusedVariables false
set_option linter.unusedSimpArgs false
namespace Go.AM
section
variable {P : Program} {ge : GEnv} {st : St} {Q : Exit → St → Prop} {G : Gh} {w : World}

theorem getD_push (t : Array Value) (c : Value) (i : Nat) : (t.push c).getD i undef = if i = t.size then c else t.getD i undef := by
  simp only [Array.getD_eq_getD_getElem?, Array.getElem?_push]
  split <;> rfl

/-- A row is frozen, told by any value that points to it. -/
theorem view_any {a : Act} (hr : Rep P ge G st a w) {b gg off len : Nat} {T : TypeId} {fzn : Nat} {xs : List (List V)} {c : Value} {fr : Bool} (hc : R G w fr (.ref b gg off len) c)
    (hb : st.h[b]? = some (.row T gg fzn true xs)) (hle : off + len ≤ xs.length) :
    ∃ G', Rep P ge G' { st with h := st.h.set b (.row T gg xs.length true xs) } a w ∧ Ext G st.h w G' (st.h.set b (.row T gg xs.length true xs)) w ∧ R G' w false (.vec (xs.drop off) len) c := by
  have hcf : R G w false (.ref b gg off len) c := by
    cases fr with
    | false => exact hc
    | true => exact hc.weak rfl
  have hr1 : Rep P ge G ⟨st.n + 1, (st.n, .ref b gg off len) :: st.tm, st.h⟩ { a with tmps := a.tmps.push c } w := by
    refine ⟨hr.rh, fun t => ?_, by simp [hr.n], hr.d⟩
    simp only [lk, getD_push, hr.n]
    by_cases e : st.n = t
    · subst e; simp; exact hcf
    · rw [if_neg e, if_neg (fun h => e h.symm)]; exact hr.tm t
  obtain ⟨G', r, x⟩ := Rep_view (s := st.n) hr1 (by simp [lk]) hb hle
  refine ⟨G', ⟨r.rh, fun t => ?_, hr.n, hr.d⟩, x, ?_⟩
  · by_cases e : t = st.n
    · subst e
      have h1 : a.tmps.getD st.n undef = undef := by rw [Array.getD_eq_getD_getElem?, Array.getElem?_eq_none (by rw [hr.n]; exact Nat.le_refl _)]; rfl
      have h2 := (hr.tm st.n).mono x.le
      exact h2
    · have := r.tm t
      simp only [lk, getD_push, hr.n] at this
      rw [if_neg (fun h => e h.symm), if_neg (fun h => e h.symm), if_neg e] at this
      exact this
  · have := r.tm st.n
    simp only [lk, getD_push, hr.n, if_true] at this
    exact this

/-- A variable's cell is told otherwise. -/
theorem RH_retell {h : List B} (rh : RH P ge G h w) {b0 j : Nat} {cs : List V} {v : V} (hb : h[b0]? = some (.var cs))
    (hv : ∀ (c : Value) (u : V), cs[j]? = some u → R G w false u c → c.oneCell' = true → R G w false v c) :
    RH P ge G (h.set b0 (.var (cs.set j v))) w ∧ Ext G h w G (h.set b0 (.var (cs.set j v))) w := by
  obtain ⟨h00, k, arr, T, hm, hh, hfz, hs, hcells⟩ := rh.bl b0 _ hb
  refine RH_upd (w' := w) rh hb hm rfl (fun _ _ => rfl) rfl ⟨rfl, rfl⟩ (.refl _ _) ⟨h00, k, arr, T, hm, hh, hfz, by simp [hs], fun i u hu => ?_⟩ hm
  rw [List.getElem?_set] at hu
  split at hu
  · rename_i e
    subst e
    split at hu
    · rename_i hj
      cases hu
      have := hcells j cs[j] (List.getElem?_eq_getElem hj)
      exact ⟨this.1, hv _ _ (List.getElem?_eq_getElem hj) this.2 this.1⟩
    · cases hu
  · exact hcells i u hu

/-- A row that a variable's cell points to is frozen. -/
theorem AW_viewcell {c : Code} (b0 j : Nat) {b gg off len : Nat} {T : TypeId} {fzn : Nat} {xs : List (List V)} {cs : List V} (h0 : st.h[b0]? = some (.var cs)) (hj : cs[j]? = some (.ref b gg off len))
    (hb : st.h[b]? = some (.row T gg fzn true xs)) (hle : off + len ≤ xs.length)
    (h : AW P ge c Q { st with h := (st.h.set b (.row T gg xs.length true xs)).set b0 (.var (cs.set j (.vec (xs.drop off) len))) }) : AW P ge c Q st := by
  intro G a w hr
  obtain ⟨h00, k, arr, T', hm, hh, hfz, hs, hcells⟩ := hr.rh.bl b0 _ h0
  obtain ⟨G', r, x, hv⟩ := view_any hr (hcells j _ hj).2 hb hle
  have hne : b0 ≠ b := fun e => by subst e; rw [h0] at hb; cases hb
  have h0' : (st.h.set b (.row T gg xs.length true xs))[b0]? = some (.var cs) := by
    rw [List.getElem?_set, if_neg (fun e => hne e.symm)]; exact h0
  obtain ⟨h00', k', arr', T'', hm', hh', hfz', hs', hcells'⟩ := r.rh.bl b0 _ h0'
  have hmm : G'.m b0 0 = G.m b0 0 := x.le.m b0 0 (by have := (List.getElem?_eq_some_iff.1 h0).1; rw [hr.rh.n] at this; exact this) (Nat.zero_le _)
  have hkk : k' = k := by rw [hmm, hm] at hm'; cases hm'; rfl
  subst hkk
  have haa : arr' = arr := by rw [hh] at hh'; cases hh'; rfl
  subst haa
  obtain ⟨rh2, x2⟩ := RH_upd (w' := w) (y := .var (cs.set j (.vec (xs.drop off) len))) r.rh h0' hm' rfl (fun _ _ => rfl) rfl ⟨rfl, rfl⟩ (.refl _ _) ⟨h00', k', arr', T'', hm', hh', hfz', by simp [hs'], fun i u hu => by
    rw [List.getElem?_set] at hu
    split at hu
    · rename_i e
      subst e
      split at hu
      · cases hu; exact ⟨(hcells' j _ hj).1, hv⟩
      · cases hu
    · exact hcells' i u hu⟩ hm'
  exact wp_mono (h G' a w ⟨rh2, r.tm, r.n, r.d⟩) fun _ _ _ hp => hp.mono (x.trans x2) fun _ _ h => h

/-- A nil slice in a variable's cell, as an empty row of one's own. -/
theorem AW_nilcell {c : Code} (b0 j : Nat) (T : TypeId) {cs : List V} (h0 : st.h[b0]? = some (.var cs)) (hj : cs[j]? = some .nils) (hT : 0 < szOf P T)
    (h : AW P ge c Q { st with h := (st.h ++ [B.row T 0 0 true []]).set b0 (.var (cs.set j (.ref st.h.length 0 0 0))) }) : AW P ge c Q st := by
  intro G a w hr
  have hk : ∀ k', (G.push none (szOf P T) 0).at G.n (.row T 0 0 true []) = some k' → w.heap.size ≤ k' := fun k' h => by
    simp [Gh.at, Gh.push] at h
  have hrb : RB P (G.push none (szOf P T) 0) w G.n (.row T 0 0 true []) := ⟨by simp [Gh.push], Nat.zero_le _, by simp [Gh.push, hT], .inl ⟨by simp [Gh.push], rfl⟩⟩
  have rh := hr.rh.push (.refl w) hrb hk
  have ext := Ext.push hr.rh (.refl w) hk
  have hlt : b0 < st.h.length := (List.getElem?_eq_some_iff.1 h0).1
  have h0' : (st.h ++ [B.row T 0 0 true []])[b0]? = some (.var cs) := by rw [List.getElem?_append_left hlt]; exact h0
  obtain ⟨rh2, x2⟩ := RH_retell (j := j) (v := .ref st.h.length 0 0 0) rh h0' (fun c u hu hc ho => by
    rw [hj] at hu; cases hu
    cases hc
    rw [hr.rh.n]
    exact .refn (by simp [Gh.push]) (by simp [Gh.push]) (by simp [Gh.push]))
  exact wp_mono (h _ a w ⟨rh2, fun t => (hr.tm t).mono ext.le, hr.n, hr.d⟩) fun _ _ _ hp => hp.mono (ext.trans x2) fun _ _ h => h
end
end Go.AM
end

section
/-! AM, part Z: regions that draw their order and make one variable. -/
set_option linter.unusedVariables false
set_option linter.unusedSimpArgs false
namespace Go.AM
section
variable {P : Program} {ge : GEnv} {st st' : St} {Q : Exit → St → Prop} {ops : Array Oper}

theorem get_ext {h e : List B} {b : Nat} (hb : b < h.length) : (h ++ e)[b]? = h[b]? := List.getElem?_append_left hb

theorem place_ext {h e : List B} {v : V} (hv : v.lt h.length = true) : place (h ++ e) v = place h v := by
  cases v <;> simp only [place]
  all_goals (simp only [V.lt, decide_eq_true_eq] at hv; rw [get_ext hv])

/-- Blocks laid behind the heap change no operation that does not look at them. -/
theorem op_ext {op : Op} (hs : stillOp op = true) (e : List B) (hl : ∀ x ∈ op.operands, (ev ge st.tm x).lt st.h.length = true) (ho : opOk P ge st op) :
    opOk P ge ⟨st.n, st.tm, st.h ++ e⟩ op ∧ (opVal P ge ⟨st.n, st.tm, st.h ++ e⟩ op).1 = (opVal P ge st op).1 := by
  unfold stillOp at hs
  split at hs
  case h_5 T x =>
    have := hl x (by simp [Op.operands])
    simp only [opOk, opVal, loadGood, loadVal] at ho ⊢
    rw [place_ext this]; exact ⟨ho, rfl⟩
  case h_9 s T x =>
    have := hl x (by simp [Op.operands])
    simp only [opOk, opVal] at ho ⊢
    generalize ev ge st.tm x = v at *
    cases v <;> first
      | exact ⟨ho, rfl⟩
      | (have hb := of_decide_eq_true this
         simp only [convGood, convVal, get_ext hb] at ho ⊢
         first | exact ⟨ho, rfl⟩ | exact ⟨ho, trivial⟩)
  case h_11 s x y =>
    have := hl x (by simp [Op.operands])
    simp only [opOk, opVal] at ho ⊢
    generalize ev ge st.tm x = v at *
    cases v <;> first
      | exact ⟨ho, rfl⟩
      | (have hb := of_decide_eq_true this
         simp only [idxGood, idxVal, get_ext hb] at ho ⊢
         first | exact ⟨ho, rfl⟩ | exact ⟨ho, trivial⟩)
  case h_15 T x lo hi =>
    have := hl x (by simp [Op.operands])
    simp only [opOk, opVal] at ho ⊢
    generalize ev ge st.tm x = v at *
    cases v <;> first
      | exact ⟨ho, rfl⟩
      | (have hb := of_decide_eq_true this
         simp only [sliceGood, sliceVal, get_ext hb] at ho ⊢
         first | exact ⟨ho, rfl⟩ | exact ⟨ho, trivial⟩)
  all_goals first
    | exact ⟨ho, rfl⟩
    | cases hs
theorem Core.ext {op : Op} {v : V} (e : List B) (hl : ∀ x ∈ op.operands, (ev ge st.tm x).lt st.h.length = true) (hc : Core P ge st op v) : Core P ge ⟨st.n, st.tm, st.h ++ e⟩ op v := by
  rcases hc with ⟨h1, h2, h3⟩ | h
  · obtain ⟨h4, h5⟩ := op_ext h1 e hl h2
    exact .inl ⟨h1, h4, h3.trans h5.symm⟩
  · rcases h with h | h | ⟨x, xs, ts, f, args', rfl, h1, h2, h3, h4⟩
    · exact .inr (.inl h)
    · exact .inr (.inr (.inl h))
    · refine .inr (.inr (.inr ⟨x, xs, ts, f, args', rfl, h1, h2, ?_, h4⟩))
      rw [← h3]
      refine List.map_congr_left fun y hy => seen_ext e ?_
      obtain ⟨z, hz, rfl⟩ := List.mem_map.1 hy
      exact hl z (by simp [Op.operands, Call.operands]; right; simpa using hz)
theorem PStep.ext {o : Oper} {v : V} (hc : PStep P ge ops st o v) (e : List B) (hl : ∀ x ∈ o.op.operands, (ev ge st.tm x).lt st.h.length = true) : PStep P ge ops ⟨st.n, st.tm, st.h ++ e⟩ o v := by
  unfold PStep at hc ⊢
  split at hc
  · exact hc.ext e hl
  · obtain ⟨dj, h1, h2, h3, h4, h5⟩ := hc
    exact ⟨dj, h1, h2, h3, fun h => (h4 h).ext e hl, h5⟩

/-- A run in order; the operation j0 makes a variable. -/
def RunA (P : Program) (ge : GEnv) (ops : Array Oper) (j0 : Nat) (zs : List V) : Nat → St → List Oper → List V → Prop
  | _, _, [], [] => True
  | i, st, o :: r, v :: vs => dstOk st.n o.dst = true ∧
      (if i = j0 then (∃ e, o.op = .alloc e ∧ o.guard = none ∧ zeroOf P e = some zs ∧ v = .ptr st.h.length 0) else PStep P ge ops st o v ∧ ∀ x ∈ o.op.operands, (ev ge st.tm x).lt st.h.length = true) ∧
      RunA P ge ops j0 zs (i + 1) { st with tm := putD o.dst v st.tm } r vs
  | _, _, _, _ => False
theorem RunA.len {j0 : Nat} {zs : List V} : ∀ {l : List Oper} {vs : List V} {st : St} {s : Nat}, RunA P ge ops j0 zs s st l vs → vs.length = l.length
  | [], [], _, _, _ => rfl
  | [], _ :: _, _, _, h => h.elim
  | _ :: _, [], _, _, h => h.elim
  | o :: r, v :: vs, st, s, h => by simp [RunA.len h.2.2]
theorem RunA.at {j0 : Nat} {zs : List V} : ∀ {l : List Oper} {vs : List V} {st : St} {s i : Nat} {o : Oper}, RunA P ge ops j0 zs s st l vs → l[i]? = some o →
    (if s + i = j0 then (∃ e, o.op = .alloc e ∧ o.guard = none ∧ zeroOf P e = some zs ∧ vs.getD i .junk = .ptr (fin st (l.take i) (vs.take i)).h.length 0)
      else PStep P ge ops (fin st (l.take i) (vs.take i)) o (vs.getD i .junk) ∧ ∀ x ∈ o.op.operands, (ev ge (fin st (l.take i) (vs.take i)).tm x).lt (fin st (l.take i) (vs.take i)).h.length = true) ∧ dstOk st.n o.dst = true
  | [], _, _, _, _, _, _, h => by simp at h
  | _ :: _, [], _, _, _, _, h, _ => h.elim
  | o :: r, v :: vs, st, s, 0, o', h, ho => by
    simp at ho; subst ho
    simp only [List.take_zero, fin, Nat.add_zero]
    exact ⟨by simpa using h.2.1, h.1⟩
  | o :: r, v :: vs, st, s, i + 1, o', h, ho => by
    obtain ⟨h1, h2⟩ := RunA.at (i := i) h.2.2 (by simpa using ho)
    simp only [List.take_succ_cons, fin]
    rw [show s + (i + 1) = s + 1 + i by omega]
    exact ⟨by simpa using h1, h2⟩

structure DInvA (ops : Array Oper) (k : Nat) (st0 : St) (vs : List V) (listed : Array Bool) (S : St) : Prop where
  n : S.n = st0.n
  one : ∀ (i : Nat) (o : Oper) (t : Nat), i < k → ops[i]? = some o → o.dst = some t → listed.getD i false = true → lk S.tm t = vs.getD i .junk
  old : ∀ (t : Nat), (∀ (i : Nat) (o : Oper), i < k → ops[i]? = some o → listed.getD i false = true → o.dst ≠ some t) → lk S.tm t = lk st0.tm t
  closed : ∀ (j : Nat) (o : Oper), ops[j]? = some o → listed.getD j false = true → ∀ e ∈ o.after, Region.binds .any e = true → listed.getD e.on false = true
  size : listed.size = ops.size

/-- What is looked at is the same as in order. -/
theorem DInvA.look {k : Nat} {st0 S : St} {vs : List V} {listed : Array Bool} (hd : DrawOk ops k) (hlen : vs.length = (ops.toList.take k).length) (hI : DInvA ops k st0 vs listed S)
    {i : Nat} {o : Oper} (hi : i < k) (ho : ops[i]? = some o) (hready : i ∈ Region.ready .any ops listed) :
    ∀ t ∈ o.looksAt ops, lk S.tm t = lk (fin st0 ((ops.toList.take k).take i) (vs.take i)).tm t := by
  intro t ht
  obtain ⟨hni, o', ho', haft⟩ := mem_ready.1 hready
  rw [ho] at ho'; cases ho'
  have hlt := (Array.getElem?_eq_some_iff.1 ho).1
  rw [getD_tf hI.size hlt] at hni
  have hap := apart_take hd
  by_cases hw : ∃ j oj, j < i ∧ ops[j]? = some oj ∧ oj.dst = some t
  · obtain ⟨j, oj, hji, hoj, hdst⟩ := hw
    have hb := (hd.apart j i oj o t (by omega) hi (by omega) hoj ho hdst).2 ht
    have hl : listed.getD j false = true := by
      rcases hb with hb | hb
      · obtain ⟨e, he, hbi, rfl⟩ := beforeB_spec hb
        exact haft e he hbi
      · obtain ⟨e, he, hbi, rfl⟩ := beforeB_spec hb
        have := hd.down j oj hoj e he hbi
        omega
    rw [hI.one j oj t (by omega) hoj hdst hl]
    have h1 : ((ops.toList.take k).take i)[j]? = some oj := by rw [List.getElem?_take_of_lt hji]; exact take_get (by omega) hoj
    rw [fin_new _ _ _ j oj t (by simp [hlen]) (apart_mono hap i) h1 hdst]
    simp [List.getD, List.getElem?_take_of_lt hji]
  · have h1 : lk (fin st0 ((ops.toList.take k).take i) (vs.take i)).tm t = lk st0.tm t := by
      refine fin_old _ _ _ t fun x hx hdx => ?_
      obtain ⟨j, hj⟩ := List.getElem?_of_mem hx
      rw [List.getElem?_take] at hj
      split at hj
      · rename_i hji
        exact hw ⟨j, x, hji, (get_take hj).2, hdx⟩
      · cases hj
    rw [h1]
    refine hI.old t fun j oj hjk hoj hlj hdst => ?_
    rcases Nat.lt_trichotomy j i with h2 | h2 | h2
    · exact hw ⟨j, oj, h2, hoj, hdst⟩
    · subst h2; rw [hni] at hlj; cases hlj
    · rcases (hd.apart j i oj o t hjk hi (by omega) hoj ho hdst).2 ht with hb | hb
      · obtain ⟨e, he, hbi, rfl⟩ := beforeB_spec hb
        have := hd.down i o ho e he hbi
        omega
      · obtain ⟨e, he, hbi, rfl⟩ := beforeB_spec hb
        rw [hI.closed j oj hoj hlj e he hbi] at hni; cases hni

theorem DInvA.fin {k : Nat} {st0 S : St} {vs : List V} {listed : Array Bool} (hd : DrawOk ops k) (hlen : vs.length = (ops.toList.take k).length) (hI : DInvA ops k st0 vs listed S)
    (hall : ∀ i, i < k → i < ops.size → listed.getD i false = true) : ∀ t, lk (fin st0 (ops.toList.take k) vs).tm t = lk S.tm t := by
  intro t
  by_cases hw : ∃ i o, i < k ∧ ops[i]? = some o ∧ o.dst = some t
  · obtain ⟨i, o, hi, ho, hdst⟩ := hw
    rw [hI.one i o t hi ho hdst (hall i hi (Array.getElem?_eq_some_iff.1 ho).1)]
    exact fin_new _ _ _ i o t hlen (apart_take hd) (take_get hi ho) hdst
  · rw [hI.old t fun i o hi ho _ hdst => hw ⟨i, o, hi, ho, hdst⟩]
    refine fin_old _ _ _ t fun x hx hdx => ?_
    obtain ⟨j, hj⟩ := List.getElem?_of_mem hx
    obtain ⟨h1, h2⟩ := get_take hj
    exact hw ⟨j, x, h1, h2, hdx⟩

theorem wpAny_drawA {k j0 : Nat} {zs : List V} {st0 : St} {vs : List V} {G0 : Gh} {w0 : World} (hd : DrawOk ops k) (hj0 : j0 < k) (hj1 : j0 < ops.size) (hrun : RunA P ge ops j0 zs 0 st0 (ops.toList.take k) vs) (htail : AS P ge ops (ops.toList.drop k) Q ⟨st0.n, (fin st0 (ops.toList.take k) vs).tm, st0.h ++ [.var zs]⟩) :
    ∀ (fuel : Nat) (listed : Array Bool) (S : St) (G : Gh) (a : Act) (w : World), DInvA ops k st0 vs listed S → S.h = st0.h ++ (if listed.getD j0 false = true then [.var zs] else []) → unl ops listed ≤ fuel → (∀ j, k ≤ j → j < ops.size → listed.getD j false = false) →
      Rep P ge G S a w → Ext G0 st0.h w0 G S.h w → wpAny P .any ops (CPost P ge Q G0 st0.h w0) fuel listed a w := by
  intro fuel
  induction fuel with
  | zero =>
    intro listed S G a w hI hSh hf hk hr hx
    have hall : ∀ i, i < ops.size → listed.getD i false = true := fun i hi => by
      have : ((List.range ops.size).filter fun j => !listed.getD j true) = [] := List.eq_nil_of_length_eq_zero (Nat.le_zero.1 hf)
      have := List.filter_eq_nil_iff.1 this i (List.mem_range.2 hi)
      rw [← getD_tf hI.size hi]; simpa using this
    have hs := hI.fin hd hrun.len fun i _ hi => hall i hi
    have hSh' : S.h = st0.h ++ [.var zs] := by rw [hSh, if_pos (hall j0 hj1)]
    have h1 := htail G a w (hr.same (by simp only; rw [hI.n]) (by simp only; rw [hSh']) hs)
    simp only at h1
    rw [← hSh'] at h1
    have hks : ops.size ≤ k := by
      rcases Nat.lt_or_ge k ops.size with h2 | h2
      · have := hk k (Nat.le_refl _) h2; rw [hall k h2] at this; cases this
      · exact h2
    refine wpAny_tail hd 0 listed k a w (Nat.le_refl _) hI.size hf (fun i hi => ⟨fun _ => by omega, fun _ => hall i hi⟩) ?_
    exact wpList_mono' (fun _ _ _ hp => hp.mono hx fun _ _ h => h) h1
  | succ fuel ih =>
    intro listed S G a w hI hSh hf hk hr hx
    by_cases hall : ∀ i, i < k → i < ops.size → listed.getD i false = true
    · have hs := hI.fin hd hrun.len hall
      have hSh' : S.h = st0.h ++ [.var zs] := by rw [hSh, if_pos (hall j0 hj0 hj1)]
      have h1 := htail G a w (hr.same (by simp only; rw [hI.n]) (by simp only; rw [hSh']) hs)
      simp only at h1
      rw [← hSh'] at h1
      refine wpAny_tail hd (fuel + 1) listed k a w (Nat.le_refl _) hI.size hf (fun i hi => ⟨fun h => ?_, fun h => hall i h hi⟩) (wpList_mono' (fun _ _ _ hp => hp.mono hx fun _ _ h => h) h1)
      rcases Nat.lt_or_ge i k with h2 | h2
      · exact h2
      · rw [hk i h2 hi] at h; cases h
    · have hlow : ∀ i, i ∈ Region.ready .any ops listed → i < k := fun i hi => by
        rcases Nat.lt_or_ge i k with h2 | h2
        · exact h2
        · exfalso
          refine hall fun j hj hjs => ?_
          obtain ⟨h1, o, h3, h4⟩ := mem_ready.1 hi
          exact tail_listed (L := fun x => listed.getD x false = true) hI.closed h4 (hd.tail i o h3 h2) j (by omega)
      refine ⟨fun hrdy => ?_, fun i hi => ?_⟩
      · exfalso
        -- the first one that is not listed is ready
        have key : ∀ (m : Nat) (i : Nat), i < m → i < ops.size → listed.getD i false = true := by
          intro m
          induction m with
          | zero => intro i hi; omega
          | succ m ihm =>
            intro i hi hs
            rcases Nat.lt_or_ge i m with h1 | h1
            · exact ihm i h1 hs
            · have him : i = m := by omega
              subst him
              cases hh : listed.getD i false
              · have : i ∈ Region.ready .any ops listed := by
                  refine mem_ready.2 ⟨by rw [getD_tf hI.size hs]; exact hh, ops[i], by simp [hs], fun e he hb => ?_⟩
                  have := hd.down i ops[i] (by simp [hs]) e he hb
                  exact ihm e.on this (by omega)
                rw [hrdy] at this; cases this
              · rfl
        exact hall fun i hi hs => key (i + 1) i (by omega) hs
      · have hik := hlow i hi
        obtain ⟨hni, o, ho, haft⟩ := mem_ready.1 hi
        have hlt := (Array.getElem?_eq_some_iff.1 ho).1
        obtain ⟨hps, hdst⟩ := hrun.at (take_get hik ho)
        rw [Nat.zero_add] at hps
        have hdst' : dstOk S.n o.dst = true := by rw [hI.n]; exact hdst
        obtain ⟨S', has, hS'n, hS'tm, hS'h⟩ : ∃ S' : St, AS P ge ops [o] (fun e s => e = .normal ∧ s = S') S ∧ S'.n = S.n ∧ S'.tm = putD o.dst (vs.getD i .junk) S.tm ∧
            S'.h = st0.h ++ (if (listed.setIfInBounds i true).getD j0 false = true then [.var zs] else []) := by
          by_cases hij : i = j0
          · rw [if_pos hij] at hps
            obtain ⟨e, he, hg, hz, hv⟩ := hps
            have hlf : listed.getD j0 false = false := by rw [← hij, ← getD_tf hI.size hlt]; exact hni
            have hSh0 : S.h = st0.h := by rw [hSh, if_neg (by rw [hlf]; simp), List.append_nil]
            obtain ⟨d, op, t, p, af, g⟩ := o
            simp only at he hg hdst'
            subst he; subst hg
            have hl0 : (fin st0 ((ops.toList.take k).take i) (vs.take i)).h.length = S.h.length := by rw [(fin_n _ _ _).2, hSh0]
            rw [hl0] at hv
            refine ⟨⟨S.n, putD d (vs.getD i .junk) S.tm, S.h ++ [.var zs]⟩, ?_, rfl, rfl, ?_⟩
            · rw [hv]; exact AS_op rfl hdst' (S_alloc hz) (AS_nil ⟨rfl, rfl⟩)
            · show S.h ++ [B.var zs] = _
              rw [hSh0, ← hij, if_pos (by simp [Array.getD, hI.size, hlt])]
          · rw [if_neg hij] at hps
            have hps1 := hps.1.ext (if listed.getD j0 false = true then [.var zs] else []) hps.2
            have hps' : PStep P ge ops S o (vs.getD i .junk) := by
              refine PStep.congr (hc := hps1) ?_ ?_ ?_
              · show S.n = (fin st0 _ _).n
                rw [(fin_n _ _ _).1, hI.n]
              · show S.h = (fin st0 _ _).h ++ _
                rw [(fin_n _ _ _).2, hSh]
              · exact fun t ht => hI.look hd hrun.len hik ho hi t ht
            refine ⟨{ S with tm := putD o.dst (vs.getD i .junk) S.tm }, hps'.sound hdst' (AS_nil ⟨rfl, rfl⟩), rfl, rfl, ?_⟩
            rw [getD_set_ne _ hij]; exact hSh
        refine wpOp_of_AS ho has hr fun G' a' w' hr' hx' => ?_
        refine ih _ S' G' a' w' ⟨hS'n.trans hI.n, ?_, ?_, ?_, by simp [hI.size]⟩ hS'h (by have := unl_set hlt hI.size hni; omega) ?_ hr' (hx.trans hx')
        · intro x ox t hxk hox hdx hlx
          rw [hS'tm]
          rw [lk_putD]
          by_cases hxi : i = x
          · subst hxi; rw [ho] at hox; cases hox; rw [if_pos hdx]
          · rw [getD_set_ne _ hxi] at hlx
            rw [if_neg (fun hod => (hd.apart i x o ox t hik hxk hxi ho hox hod).1 hdx)]
            exact hI.one x ox t hxk hox hdx hlx
        · intro t ht
          rw [hS'tm]
          rw [lk_putD, if_neg (ht i o hik ho (by simp [Array.getD, hI.size, hlt]))]
          refine hI.old t fun x ox hxk hox hlx => ht x ox hxk hox (getD_set_true hlx)
        · intro x ox hox hlx e he hb
          by_cases hxi : i = x
          · subst hxi; rw [ho] at hox; cases hox
            exact getD_set_true (haft e he hb)
          · rw [getD_set_ne _ hxi] at hlx
            exact getD_set_true (hI.closed x ox hox hlx e he hb)
        · intro j hj hjs
          rw [getD_set_ne _ (by omega)]
          exact hk j hj hjs


theorem AW_region_drawA {id k j0 : Nat} {zs : List V} {vs : List V} (hm : P.follows .mixedOrders = true) (hd : drawOk ops k = true) (hj0 : j0 < k) (hj1 : j0 < ops.size) (hrun : RunA P ge ops j0 zs 0 st (ops.toList.take k) vs)
    (htail : AS P ge ops (ops.toList.drop k) Q ⟨st.n, (fin st (ops.toList.take k) vs).tm, st.h ++ [.var zs]⟩) : AW P ge (.region id ops true) Q st := by
  intro G a w hr
  refine wp_region_any hm ?_
  obtain ⟨G', hr', hx⟩ := hr.drawn (w.drawn + 1)
  have hrep : ∀ i, (Array.replicate ops.size false).getD i false = false := fun i => by
    simp only [Array.getD_eq_getD_getElem?, Array.getElem?_replicate]; split <;> rfl
  refine wpAny_drawA (drawOk_spec hd) hj0 hj1 hrun htail _ _ st G' a _ ⟨rfl, ?_, fun _ _ => rfl, ?_, by simp⟩ (by rw [hrep]; simp) ?_ (fun j _ _ => hrep j) hr' hx
  · intro i o t _ _ _ h; rw [hrep] at h; cases h
  · intro j o _ h; rw [hrep] at h; cases h
  · unfold unl; exact Nat.le_trans (List.length_filter_le _ _) (by simp)

/-- The walk of such a region: operations ahead of the chain, then the chain. -/
def APA (P : Program) (ge : GEnv) (ops : Array Oper) (K : List (Nat × V) → Prop) (j0 : Nat) (zs : List V) : Nat → List Oper → St → Prop
  | _, [], st => K st.tm
  | i, o :: r, st =>
    if i = j0 then (∃ e, o.op = .alloc e ∧ o.guard = none ∧ zeroOf P e = some zs) ∧ dstOk st.n o.dst = true ∧ APA P ge ops K j0 zs (i + 1) r { st with tm := putD o.dst (.ptr st.h.length 0) st.tm }
    else ∃ v, dstOk st.n o.dst = true ∧ PStep P ge ops st o v ∧ (∀ x ∈ o.op.operands, (ev ge st.tm x).lt st.h.length = true) ∧ APA P ge ops K j0 zs (i + 1) r { st with tm := putD o.dst v st.tm }
theorem APA.run {K : List (Nat × V) → Prop} {j0 : Nat} {zs : List V} : ∀ {l : List Oper} {i : Nat} {st : St}, APA P ge ops K j0 zs i l st → ∃ vs, RunA P ge ops j0 zs i st l vs ∧ K (fin st l vs).tm
  | [], _, _, h => ⟨[], trivial, h⟩
  | o :: r, i, st, h => by
    unfold APA at h
    split at h
    · rename_i hi
      obtain ⟨⟨e, h1, h2, h3⟩, h4, h5⟩ := h
      obtain ⟨vs, h6, h7⟩ := APA.run h5
      exact ⟨.ptr st.h.length 0 :: vs, ⟨h4, by rw [if_pos hi]; exact ⟨e, h1, h2, h3, rfl⟩, h6⟩, h7⟩
    · rename_i hi
      obtain ⟨v, h4, h1, h2, h5⟩ := h
      obtain ⟨vs, h6, h7⟩ := APA.run h5
      exact ⟨v :: vs, ⟨h4, by rw [if_neg hi]; exact ⟨h1, h2⟩, h6⟩, h7⟩
theorem AW_region_APA (k j0 : Nat) (zs : List V) {id : Nat} (hm : P.follows .mixedOrders = true) (hd : drawOk ops k = true) (hj : j0 < k ∧ j0 < ops.size)
    (h : APA P ge ops (fun tm => AO P ge ops Q (ops.toList.drop k) ⟨st.n, tm, st.h ++ [.var zs]⟩) j0 zs 0 (ops.toList.take k) st) : AW P ge (.region id ops true) Q st := by
  obtain ⟨vs, h1, h2⟩ := h.run
  exact AW_region_drawA hm hd hj.1 hj.2 h1 (AS_of_AO h2)
theorem APA_nil {K : List (Nat × V) → Prop} {j0 i : Nat} {zs : List V} (h : K st.tm) : APA P ge ops K j0 zs i [] st := by unfold APA; exact h
theorem APA_still {K : List (Nat × V) → Prop} {j0 i : Nat} {zs : List V} {d : Option Tmp} {op : Op} {t : TypeId} {p : String} {af : Array Edge} {r : List Oper} (hi : ¬ i = j0) (hs : stillOp op = true) (hd : dstOk st.n d = true) (ho : opOk P ge st op)
    (hl : V.lts st.h.length (evs ge st.tm op.operands.toList) = true) (h : APA P ge ops K j0 zs (i + 1) r { st with tm := putD d (opVal P ge st op).1 st.tm }) : APA P ge ops K j0 zs i (⟨d, op, t, p, af, none⟩ :: r) st := by
  unfold APA
  rw [if_neg hi]
  refine ⟨_, hd, .inl ⟨hs, ho, rfl⟩, fun x hx => ?_, h⟩
  rw [evs_eq] at hl
  obtain ⟨j, hj⟩ := List.getElem?_of_mem (Array.mem_toList_iff.2 hx)
  exact V.lts_get hl j _ (by rw [List.getElem?_map, hj]; rfl)
theorem APA_call {K : List (Nat × V) → Prop} {j0 i : Nat} {zs : List V} {d : Option Tmp} {x : Operand} {xs : Array Operand} {ts : Array TypeId} {t : TypeId} {p : String} {af : Array Edge} {r : List Oper} {f : Nat} {A C args : List V} {v : V}
    (hi : ¬ i = j0) (hx : ev ge st.tm x = .fn (.func f) A C) (ha : A ++ evs ge st.tm xs.toList ++ C = args) (hc : PCall P ge f args v) (hf : V.isFs args = true) (hp : v.plain = true) (hd : dstOk st.n d = true)
    (hl : V.lts st.h.length (evs ge st.tm (Op.call { callee := .value x, args := xs, argTypes := ts }).operands.toList) = true) (h : APA P ge ops K j0 zs (i + 1) r { st with tm := putD d v st.tm }) :
    APA P ge ops K j0 zs i (⟨d, .call { callee := .value x, args := xs, argTypes := ts }, t, p, af, none⟩ :: r) st := by
  subst ha
  rw [evs_eq] at hc hf
  unfold APA
  rw [if_neg hi]
  refine ⟨v, hd, .inr (.inl ⟨x, xs, ts, f, A, C, rfl, hx, hc, hf, hp⟩), fun y hy => ?_, h⟩
  rw [evs_eq] at hl
  obtain ⟨j, hj⟩ := List.getElem?_of_mem (Array.mem_toList_iff.2 hy)
  exact V.lts_get hl j _ (by rw [List.getElem?_map, hj]; rfl)
theorem APA_alloc {K : List (Nat × V) → Prop} {j0 : Nat} {zs : List V} {d : Option Tmp} {e : TypeId} {t : TypeId} {p : String} {af : Array Edge} {r : List Oper} (hz : zeroOf P e = some zs) (hd : dstOk st.n d = true)
    (h : APA P ge ops K j0 zs (j0 + 1) r { st with tm := putD d (.ptr st.h.length 0) st.tm }) : APA P ge ops K j0 zs j0 (⟨d, .alloc e, t, p, af, none⟩ :: r) st := by
  unfold APA
  rw [if_pos rfl]
  exact ⟨⟨e, rfl, rfl, hz⟩, hd, h⟩
/-- A result that lies in a variable. -/
theorem retqc {t : Nat} {T : TypeId} {cs : List V} {off : Nat} {r : V} (hp : place st.h (lk st.tm t) = some (cs, off)) (ho : loadOk P T cs off) (hc : Conv st.h (loadV P T cs off) r) : RetQ P #[.cell t T] r .ret st :=
  ⟨.inr rfl, _, ⟨cs, off, hp, ho, rfl⟩, hc⟩
theorem retq2ct {t u : Nat} {T : TypeId} {cs : List V} {off : Nat} {r : V} (hp : place st.h (lk st.tm t) = some (cs, off)) (ho : loadOk P T cs off) (hc : Conv st.h (.tup [loadV P T cs off, lk st.tm u]) r) : RetQ P #[.cell t T, .tmp u] r .ret st :=
  ⟨.inr rfl, _, ⟨[loadV P T cs off, lk st.tm u], rfl, ⟨cs, off, hp, ho, rfl⟩, rfl, trivial⟩, hc⟩
end
end Go.AM
end

section
set_option linter.unusedVariables false
set_option linter.unusedSimpArgs false
namespace Go.Proofs.YtgmlimipejcpgaaGreatDoor
open Go Go.AM Fx
/-! Guards and sets that are looked through. -/
def diagG (g : GuardD) : Bool := decide (g.other ≠ 0)
def greatG (g : GuardD) : Bool := decide (g.n < 0 ∨ 1048576 < g.n)
def greatS (s : SetD) : Bool := decide (s.clock ≠ 0 ∧ (s.n < 0 ∨ 1048576 < s.n))
def cmpG (g : GuardD) : Bool := decide (g.cmp < 1 ∨ 5 < g.cmp)
def isClk (n : NetD) (c : Int) : Bool := decide (1 ≤ c ∧ c ≤ n.clocks.length)
def clkG (n : NetD) (g : GuardD) : Bool := !isClk n g.clock || (decide (g.other ≠ 0) && !isClk n g.other)
def varV (v : VarD) : Bool := decide (v.init < v.lo ∨ v.hi < v.init ∨ v.lo < -1048576 ∨ 1048576 < v.hi)
theorem c_isClock (n : NetD) (c : Int) : PC 193 [.agg n.cells, .int .i64 c] (.bool (isClk n c)) := by
  refine PCall_body Tryz.func193 rfl (by decide) Tryz.ntmps193 (by simp) Tryz.results193 ?_
  repeat' (first
 |refine AW_seq_k fun K hK=>?_|refine Step.by1 ?_|refine SBlock_exit_ne (by decide) ?_|refine cz rfl ?_|refine Fork.by2 (fun h=>?_) fun h=>?_
 |(refine AW_region_AO ?_;simp [vl, NetD.cells])
 |(refine Split.by2 (fun h=>?_) (fun h=>?_)<;>(simp [h, vl, NetD.cells]))
 |(apply hK;clear hK K)|refine AWh (by assumption) ?_)
  all_goals first
    | exact retq1 (conv_eq (by simp [isClk, *]) rfl)
    | trace_state

def diagE (l : List GuardD) : Int := if l.any (diagG) then 120 else 0
theorem c_diagE (l : List GuardD) (hl : l.length ≤ 1099511627776) : PC 61 [vl GuardD.cells l] (.int .i64 (diagE l)) := by
  refine PCall_body Tryz.func61 rfl (by decide) Tryz.ntmps61 (by simp) Tryz.results61 ?_
  repeat' (first
 |refine AW_seq_k fun K hK=>?_|refine Step.by1 ?_|refine SBlock_exit_ne (by decide) ?_|refine cz rfl ?_|refine Fork.by2 (fun h=>?_) fun h=>?_
 |(refine AW_region_AO ?_;simp [vl])
 |(refine Split.by2 (fun h=>?_) (fun h=>?_)<;>(simp [h, vl]))
 |(apply hK;clear hK K)|refine AWh (by assumption) ?_)
  refine AW_scan (l) 7 [5, 6] (diagE) rfl (by apply Weak.mk' <;> simp [vl]) ?_ ?_
  · intro i x _ hlt hx hF
    repeat' (first
 |refine AW_seq_k fun K hK=>?_|refine Step.by1 ?_|refine SBlock_exit_ne (by decide) ?_|refine cz rfl ?_|refine Fork.by2 (fun h=>?_) fun h=>?_
 |(refine AW_region_AO ?_;simp [vl, GuardD.cells, hlt, hx, wrap_i64];try (simp (disch:=omega) only [wrap_i64];try simp [vl, GuardD.cells, hlt, hx, wrap_i64]))
 |(refine Split.by2 (fun h=>?_) (fun h=>?_)<;>(simp [h, vl, GuardD.cells, hlt, hx, wrap_i64];try (simp (disch:=omega) only [wrap_i64];try simp [vl, GuardD.cells, hlt, hx, wrap_i64])))
 |(apply hK;clear hK K)|refine AWh (by assumption) ?_)
    all_goals first
      | exact retq1 (conv_eq (by rw [← hF]; simp [diagE, diagG, *]) rfl)
      | (refine ⟨by rw [← hF]; simp [diagE, diagG, *], ?_⟩; apply Weak.mk' <;> simp [vl])
      | trace_state
  · intro hF
    repeat' (first
 |refine AW_seq_k fun K hK=>?_|refine Step.by1 ?_|refine SBlock_exit_ne (by decide) ?_|refine cz rfl ?_|refine Fork.by2 (fun h=>?_) fun h=>?_
 |(refine AW_region_AO ?_;simp [vl])
 |(refine Split.by2 (fun h=>?_) (fun h=>?_)<;>(simp [h, vl]))
 |(apply hK;clear hK K)|refine AWh (by assumption) ?_)
    exact retq1 (conv_eq (by rw [← hF]; simp [diagE]) rfl)

def greatE (l : List GuardD) : Int := if l.any (greatG) then 13 else 0
theorem c_greatE (l : List GuardD) (hl : l.length ≤ 1099511627776) : PC 64 [vl GuardD.cells l] (.int .i64 (greatE l)) := by
  refine PCall_body Tryz.func64 rfl (by decide) Tryz.ntmps64 (by simp) Tryz.results64 ?_
  repeat' (first
 |refine AW_seq_k fun K hK=>?_|refine Step.by1 ?_|refine SBlock_exit_ne (by decide) ?_|refine cz rfl ?_|refine Fork.by2 (fun h=>?_) fun h=>?_
 |(refine AW_region_AO ?_;simp [vl])
 |(refine Split.by2 (fun h=>?_) (fun h=>?_)<;>(simp [h, vl]))
 |(apply hK;clear hK K)|refine AWh (by assumption) ?_)
  refine AW_scan (l) 7 [5, 6] (greatE) rfl (by apply Weak.mk' <;> simp [vl]) ?_ ?_
  · intro i x _ hlt hx hF
    repeat' (first
 |refine AW_seq_k fun K hK=>?_|refine Step.by1 ?_|refine SBlock_exit_ne (by decide) ?_|refine cz rfl ?_|refine Fork.by2 (fun h=>?_) fun h=>?_
 |(refine AW_region_AO ?_;simp [vl, GuardD.cells, hlt, hx, wrap_i64];try (simp (disch:=omega) only [wrap_i64];try simp [vl, GuardD.cells, hlt, hx, wrap_i64]))
 |(refine Split.by2 (fun h=>?_) (fun h=>?_)<;>(simp [h, vl, GuardD.cells, hlt, hx, wrap_i64];try (simp (disch:=omega) only [wrap_i64];try simp [vl, GuardD.cells, hlt, hx, wrap_i64])))
 |(apply hK;clear hK K)|refine AWh (by assumption) ?_)
    all_goals first
      | exact retq1 (conv_eq (by rw [← hF]; simp [greatE, greatG, *]) rfl)
      | (refine ⟨by rw [← hF]; simp [greatE, greatG, *], ?_⟩; apply Weak.mk' <;> simp [vl])
      | trace_state
  · intro hF
    repeat' (first
 |refine AW_seq_k fun K hK=>?_|refine Step.by1 ?_|refine SBlock_exit_ne (by decide) ?_|refine cz rfl ?_|refine Fork.by2 (fun h=>?_) fun h=>?_
 |(refine AW_region_AO ?_;simp [vl])
 |(refine Split.by2 (fun h=>?_) (fun h=>?_)<;>(simp [h, vl]))
 |(apply hK;clear hK K)|refine AWh (by assumption) ?_)
    exact retq1 (conv_eq (by rw [← hF]; simp [greatE]) rfl)

def greatSE (l : List SetD) : Int := if l.any (greatS) then 13 else 0
theorem c_greatSE (l : List SetD) (hl : l.length ≤ 1099511627776) : PC 66 [vl SetD.cells l] (.int .i64 (greatSE l)) := by
  refine PCall_body Tryz.func66 rfl (by decide) Tryz.ntmps66 (by simp) Tryz.results66 ?_
  repeat' (first
 |refine AW_seq_k fun K hK=>?_|refine Step.by1 ?_|refine SBlock_exit_ne (by decide) ?_|refine cz rfl ?_|refine Fork.by2 (fun h=>?_) fun h=>?_
 |(refine AW_region_AO ?_;simp [vl])
 |(refine Split.by2 (fun h=>?_) (fun h=>?_)<;>(simp [h, vl]))
 |(apply hK;clear hK K)|refine AWh (by assumption) ?_)
  refine AW_scan (l) 7 [5, 6] (greatSE) rfl (by apply Weak.mk' <;> simp [vl]) ?_ ?_
  · intro i x _ hlt hx hF
    repeat' (first
 |refine AW_seq_k fun K hK=>?_|refine Step.by1 ?_|refine SBlock_exit_ne (by decide) ?_|refine cz rfl ?_|refine Fork.by2 (fun h=>?_) fun h=>?_
 |(refine AW_region_AO ?_;simp [vl, SetD.cells, hlt, hx, wrap_i64];try (simp (disch:=omega) only [wrap_i64];try simp [vl, SetD.cells, hlt, hx, wrap_i64]))
 |(refine Split.by2 (fun h=>?_) (fun h=>?_)<;>(simp [h, vl, SetD.cells, hlt, hx, wrap_i64];try (simp (disch:=omega) only [wrap_i64];try simp [vl, SetD.cells, hlt, hx, wrap_i64])))
 |(apply hK;clear hK K)|refine AWh (by assumption) ?_)
    all_goals first
      | exact retq1 (conv_eq (by rw [← hF]; simp [greatSE, greatS, *]) rfl)
      | (refine ⟨by rw [← hF]; simp [greatSE, greatS, *], ?_⟩; apply Weak.mk' <;> simp [vl])
      | trace_state
  · intro hF
    repeat' (first
 |refine AW_seq_k fun K hK=>?_|refine Step.by1 ?_|refine SBlock_exit_ne (by decide) ?_|refine cz rfl ?_|refine Fork.by2 (fun h=>?_) fun h=>?_
 |(refine AW_region_AO ?_;simp [vl])
 |(refine Split.by2 (fun h=>?_) (fun h=>?_)<;>(simp [h, vl]))
 |(apply hK;clear hK K)|refine AWh (by assumption) ?_)
    exact retq1 (conv_eq (by rw [← hF]; simp [greatSE]) rfl)

def cmpE (l : List GuardD) : Int := if l.any (cmpG) then 7 else 0
theorem c_cmpE (l : List GuardD) (hl : l.length ≤ 1099511627776) : PC 150 [vl GuardD.cells l] (.int .i64 (cmpE l)) := by
  refine PCall_body Tryz.func150 rfl (by decide) Tryz.ntmps150 (by simp) Tryz.results150 ?_
  repeat' (first
 |refine AW_seq_k fun K hK=>?_|refine Step.by1 ?_|refine SBlock_exit_ne (by decide) ?_|refine cz rfl ?_|refine Fork.by2 (fun h=>?_) fun h=>?_
 |(refine AW_region_AO ?_;simp [vl])
 |(refine Split.by2 (fun h=>?_) (fun h=>?_)<;>(simp [h, vl]))
 |(apply hK;clear hK K)|refine AWh (by assumption) ?_)
  refine AW_scan (l) 7 [5, 6] (cmpE) rfl (by apply Weak.mk' <;> simp [vl]) ?_ ?_
  · intro i x _ hlt hx hF
    repeat' (first
 |refine AW_seq_k fun K hK=>?_|refine Step.by1 ?_|refine SBlock_exit_ne (by decide) ?_|refine cz rfl ?_|refine Fork.by2 (fun h=>?_) fun h=>?_
 |(refine AW_region_AO ?_;simp [vl, GuardD.cells, hlt, hx, wrap_i64];try (simp (disch:=omega) only [wrap_i64];try simp [vl, GuardD.cells, hlt, hx, wrap_i64]))
 |(refine Split.by2 (fun h=>?_) (fun h=>?_)<;>(simp [h, vl, GuardD.cells, hlt, hx, wrap_i64];try (simp (disch:=omega) only [wrap_i64];try simp [vl, GuardD.cells, hlt, hx, wrap_i64])))
 |(apply hK;clear hK K)|refine AWh (by assumption) ?_)
    all_goals first
      | exact retq1 (conv_eq (by rw [← hF]; simp [cmpE, cmpG, *]) rfl)
      | (refine ⟨by rw [← hF]; simp [cmpE, cmpG, *], ?_⟩; apply Weak.mk' <;> simp [vl])
      | trace_state
  · intro hF
    repeat' (first
 |refine AW_seq_k fun K hK=>?_|refine Step.by1 ?_|refine SBlock_exit_ne (by decide) ?_|refine cz rfl ?_|refine Fork.by2 (fun h=>?_) fun h=>?_
 |(refine AW_region_AO ?_;simp [vl])
 |(refine Split.by2 (fun h=>?_) (fun h=>?_)<;>(simp [h, vl]))
 |(apply hK;clear hK K)|refine AWh (by assumption) ?_)
    exact retq1 (conv_eq (by rw [← hF]; simp [cmpE]) rfl)

def clkE (n : NetD) (l : List GuardD) : Int := if l.any (clkG n) then 12 else 0
theorem c_clkE (n : NetD) (l : List GuardD) (hl : l.length ≤ 1099511627776) : PC 148 [.agg n.cells, vl GuardD.cells l] (.int .i64 (clkE n l)) := by
  refine PCall_body Tryz.func148 rfl (by decide) Tryz.ntmps148 (by simp) Tryz.results148 ?_
  repeat' (first
 |refine AW_seq_k fun K hK=>?_|refine Step.by1 ?_|refine SBlock_exit_ne (by decide) ?_|refine cz rfl ?_|refine Fork.by2 (fun h=>?_) fun h=>?_
 |(refine AW_region_AO ?_;simp [vl, NetD.cells])
 |(refine Split.by2 (fun h=>?_) (fun h=>?_)<;>(simp [h, vl, NetD.cells]))
 |(apply hK;clear hK K)|refine AWh (by assumption) ?_)
  refine AW_scan (l) 9 [2, 7, 8] (clkE n) rfl (by apply Weak.mk' <;> simp [vl]) ?_ ?_
  · intro i x _ hlt hx hF
    have hc1 := c_isClock n x.clock
    have hc2 := c_isClock n x.other
    simp only [NetD.cells, vl] at hc1 hc2
    generalize hk1 : isClk n x.clock = k1 at hc1
    generalize hk2 : isClk n x.other = k2 at hc2
    repeat' (first
 |refine AW_seq_k fun K hK=>?_|refine Step.by1 ?_|refine SBlock_exit_ne (by decide) ?_|refine cz rfl ?_|refine Fork.by2 (fun h=>?_) fun h=>?_
 |((first|refine AW_region_AO ?_|refine AS_call1 (f:=193) rfl rfl (hc1) rfl rfl rfl ?_|refine AS_call1 (f:=193) rfl rfl (hc2) rfl rfl rfl ?_);simp [vl, GuardD.cells, NetD.cells, hlt, hx, wrap_i64];try (simp (disch:=omega) only [wrap_i64];try simp [vl, GuardD.cells, NetD.cells, hlt, hx, wrap_i64]))
 |(refine Split.by2 (fun h=>?_) (fun h=>?_)<;>(simp [h, vl, GuardD.cells, NetD.cells, hlt, hx, wrap_i64];try (simp (disch:=omega) only [wrap_i64];try simp [vl, GuardD.cells, NetD.cells, hlt, hx, wrap_i64])))
 |(apply hK;clear hK K)|refine AWh (by assumption) ?_)
    all_goals first
      | exact retq1 (conv_eq (by rw [← hF]; simp [clkE, clkG, *]) rfl)
      | (refine ⟨by rw [← hF]; simp [clkE, clkG, *], ?_⟩; apply Weak.mk' <;> simp [vl, NetD.cells])
      | trace_state
  · intro hF
    repeat' (first
 |refine AW_seq_k fun K hK=>?_|refine Step.by1 ?_|refine SBlock_exit_ne (by decide) ?_|refine cz rfl ?_|refine Fork.by2 (fun h=>?_) fun h=>?_
 |(refine AW_region_AO ?_;simp [vl, NetD.cells])
 |(refine Split.by2 (fun h=>?_) (fun h=>?_)<;>(simp [h, vl, NetD.cells]))
 |(apply hK;clear hK K)|refine AWh (by assumption) ?_)
    exact retq1 (conv_eq (by rw [← hF]; simp [clkE]) rfl)

def varE (l : List VarD) : Int := if l.any (varV) then 124 else 0
theorem c_varE (n : NetD) (hl : n.vars.length ≤ 1099511627776) : PC 131 [.agg n.cells] (.int .i64 (varE n.vars)) := by
  refine PCall_body Tryz.func131 rfl (by decide) Tryz.ntmps131 (by simp) Tryz.results131 ?_
  repeat' (first
 |refine AW_seq_k fun K hK=>?_|refine Step.by1 ?_|refine SBlock_exit_ne (by decide) ?_|refine cz rfl ?_|refine Fork.by2 (fun h=>?_) fun h=>?_
 |(refine AW_region_AO ?_;simp [vl, NetD.cells])
 |(refine Split.by2 (fun h=>?_) (fun h=>?_)<;>(simp [h, vl, NetD.cells]))
 |(apply hK;clear hK K)|refine AWh (by assumption) ?_)
  refine AW_scan (n.vars) 8 [6, 7] (varE) rfl (by apply Weak.mk' <;> simp [vl]) ?_ ?_
  · intro i x _ hlt hx hF
    repeat' (first
 |refine AW_seq_k fun K hK=>?_|refine Step.by1 ?_|refine SBlock_exit_ne (by decide) ?_|refine cz rfl ?_|refine Fork.by2 (fun h=>?_) fun h=>?_
 |(refine AW_region_AO ?_;simp [vl, VarD.cells, NetD.cells, hlt, hx, wrap_i64];try (simp (disch:=omega) only [wrap_i64];try simp [vl, VarD.cells, NetD.cells, hlt, hx, wrap_i64]))
 |(refine Split.by2 (fun h=>?_) (fun h=>?_)<;>(simp [h, vl, VarD.cells, NetD.cells, hlt, hx, wrap_i64];try (simp (disch:=omega) only [wrap_i64];try simp [vl, VarD.cells, NetD.cells, hlt, hx, wrap_i64])))
 |(apply hK;clear hK K)|refine AWh (by assumption) ?_)
    all_goals first
      | exact retq1 (conv_eq (by rw [← hF]; simp [varE, varV, *]) rfl)
      | (refine ⟨by rw [← hF]; simp [varE, varV, *], ?_⟩; apply Weak.mk' <;> simp [vl, NetD.cells])
      | trace_state
  · intro hF
    repeat' (first
 |refine AW_seq_k fun K hK=>?_|refine Step.by1 ?_|refine SBlock_exit_ne (by decide) ?_|refine cz rfl ?_|refine Fork.by2 (fun h=>?_) fun h=>?_
 |(refine AW_region_AO ?_;simp [vl, NetD.cells])
 |(refine Split.by2 (fun h=>?_) (fun h=>?_)<;>(simp [h, vl, NetD.cells]))
 |(apply hK;clear hK K)|refine AWh (by assumption) ?_)
    exact retq1 (conv_eq (by rw [← hF]; simp [varE]) rfl)
end Go.Proofs.YtgmlimipejcpgaaGreatDoor
end
