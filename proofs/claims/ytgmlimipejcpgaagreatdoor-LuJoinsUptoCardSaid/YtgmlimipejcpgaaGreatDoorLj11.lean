/-
  YtgmlimipejcpgaaGreatDoorLj11: steps of the proof of a law of the program: what these texts prove holds under the hypotheses that their theorems name, and no others.
-/
import Derived.Test.YtgmlimipejcpgaaGreatDoorLj10
import Derived.MapKept
import Derived.Test.YtgmlimipejcpgaaGreatDoorLj08
import Derived.Test.YtgmlimipejcpgaaGreatDoorRows
section
set_option linter.unusedVariables false
set_option linter.unusedSimpArgs false
namespace Go.AM
/-- The temps of a state that stay. -/
def pickTm (tm : List (Nat × V)) : List Nat → List (Nat × V)
  | [] => []
  | t :: r => (t, lk tm t) :: pickTm tm r
section
variable {P : Program} {ge : GEnv} {st : St} {Q : Exit → St → Prop}
/-- The state at the head of a loop: the index, what turns, what stays. -/
def headSt (st : St) (L : List Nat) (vs : List (Nat × V)) (h : List B) : St := ⟨st.n, vs ++ pickTm st.tm L, h⟩
/-- A loop whose head is told by what turns (vs, H) and the temps that stay (L). -/
theorem aL {σ : Type} (L : List Nat) (vs : σ → List (Nat × V)) (H : σ → List B) (I : σ → Prop) (μ : σ → Nat) {c : Code} (x0 : σ) (h0 : I x0)
    (hst : Weak st (headSt st L (vs x0) (H x0))) (hlen : ∀ x, I x → (H x).length = st.h.length)
    (round : ∀ x, I x → AW P ge c (SThen (fun s => ∃ x', I x' ∧ μ x' < μ x ∧ Weak s (headSt st L (vs x') (H x'))) Q) (headSt st L (vs x) (H x))) : AW P ge (.loop c) Q st :=
  AW_loop (fun x => headSt st L (vs x) (H x)) I μ h0 hst hlen round
/-- A loop over a list, element by element, told by a function of the rest of the list. -/
theorem AW_range {α acc ρ : Type} (l : List α) (ti : Nat) (L : List Nat) (vs : acc → List (Nat × V)) (H : acc → List B) (J : Nat → acc → Prop) (F : List α → acc → ρ) {c : Code} (a0 : acc) {r : ρ}
    (hr : F l a0 = r) (hJ : J 0 a0) (hst : Weak st (headSt st L ((ti, .int .i64 ((0 : Nat) : Int)) :: vs a0) (H a0))) (hlen : ∀ i a, J i a → (H a).length = st.h.length)
    (body : ∀ (i : Nat) (a : acc) (x : α), l[i]? = some x → (hlt : i < l.length) → l[i] = x → J i a → F (x :: l.drop (i + 1)) a = r →
      AW P ge c (SThen (fun s => ∃ a', F (l.drop (i + 1)) a' = r ∧ J (i + 1) a' ∧ Weak s (headSt st L ((ti, .int .i64 ((i + 1 : Nat) : Int)) :: vs a') (H a'))) Q) (headSt st L ((ti, .int .i64 (i : Int)) :: vs a) (H a)))
    (done : ∀ a, J l.length a → F [] a = r → AW P ge c (SThen (fun _ => False) Q) (headSt st L ((ti, .int .i64 (l.length : Int)) :: vs a) (H a))) : AW P ge (.loop c) Q st := by
  refine AW_loop (fun x : Nat × acc => headSt st L ((ti, .int .i64 (x.1 : Int)) :: vs x.2) (H x.2)) (fun x => x.1 ≤ l.length ∧ J x.1 x.2 ∧ F (l.drop x.1) x.2 = r) (fun x => l.length - x.1) (x0 := (0, a0))
    ⟨Nat.zero_le _, hJ, hr⟩ hst (fun x hx => hlen x.1 x.2 hx.2.1) ?_
  rintro ⟨i, a⟩ ⟨h1, h2, h3⟩
  simp only at h1 h2 h3
  rcases Nat.lt_or_ge i l.length with hlt | hge
  · have hx : l[i]? = some l[i] := List.getElem?_eq_getElem hlt
    rw [List.drop_eq_getElem_cons hlt] at h3
    refine (body i a l[i] hx hlt rfl h2 h3).mono fun e s h => ?_
    cases e <;> simp only [SThen] at h ⊢
    case normal =>
      obtain ⟨a', k1, k2, k3⟩ := h
      exact ⟨(i + 1, a'), ⟨hlt, k2, k1⟩, by simp only; omega, k3⟩
    all_goals exact h
  · have hi : i = l.length := by omega
    subst hi
    rw [List.drop_of_length_le (Nat.le_refl _)] at h3
    refine (done a h2 h3).mono fun e s h => ?_
    cases e <;> simp only [SThen] at h ⊢
    all_goals first | exact h.elim | exact h
/-- A loop over a list that only looks. -/
theorem aS1 {α ρ : Type} (l : List α) (ti : Nat) (L : List Nat) (F : List α → ρ) {c : Code} {r : ρ} (hr : F l = r) (hst : Weak st (headSt st L [(ti, .int .i64 ((0 : Nat) : Int))] st.h))
    (body : ∀ (i : Nat) (x : α), l[i]? = some x → (hlt : i < l.length) → l[i] = x → F (x :: l.drop (i + 1)) = r →
      AW P ge c (SThen (fun s => F (l.drop (i + 1)) = r ∧ Weak s (headSt st L [(ti, .int .i64 ((i + 1 : Nat) : Int))] st.h)) Q) (headSt st L [(ti, .int .i64 (i : Int))] st.h))
    (done : F [] = r → AW P ge c (SThen (fun _ => False) Q) (headSt st L [(ti, .int .i64 (l.length : Int))] st.h)) : AW P ge (.loop c) Q st :=
  AW_range l ti L (fun _ : Unit => []) (fun _ => st.h) (fun _ _ => True) (fun l _ => F l) () hr trivial hst (fun _ _ _ => rfl)
    (fun i _ x h1 h2 h3 _ h4 => (body i x h1 h2 h3 h4).mono fun e s h => by
      cases e <;> simp only [SThen] at h ⊢
      case normal => exact ⟨(), h.1, trivial, h.2⟩
      all_goals exact h) (fun _ _ h => done h)
end
mutual
def V.trim : V → V
  | .vec xs len => .vec (V.trimR len xs) len
  | .agg cs => .agg (V.trims cs)
  | .tup cs => .tup (V.trims cs)
  | .fp cs off => .fp (V.trims cs) off
  | .fn f a b => .fn f (V.trims a) (V.trims b)
  | .ifc t v => .ifc t (V.trim v)
  | v => v
def V.trims : List V → List V
  | [] => []
  | v :: r => V.trim v :: V.trims r
def V.trimR : Nat → List (List V) → List (List V)
  | 0, _ => []
  | _ + 1, [] => []
  | n + 1, x :: r => V.trims x :: V.trimR n r
end
theorem trims_eq : ∀ cs : List V, V.trims cs = cs.map V.trim
  | [] => rfl
  | v :: r => by rw [V.trims, List.map_cons, trims_eq r]
theorem trimR_eq : ∀ (n : Nat) (xs : List (List V)), V.trimR n xs = (xs.take n).map V.trims
  | 0, xs => by simp [V.trimR]
  | n + 1, [] => by simp [V.trimR]
  | n + 1, x :: r => by rw [V.trimR, List.take_succ_cons, List.map_cons, trimR_eq n r]
theorem R.trim {G : Gh} {w : World} {fr : Bool} {v : V} {c : Value} (h : R G w fr v c) : R G w fr v.trim c := by
  have tg : ∀ {cs : List V} {j : Nat} {v : V}, (V.trims cs)[j]? = some v → ∃ u, cs[j]? = some u ∧ v = u.trim := fun {cs j v} hv => by
    rw [trims_eq, List.getElem?_map] at hv
    obtain ⟨u, h1, h2⟩ := Option.map_eq_some_iff.1 hv
    exact ⟨u, h1, h2.symm⟩
  have rg : ∀ {xs : List (List V)} {n i : Nat} {x : List V}, (V.trimR n xs)[i]? = some x → ∃ y, xs[i]? = some y ∧ x = V.trims y := fun {xs n i x} hx => by
    rw [trimR_eq, List.getElem?_map] at hx
    obtain ⟨y, h1, h2⟩ := Option.map_eq_some_iff.1 hx
    rw [List.getElem?_take] at h1
    split at h1
    · exact ⟨y, h1, h2.symm⟩
    · cases h1
  induction h with
  | emp h => exact .emp h
  | @vec _ _ _ _ _ _ sz h1 h2 h3 hl hc ho hr ih =>
    refine .vec (sz := sz) (by rw [trimR_eq, List.length_map, List.length_take]; omega) (by rw [trimR_eq, List.length_map, List.length_take]; omega) h3 (fun i x hx => ?_) (fun i x j v hx hv => ?_) (fun i x j v hx hv => ?_) (fun i x j v hx hv => ?_)
    · obtain ⟨y, h4, rfl⟩ := rg hx; rw [trims_eq, List.length_map]; exact hl i y h4
    · obtain ⟨y, h4, rfl⟩ := rg hx; obtain ⟨u, h5, rfl⟩ := tg hv; exact hc i y j u h4 h5
    · obtain ⟨y, h4, rfl⟩ := rg hx; obtain ⟨u, h5, rfl⟩ := tg hv; exact ho i y j u h4 h5
    · obtain ⟨y, h4, rfl⟩ := rg hx; obtain ⟨u, h5, rfl⟩ := tg hv; exact ih i y j u h4 h5
  | fp hc ho hr ih =>
    refine .fp (fun j v hv => ?_) (fun j v hv => ?_) (fun j v hv => ?_)
    · obtain ⟨u, h5, rfl⟩ := tg hv; exact hc j u h5
    · obtain ⟨u, h5, rfl⟩ := tg hv; exact ho j u h5
    · obtain ⟨u, h5, rfl⟩ := tg hv; exact ih j u h5
  | agg hs ho hr ih =>
    refine .agg (by rw [trims_eq, List.length_map]; exact hs) (fun i v hv => ?_) (fun i v hv => ?_)
    · obtain ⟨u, h5, rfl⟩ := tg hv; exact ho i u h5
    · obtain ⟨u, h5, rfl⟩ := tg hv; exact ih i u h5
  | tup hs hr ih =>
    refine .tup (by rw [trims_eq, List.length_map]; exact hs) (fun i v hv => ?_)
    obtain ⟨u, h5, rfl⟩ := tg hv; exact ih i u h5
  | fn hs hr hs' hr' ih ih' =>
    refine .fn (by rw [trims_eq, List.length_map]; exact hs) (fun i v hv => ?_) (by rw [trims_eq, List.length_map]; exact hs') (fun i v hv => ?_)
    · obtain ⟨u, h5, rfl⟩ := tg hv; exact ih i u h5
    · obtain ⟨u, h5, rfl⟩ := tg hv; exact ih' i u h5
  | ifc hr ih => exact .ifc ih
  | junk => exact .junk
  | void => exact .void
  | bool => exact .bool
  | int => exact .int
  | str => exact .str
  | nils => exact .nils
  | nilp => exact .nilp
  | nilf => exact .nilf
  | nilm => exact .nilm
  | nili => exact .nili
  | ref hb hg hm hle => exact .ref hb hg hm hle
  | refn hb hg hm => exact .refn hb hg hm
  | ptr hb hm => exact .ptr hb hm
  | ep hb hg hm => exact .ep hb hg hm
  | mp hb hm => exact .mp hb hm
/-- A contract for what is seen of the arguments. -/
theorem PCall.trim {P : Program} {ge : GEnv} {f : Nat} {args args' : List V} {r : V} (hc : PCall P ge f args' r) (ha : V.trims args = args') : PCall P ge f args r := by
  subst ha
  refine ⟨hc.1, fun G w cargs h hg => hc.2 G w cargs ⟨by rw [trims_eq, List.length_map]; exact h.1, fun i v hv => ?_⟩ hg⟩
  rw [trims_eq, List.getElem?_map] at hv
  obtain ⟨u, h1, rfl⟩ := Option.map_eq_some_iff.1 hv
  exact (h.2 i u h1).trim
/-- A row of one's own, frozen. -/
theorem PCall.freeze {P : Program} {ge : GEnv} {f : Nat} {args : List V} {T : TypeId} {xs : List (List V)} (hc : PCall P ge f args (.own T xs)) : PCall P ge f args (.vec xs xs.length) := by
  refine ⟨hc.1, fun G w cargs ha hg => (hc.2 G w cargs ha hg).mono ?_⟩
  rintro e w' ⟨c, G', rfl, kept, h0, ⟨rfl, rfl⟩ | ⟨k, cap, arr, rfl, hb, hh, hfz, hs, hl, hcm, hlen, hc⟩⟩
  · exact ⟨_, G', rfl, kept, .emp (Nat.zero_le _)⟩
  · have hk : k < w'.heap.size := by
      rcases Nat.lt_or_ge k w'.heap.size with h | h
      · exact h
      · rw [Array.getElem?_eq_none h] at hh; cases hh
    have hle : ∀ j, G'.fz j ≤ (if j = k then arr.size else G'.fz j) := fun j => by
      split
      · rename_i h; subst h; omega
      · exact Nat.le_refl _
    refine ⟨_, G'.withFz fun j => if j = k then arr.size else G'.fz j, rfl, ⟨kept.grow, fun j hj => ?_, fun j hj => ?_⟩, ?_⟩
    · show (if j = k then arr.size else G'.fz j) = G.fz j
      rw [if_neg (by omega)]; exact kept.fz j hj
    · show (if j = k then arr.size else G'.fz j) = 0
      rw [if_neg (by omega)]; exact kept.fzlt j hj
    · have hlt : ∀ (i : Nat) (x : List V) (j : Nat) (v : V), xs[i]? = some x → x[j]? = some v → i * szOf P T + j < arr.size := fun i x j v hx hv => by
        have h1 := hlen i x hx
        have h2 : i < xs.length := (List.getElem?_eq_some_iff.1 hx).1
        have h3 : j < x.length := (List.getElem?_eq_some_iff.1 hv).1
        have h4 : (i + 1) * szOf P T ≤ cap * szOf P T := Nat.mul_le_mul_right _ (by omega)
        rw [hs]; rw [Nat.add_mul] at h4; omega
      have hcd : ∀ (o : Nat), o < arr.size → w'.cell? ⟨k, o, none⟩ = some (arr.getD o undef) := fun o ho => arr_cell hh ho
      have hd : ∀ (o : Nat), o < arr.size → cellD w' k o = arr.getD o undef := fun o ho => by unfold cellD; rw [hcd o ho]; rfl
      refine R.vec (sz := szOf P T) (Nat.le_refl _) hl hcm hlen (fun i x j v hx hv => ?_) (fun i x j v hx hv => ?_) (fun i x j v hx hv => ?_)
      · have := hlt i x j v hx hv
        rw [Nat.zero_add]
        refine ⟨by rw [hcd _ this]; rfl, ?_⟩
        show _ < if k = k then arr.size else G'.fz k
        rw [if_pos rfl]; exact this
      · rw [Nat.zero_add, hd _ (hlt i x j v hx hv)]; exact (hc i x j v hx hv).1
      · rw [Nat.zero_add, hd _ (hlt i x j v hx hv)]; exact ((hc i x j v hx hv).2).fz hle
attribute [simp] pickTm headSt
end Go.AM
end
section
set_option linter.unusedVariables false
set_option linter.unusedSimpArgs false
namespace Go.AM
open Go.MapKept
def smap (l : List (ByteArray × V)) : List (V × V) := l.map fun p => (.str p.1, p.2)
def sget (l : List (ByteArray × V)) (s : ByteArray) : Option V := (l.find? fun p => p.1 = s).map (·.2)
def sput (l : List (ByteArray × V)) (s : ByteArray) (v : V) : List (ByteArray × V) := match l.findIdx? fun p => p.1 = s with
  | some j => l.set j (s, v)
  | none => l ++ [(s, v)]
section
variable {P : Program} {ge : GEnv} {st : St} {Q : Exit → St → Prop}
variable {d : Option Tmp} {t : TypeId} {p : String} {af : Array Edge} {g : Option (Nat × Bool)}
theorem S_makeMap {T : TypeId} : OpS P ge st ⟨d, .makeMap T none, t, p, af, g⟩ (.mp st.h.length) (st.h ++ [.map []]) := by
  intro G a w hr
  have hk : ∀ k', (G.push (some w.heap.size) 1 1).at G.n (.map []) = some k' → w.heap.size ≤ k' := fun k' h => by
    simp [Gh.at, Gh.push] at h; omega
  have hrb : RB P (G.push (some w.heap.size) 1 1) (w.alloc (.map #[] 0)) G.n (.map []) :=
    ⟨by simp [Gh.push], w.heap.size, #[], 0, by simp [Gh.push], heap_alloc_new w _, rfl, fun i e c h => by simp at h⟩
  refine ⟨.map (some w.heap.size), G.push (some w.heap.size) 1 1, w.alloc (.map #[] 0), .inl ?_, hr.rh.push (.alloc w _) hrb hk, ?_, .push hr.rh (.alloc w _) hk⟩
  · simp [execOp, Instr.makeMap]
  · rw [hr.rh.n]; exact .mp (by simp [Gh.push]) (by simp [Gh.push])
/-- The keys of a map's entries are the strings. -/
theorem ents_keys {G : Gh} {w : World} {l : List (ByteArray × V)} {ents : Array MapEntry} (hs : ents.size = (smap l).length)
    (hc : ∀ (i : Nat) (e : V × V) (c : MapEntry), (smap l)[i]? = some e → ents[i]? = some c → R G w true e.1 c.key ∧ R G w true e.2 c.val) :
    (∀ x ∈ ents.toList, IsKey .string x.key) ∧ ∀ (j : Nat) (c : MapEntry), ents[j]? = some c → ∃ q, l[j]? = some q ∧ c.key = .string q.1 ∧ R G w true q.2 c.val := by
  have key : ∀ (j : Nat) (c : MapEntry), ents[j]? = some c → ∃ q, l[j]? = some q ∧ c.key = .string q.1 ∧ R G w true q.2 c.val := fun j c hj => by
    have hlt := (Array.getElem?_eq_some_iff.1 hj).1
    have hl : j < l.length := by rw [hs] at hlt; simpa [smap] using hlt
    have he : (smap l)[j]? = some (.str l[j].1, l[j].2) := by simp [smap, hl]
    obtain ⟨h1, h2⟩ := hc j _ c he hj
    exact ⟨l[j], List.getElem?_eq_getElem hl, h1.inv_str, h2⟩
  refine ⟨fun x hx => ?_, key⟩
  obtain ⟨j, hj⟩ := List.getElem?_of_mem hx
  obtain ⟨q, _, hq, _⟩ := key j x (by simpa using hj)
  rw [hq]; trivial
theorem find_at {l : List (ByteArray × V)} (hn : (l.map (·.1)).Nodup) {j : Nat} {q : ByteArray × V} (hj : l[j]? = some q) : sget l q.1 = some q.2 ∧ l.findIdx? (fun p => p.1 = q.1) = some j := by
  induction l generalizing j with
  | nil => simp at hj
  | cons a r ih =>
    rw [List.map_cons, List.nodup_cons] at hn
    cases j with
    | zero =>
      simp at hj; subst hj
      exact ⟨by simp [sget], by simp [List.findIdx?_cons]⟩
    | succ j =>
      have hj' : r[j]? = some q := by simpa using hj
      obtain ⟨h1, h2⟩ := ih hn.2 hj'
      have hne : ¬ a.1 = q.1 := fun e => hn.1 (by rw [e]; exact List.mem_map_of_mem (List.mem_of_getElem? hj'))
      refine ⟨?_, ?_⟩
      · unfold sget at h1 ⊢; rw [List.find?_cons]; simp only [hne, decide_false]; exact h1
      · rw [List.findIdx?_cons]; simp [hne, h2]
theorem find_none {l : List (ByteArray × V)} {s : ByteArray} (h : ∀ q ∈ l, q.1 ≠ s) : sget l s = none ∧ l.findIdx? (fun p => p.1 = s) = none := by
  constructor
  · unfold sget
    rw [List.find?_eq_none.2 (fun x hx => by simpa using h x hx)]; rfl
  · rw [List.findIdx?_eq_none_iff]; intro x hx; simpa using h x hx
theorem inv_mp {G : Gh} {w : World} {fr : Bool} {b : Nat} {c : Value} (h : R G w fr (.mp b) c) : ∃ k, c = .map (some k) ∧ G.m b 0 = some k := by
  cases h; exact ⟨_, rfl, by assumption⟩
theorem run_zero {et : TypeId} {zv : Value} (hz : (P.info? et).bind (·.zero) = some zv) (w : World) : (zeroValue et).run P w = .ok zv w := by
  cases hi : P.info? et with
  | none => rw [hi] at hz; cases hz
  | some i => rw [hi] at hz; simp only [Option.bind_some] at hz; simp [zeroValue, typeInfo, hi, hz]
theorem S_lookup {T kt et : TypeId} {x y : Operand} {b : Nat} {l : List (ByteArray × V)} {s : ByteArray} {zv : Value} (hT : P.underlying T = some (.map kt et)) (hkt : P.underlying kt = some .string) (hz : (P.info? et).bind (·.zero) = some zv)
    (hx : ev ge st.tm x = .mp b) (hb : st.h[b]? = some (.map (smap l))) (hy : ev ge st.tm y = .str s) (hn : (l.map (·.1)).Nodup) :
    OpS P ge st ⟨d, .lookup T x y false, t, p, af, g⟩ ((sget l s).getD (V.ofCell zv)) st.h := by
  refine OpS_pure fun G a w hr => ?_
  have hvx := hr.ev x
  have hvy := hr.ev y
  rw [hx] at hvx
  rw [hy] at hvy
  obtain ⟨k, hck, hm⟩ := inv_mp hvx
  have hcy := hvy.inv_str
  obtain ⟨h00, k', ents, clock, hm', hh, hs, hc⟩ := hr.rh.bl b _ hb
  rw [hm] at hm'; cases hm'
  obtain ⟨hks, hkey⟩ := ents_keys hs hc
  rcases findNow_spec (d := .string) (k := .string s) trivial ents.toList 0 hks with ⟨h1, h2⟩ | ⟨j, e, h1, h2, h3⟩
  · have hnone : sget l s = none := (find_none fun q hq e => by
      obtain ⟨j, hj⟩ := List.getElem?_of_mem hq
      have hl := (List.getElem?_eq_some_iff.1 hj).1
      have hl2 : j < ents.size := by rw [hs]; simpa [smap] using hl
      obtain ⟨q', h4, h5, _⟩ := hkey j ents[j] (Array.getElem?_eq_getElem hl2)
      rw [hj] at h4; cases h4
      exact h2 ents[j] (Array.getElem_mem_toList hl2) (by rw [h5, e])).1
    rw [hnone]
    refine ⟨zv, ?_, .ofCell zv⟩
    simp [execOp, Instr.lookup, hck, hcy, run_underlying hT, MapKept.run_getObj_map hh, MapKept.run_checkKey (d := .string) (k := .string s) hkt trivial, MapKept.run_findKey hkt h1, run_zero hz, Result.andThen]
  · obtain ⟨q, h4, h5, h6⟩ := hkey j e (by simpa using h2)
    have hqs : q.1 = s := by rw [h5] at h3; cases h3; rfl
    have := (find_at hn h4).1
    rw [hqs] at this
    rw [this]
    refine ⟨e.val, ?_, h6.weak rfl⟩
    simp [execOp, Instr.lookup, hck, hcy, run_underlying hT, MapKept.run_getObj_map hh, MapKept.run_checkKey (d := .string) (k := .string s) hkt trivial, MapKept.run_findKey hkt h1, Result.andThen]
theorem S_mapUpdate {T kt et : TypeId} {x y z : Operand} {b : Nat} {l : List (ByteArray × V)} {s : ByteArray} (hT : P.underlying T = some (.map kt et)) (hkt : P.underlying kt = some .string)
    (hx : ev ge st.tm x = .mp b) (hb : st.h[b]? = some (.map (smap l))) (hy : ev ge st.tm y = .str s) (hn : (l.map (·.1)).Nodup) (hv : (ev ge st.tm z).isF = true) :
    OpS P ge st ⟨d, .mapUpdate T x y z, t, p, af, g⟩ .void (st.h.set b (.map (smap (sput l s (ev ge st.tm z))))) := by
  intro G a w hr
  have hvx := hr.ev x
  have hvy := hr.ev y
  have hvz := (hr.ev z).frozen hv
  rw [hx] at hvx
  rw [hy] at hvy
  obtain ⟨k, hck, hm⟩ := inv_mp hvx
  have hcy := hvy.inv_str
  obtain ⟨h00, k', ents, clock, hm', hh, hs, hc⟩ := hr.rh.bl b _ hb
  rw [hm] at hm'; cases hm'
  obtain ⟨hks, hkey⟩ := ents_keys hs hc
  have hlt : k < w.heap.size := (Array.getElem?_eq_some_iff.1 hh).1
  have up : ∀ (ents' : Array MapEntry) (clock' : Nat) (l' : List (ByteArray × V)), ents'.size = l'.length →
      (∀ (i : Nat) (q : ByteArray × V) (c : MapEntry), l'[i]? = some q → ents'[i]? = some c → c.key = .string q.1 ∧ R G w true q.2 c.val) →
      RH P ge G (st.h.set b (.map (smap l'))) { w with heap := w.heap.setIfInBounds k (.map ents' clock') } ∧ Ext G st.h w G (st.h.set b (.map (smap l'))) { w with heap := w.heap.setIfInBounds k (.map ents' clock') } := by
    intro ents' clock' l' h1 h2
    have hother : ∀ k', k' ≠ k → (w.heap.setIfInBounds k (.map ents' clock'))[k']? = w.heap[k']? := (heap_set hh).2
    have le : GLe G w G { w with heap := w.heap.setIfInBounds k (.map ents' clock') } := ⟨fun _ => Nat.le_refl _, fun k' o ho => by
      by_cases e : k' = k
      · subst e
        simp [World.cell?, hh, (heap_set hh).1]
      · exact cell_eq (hother k' e), Nat.le_refl _, fun _ _ => Nat.le_refl _, fun _ _ _ _ => rfl, fun _ _ => rfl, fun _ _ _ _ => rfl⟩
    refine RH_upd hr.rh hb hm (by simp) hother rfl ⟨rfl, rfl⟩ le ⟨h00, k, ents', clock', hm, (heap_set hh).1, by simp [smap, h1], fun i e c he hcc => ?_⟩ hm
    rw [smap, List.getElem?_map] at he
    obtain ⟨q, hq, rfl⟩ := Option.map_eq_some_iff.1 he
    obtain ⟨h3, h4⟩ := h2 i q c hq hcc
    rw [h3]
    exact ⟨.str, h4.mono le⟩
  rcases findNow_spec (d := .string) (k := .string s) trivial ents.toList 0 hks with ⟨h1, h2⟩ | ⟨j, e, h1, h2, h3⟩
  · have hnone : l.findIdx? (fun p => p.1 = s) = none := (find_none fun q hq e => by
      obtain ⟨j, hj⟩ := List.getElem?_of_mem hq
      have hl := (List.getElem?_eq_some_iff.1 hj).1
      have hl2 : j < ents.size := by rw [hs]; simpa [smap] using hl
      obtain ⟨q', h4, h5, _⟩ := hkey j ents[j] (Array.getElem?_eq_getElem hl2)
      rw [hj] at h4; cases h4
      exact h2 ents[j] (Array.getElem_mem_toList hl2) (by rw [h5, e])).2
    have hsz : ents.size = l.length := by simpa [smap] using hs
    obtain ⟨r1, r2⟩ := up (ents.push { key := .string s, val := a.eval z, born := clock }) (clock + 1) (l ++ [(s, ev ge st.tm z)]) (by simp [hsz]) (fun i q c hq hcc => by
      rw [Array.getElem?_push] at hcc
      split at hcc
      · rename_i e
        cases hcc
        rw [hsz] at e
        subst e
        rw [List.getElem?_append_right (Nat.le_refl _), Nat.sub_self] at hq
        cases hq
        exact ⟨rfl, hvz⟩
      · have hi := (Array.getElem?_eq_some_iff.1 hcc).1
        rw [List.getElem?_append_left (by omega)] at hq
        obtain ⟨q', h4, h5, h6⟩ := hkey i c hcc
        rw [hq] at h4; cases h4
        exact ⟨h5, h6⟩)
    refine ⟨undef, G, { w with heap := w.heap.setIfInBounds k (.map (ents.push { key := .string s, val := a.eval z, born := clock }) (clock + 1)) }, .inr ⟨?_, rfl⟩, ?_, .void, ?_⟩
    rotate_left
    · unfold sput; rw [hnone]; exact r1
    · unfold sput; rw [hnone]; exact r2
    · simp [execOp, Instr.mapUpdate, hck, hcy, run_underlying hT, MapKept.run_getObj_map hh, MapKept.run_checkKey (d := .string) (k := .string s) hkt trivial, MapKept.run_findKey hkt h1, MapKept.run_setObj_map _ hh, Result.andThen]
  · have hj : ents[j]? = some e := by simpa using h2
    obtain ⟨q, h4, h5, h6⟩ := hkey j e hj
    have hqs : q.1 = s := by rw [h5] at h3; cases h3; rfl
    have hfi := (find_at hn h4).2
    rw [hqs] at hfi
    have hsz : ents.size = l.length := by simpa [smap] using hs
    have hjl := (List.getElem?_eq_some_iff.1 h4).1
    obtain ⟨r1, r2⟩ := up (ents.modify j fun e => { e with key := .string s, val := a.eval z }) clock (l.set j (s, ev ge st.tm z)) (by simp [hsz]) (fun i q' c hq hcc => by
      rw [Array.getElem?_modify] at hcc
      rw [List.getElem?_set] at hq
      split at hcc
      · rename_i e'
        subst e'
        rw [if_pos rfl, if_pos hjl] at hq
        rw [hj] at hcc
        cases hcc; cases hq
        exact ⟨rfl, hvz⟩
      · rename_i e'
        rw [if_neg e'] at hq
        obtain ⟨q'', h7, h8, h9⟩ := hkey i c hcc
        rw [hq] at h7; cases h7
        exact ⟨h8, h9⟩)
    refine ⟨undef, G, { w with heap := w.heap.setIfInBounds k (.map (ents.modify j fun e => { e with key := .string s, val := a.eval z }) clock) }, .inr ⟨?_, rfl⟩, ?_, .void, ?_⟩
    rotate_left
    · unfold sput; rw [hfi]; exact r1
    · unfold sput; rw [hfi]; exact r2
    · simp [execOp, Instr.mapUpdate, hck, hcy, run_underlying hT, MapKept.run_getObj_map hh, MapKept.run_checkKey (d := .string) (k := .string s) hkt trivial, MapKept.run_findKey hkt h1, hj, h3, MapKept.run_keyThatStays (d := .string) (k := .string s) trivial, MapKept.run_setObj_map _ hh, Result.andThen]
/-- An operation whose law is told by hand, in a walk. -/
theorem AS_op1 {ops : Array Oper} {op : Op} {rest : List Oper} {v : V} {h' : List B} (hd : dstOk st.n d = true) (ho : OpS P ge st ⟨d, op, t, p, af, none⟩ v h')
    (h : AO P ge ops Q rest ⟨st.n, putD d v st.tm, h'⟩) : AS P ge ops (⟨d, op, t, p, af, none⟩ :: rest) Q st := AS_op rfl hd ho (AS_of_AO h)
end
end Go.AM
end
section
set_option linter.unusedVariables false
namespace Go.Proofs.YtgmlimipejcpgaaGreatDoor
open Go Go.AM
theorem one_leB {H : Type} (d : DataW H) : 1 ≤ Rows.uptoBulk d := by
  cases d with
  | lit l => cases l <;> simp [Rows.uptoBulk]
  | nil => simp [Rows.uptoBulk]
  | ptr d => simp [Rows.uptoBulk]
  | slice elems spare => simp [Rows.uptoBulk]
  | agg parts => simp [Rows.uptoBulk]
  | iface t d => simp [Rows.uptoBulk]
  | map entries => simp [Rows.uptoBulk]
  | held h => simp [Rows.uptoBulk]
theorem part_leB {H : Type} {d : DataW H} {l : List (DataW H)} (h : d ∈ l) : Rows.uptoBulk d ≤ Rows.uptoBulkAll l := by
  induction l with
  | nil => cases h
  | cons x r ih =>
    simp only [Rows.uptoBulkAll]
    cases List.mem_cons.1 h with
    | inl e => subst e; omega
    | inr e => have := ih e; omega
theorem length_leB {H : Type} (l : List (DataW H)) : l.length ≤ Rows.uptoBulkAll l := by
  induction l with
  | nil => simp [Rows.uptoBulkAll]
  | cons x r ih => have := one_leB x; simp only [Rows.uptoBulkAll, List.length_cons]; omega
def KB : Bk where
  bk H d := Rows.uptoBulk d
  N := 1048576
  len es sp h := by
    simp only [Rows.uptoBulk] at h
    exact ⟨by have := length_leB es; omega, fun d hd => by have := part_leB hd; omega⟩
  agg ps h d hd := by
    simp only [Rows.uptoBulk] at h
    have := part_leB hd; omega
  str b h := by simp only [Rows.uptoBulk] at h; omega
def I64 (n : Int) : Prop := -9223372036854775808 ≤ n ∧ n ≤ 9223372036854775807
theorem wf64 {n : Int} (h : (Lit.int .i64 n).wf = true) : I64 n := by
  have : -9223372036854775808 ≤ n ∧ n ≤ 9223372036854775807 := by simpa [Lit.wf, IntKind.min, IntKind.max, IntKind.signed, IntKind.bits] using h
  exact this
theorem wfu8 {n : Int} (h : (Lit.int .u8 n).wf = true) : 0 ≤ n ∧ n ≤ 255 := by
  simpa [Lit.wf, IntKind.min, IntKind.max, IntKind.signed, IntKind.bits] using h
theorem wI {n : Int} (h1 : -9223372036854775808 ≤ n) (h2 : n ≤ 9223372036854775807) : IntKind.i64.wrap n = n := by
  unfold IntKind.wrap; simp [IntKind.bits, IntKind.signed]; omega
theorem mixed : Tryz.prog.follows .mixedOrders = true := by decide
/-- A slice of data. -/
def vl {α : Type} (c : α → List V) (l : List α) : V := .vec (l.map c) l.length
theorem zco9 : Tryz.prog.cellsOf 9 = 1 := by kernel_rfl
structure VarD where
  name : ByteArray
  lo : Int
  hi : Int
  init : Int
  deriving DecidableEq, Inhabited
def VarD.cells (x : VarD) : List V := [.str x.name, .int .i64 x.lo, .int .i64 x.hi, .int .i64 x.init]
def VarD.ok (x : VarD) : Prop := x.name.size ≤ 1048576 ∧ I64 x.lo ∧ I64 x.hi ∧ I64 x.init
theorem zco3 : Tryz.prog.cellsOf 3 = 1 := by kernel_rfl
theorem zco167 : Tryz.prog.cellsOf 167 = 4 := by kernel_rfl
theorem rnVarD : RdN KB Tryz.prog 167 VarD.cells VarD.ok :=
  (RdN_struct Tryz.underlying167 zco167 (rC rfl zco9 (RdN_string Tryz.underlying9) (fun _ => rfl) (rC rfl zco3 (RdN_int Tryz.underlying3) (fun _ => rfl) (rC rfl zco3 (RdN_int Tryz.underlying3) (fun _ => rfl) (rC rfl zco3 (RdN_int Tryz.underlying3) (fun _ => rfl) (RdNs_nil rfl)))))).map
    (fun p => ⟨p.1, p.2.1, p.2.2.1, p.2.2.2.1⟩) (fun _ => rfl) (fun p h => ⟨(h.1).2, wf64 h.2.1, wf64 h.2.2.1, wf64 h.2.2.2.1⟩)
@[simp] theorem VarD.cells_len (x : VarD) : x.cells.length = 4 := rfl
structure GuardD where
  clock : Int
  other : Int
  cmp : Int
  n : Int
  deriving DecidableEq, Inhabited
def GuardD.cells (x : GuardD) : List V := [.int .i64 x.clock, .int .i64 x.other, .int .u8 x.cmp, .int .i64 x.n]
def GuardD.ok (x : GuardD) : Prop := I64 x.clock ∧ I64 x.other ∧ (0 ≤ x.cmp ∧ x.cmp ≤ 255) ∧ I64 x.n
theorem zco125 : Tryz.prog.cellsOf 125 = 1 := by kernel_rfl
theorem zco127 : Tryz.prog.cellsOf 127 = 4 := by kernel_rfl
theorem rnGuardD : RdN KB Tryz.prog 127 GuardD.cells GuardD.ok :=
  (RdN_struct Tryz.underlying127 zco127 (rC rfl zco3 (RdN_int Tryz.underlying3) (fun _ => rfl) (rC rfl zco3 (RdN_int Tryz.underlying3) (fun _ => rfl) (rC rfl zco125 (RdN_int Tryz.underlying125) (fun _ => rfl) (rC rfl zco3 (RdN_int Tryz.underlying3) (fun _ => rfl) (RdNs_nil rfl)))))).map
    (fun p => ⟨p.1, p.2.1, p.2.2.1, p.2.2.2.1⟩) (fun _ => rfl) (fun p h => ⟨wf64 h.1, wf64 h.2.1, wfu8 h.2.2.1, wf64 h.2.2.2.1⟩)
@[simp] theorem GuardD.cells_len (x : GuardD) : x.cells.length = 4 := rfl
structure LocD where
  name : ByteArray
  kind : Int
  inv : List GuardD
  deriving DecidableEq, Inhabited
def LocD.cells (x : LocD) : List V := [.str x.name, .int .u8 x.kind, vl GuardD.cells x.inv]
def LocD.ok (x : LocD) : Prop := x.name.size ≤ 1048576 ∧ (0 ≤ x.kind ∧ x.kind ≤ 255) ∧ (x.inv.length ≤ 1048576 ∧ ∀ a ∈ x.inv, a.ok)
theorem zco106 : Tryz.prog.cellsOf 106 = 1 := by kernel_rfl
theorem zco105 : Tryz.prog.cellsOf 105 = 1 := by kernel_rfl
theorem zco108 : Tryz.prog.cellsOf 108 = 3 := by kernel_rfl
theorem rnLocD : RdN KB Tryz.prog 108 LocD.cells LocD.ok :=
  (RdN_struct Tryz.underlying108 zco108 (rC rfl zco9 (RdN_string Tryz.underlying9) (fun _ => rfl) (rC rfl zco105 (RdN_int Tryz.underlying105) (fun _ => rfl) (rC rfl zco106 (RdN_slice Tryz.underlying106 (by rw [zco127]; decide) rnGuardD (fun _ => by rw [zco127]; rfl)) (fun _ => rfl) (RdNs_nil rfl))))).map
    (fun p => ⟨p.1, p.2.1, p.2.2.1⟩) (fun _ => rfl) (fun p h => ⟨(h.1).2, wfu8 h.2.1, ⟨(h.2.2.1).1, fun a ha => ((h.2.2.1).2 a ha)⟩⟩)
@[simp] theorem LocD.cells_len (x : LocD) : x.cells.length = 3 := rfl
structure NodeD where
  op : Int
  n : Int
  deriving DecidableEq, Inhabited
def NodeD.cells (x : NodeD) : List V := [.int .u8 x.op, .int .i64 x.n]
def NodeD.ok (x : NodeD) : Prop := (0 ≤ x.op ∧ x.op ≤ 255) ∧ I64 x.n
theorem zco162 : Tryz.prog.cellsOf 162 = 1 := by kernel_rfl
theorem zco164 : Tryz.prog.cellsOf 164 = 2 := by kernel_rfl
theorem rnNodeD : RdN KB Tryz.prog 164 NodeD.cells NodeD.ok :=
  (RdN_struct Tryz.underlying164 zco164 (rC rfl zco162 (RdN_int Tryz.underlying162) (fun _ => rfl) (rC rfl zco3 (RdN_int Tryz.underlying3) (fun _ => rfl) (RdNs_nil rfl)))).map
    (fun p => ⟨p.1, p.2.1⟩) (fun _ => rfl) (fun p h => ⟨wfu8 h.1, wf64 h.2.1⟩)
@[simp] theorem NodeD.cells_len (x : NodeD) : x.cells.length = 2 := rfl
structure SetD where
  clock : Int
  n : Int
  var : Int
  expr : List NodeD
  deriving DecidableEq, Inhabited
def SetD.cells (x : SetD) : List V := [.int .i64 x.clock, .int .i64 x.n, .int .i64 x.var, vl NodeD.cells x.expr]
def SetD.ok (x : SetD) : Prop := I64 x.clock ∧ I64 x.n ∧ I64 x.var ∧ (x.expr.length ≤ 1048576 ∧ ∀ a ∈ x.expr, a.ok)
theorem zco110 : Tryz.prog.cellsOf 110 = 1 := by kernel_rfl
theorem zco116 : Tryz.prog.cellsOf 116 = 4 := by kernel_rfl
theorem rnSetD : RdN KB Tryz.prog 116 SetD.cells SetD.ok :=
  (RdN_struct Tryz.underlying116 zco116 (rC rfl zco3 (RdN_int Tryz.underlying3) (fun _ => rfl) (rC rfl zco3 (RdN_int Tryz.underlying3) (fun _ => rfl) (rC rfl zco3 (RdN_int Tryz.underlying3) (fun _ => rfl) (rC rfl zco110 (RdN_slice Tryz.underlying110 (by rw [zco164]; decide) rnNodeD (fun _ => by rw [zco164]; rfl)) (fun _ => rfl) (RdNs_nil rfl)))))).map
    (fun p => ⟨p.1, p.2.1, p.2.2.1, p.2.2.2.1⟩) (fun _ => rfl) (fun p h => ⟨wf64 h.1, wf64 h.2.1, wf64 h.2.2.1, ⟨(h.2.2.2.1).1, fun a ha => ((h.2.2.2.1).2 a ha)⟩⟩)
@[simp] theorem SetD.cells_len (x : SetD) : x.cells.length = 4 := rfl
structure EdgeD where
  frm : Int
  to : Int
  guards : List GuardD
  test : List NodeD
  chan : Int
  send : Bool
  sets : List SetD
  deriving DecidableEq, Inhabited
def EdgeD.cells (x : EdgeD) : List V := [.int .i64 x.frm, .int .i64 x.to, vl GuardD.cells x.guards, vl NodeD.cells x.test, .int .i64 x.chan, .bool x.send, vl SetD.cells x.sets]
def EdgeD.ok (x : EdgeD) : Prop := I64 x.frm ∧ I64 x.to ∧ (x.guards.length ≤ 1048576 ∧ ∀ a ∈ x.guards, a.ok) ∧ (x.test.length ≤ 1048576 ∧ ∀ a ∈ x.test, a.ok) ∧ I64 x.chan ∧ True ∧ (x.sets.length ≤ 1048576 ∧ ∀ a ∈ x.sets, a.ok)
theorem zco111 : Tryz.prog.cellsOf 111 = 1 := by kernel_rfl
theorem zco4 : Tryz.prog.cellsOf 4 = 1 := by kernel_rfl
theorem zco113 : Tryz.prog.cellsOf 113 = 7 := by kernel_rfl
theorem rnEdgeD : RdN KB Tryz.prog 113 EdgeD.cells EdgeD.ok :=
  (RdN_struct Tryz.underlying113 zco113 (rC rfl zco3 (RdN_int Tryz.underlying3) (fun _ => rfl) (rC rfl zco3 (RdN_int Tryz.underlying3) (fun _ => rfl) (rC rfl zco106 (RdN_slice Tryz.underlying106 (by rw [zco127]; decide) rnGuardD (fun _ => by rw [zco127]; rfl)) (fun _ => rfl) (rC rfl zco110 (RdN_slice Tryz.underlying110 (by rw [zco164]; decide) rnNodeD (fun _ => by rw [zco164]; rfl)) (fun _ => rfl) (rC rfl zco3 (RdN_int Tryz.underlying3) (fun _ => rfl) (rC rfl zco4 (RdN_bool Tryz.underlying4) (fun _ => rfl) (rC rfl zco111 (RdN_slice Tryz.underlying111 (by rw [zco116]; decide) rnSetD (fun _ => by rw [zco116]; rfl)) (fun _ => rfl) (RdNs_nil rfl))))))))).map
    (fun p => ⟨p.1, p.2.1, p.2.2.1, p.2.2.2.1, p.2.2.2.2.1, p.2.2.2.2.2.1, p.2.2.2.2.2.2.1⟩) (fun _ => rfl) (fun p h => ⟨wf64 h.1, wf64 h.2.1, ⟨(h.2.2.1).1, fun a ha => ((h.2.2.1).2 a ha)⟩, ⟨(h.2.2.2.1).1, fun a ha => ((h.2.2.2.1).2 a ha)⟩, wf64 h.2.2.2.2.1, trivial, ⟨(h.2.2.2.2.2.2.1).1, fun a ha => ((h.2.2.2.2.2.2.1).2 a ha)⟩⟩)
@[simp] theorem EdgeD.cells_len (x : EdgeD) : x.cells.length = 7 := rfl
structure AutoD where
  name : ByteArray
  locs : List LocD
  edges : List EdgeD
  deriving DecidableEq, Inhabited
def AutoD.cells (x : AutoD) : List V := [.str x.name, vl LocD.cells x.locs, vl EdgeD.cells x.edges]
def AutoD.ok (x : AutoD) : Prop := x.name.size ≤ 1048576 ∧ (x.locs.length ≤ 1048576 ∧ ∀ a ∈ x.locs, a.ok) ∧ (x.edges.length ≤ 1048576 ∧ ∀ a ∈ x.edges, a.ok)
theorem zco102 : Tryz.prog.cellsOf 102 = 1 := by kernel_rfl
theorem zco101 : Tryz.prog.cellsOf 101 = 1 := by kernel_rfl
theorem zco104 : Tryz.prog.cellsOf 104 = 3 := by kernel_rfl
theorem rnAutoD : RdN KB Tryz.prog 104 AutoD.cells AutoD.ok :=
  (RdN_struct Tryz.underlying104 zco104 (rC rfl zco9 (RdN_string Tryz.underlying9) (fun _ => rfl) (rC rfl zco101 (RdN_slice Tryz.underlying101 (by rw [zco108]; decide) rnLocD (fun _ => by rw [zco108]; rfl)) (fun _ => rfl) (rC rfl zco102 (RdN_slice Tryz.underlying102 (by rw [zco113]; decide) rnEdgeD (fun _ => by rw [zco113]; rfl)) (fun _ => rfl) (RdNs_nil rfl))))).map
    (fun p => ⟨p.1, p.2.1, p.2.2.1⟩) (fun _ => rfl) (fun p h => ⟨(h.1).2, ⟨(h.2.1).1, fun a ha => ((h.2.1).2 a ha)⟩, ⟨(h.2.2.1).1, fun a ha => ((h.2.2.1).2 a ha)⟩⟩)
@[simp] theorem AutoD.cells_len (x : AutoD) : x.cells.length = 3 := rfl
structure NetD where
  clocks : List ByteArray
  vars : List VarD
  chans : List ByteArray
  autos : List AutoD
  deriving DecidableEq, Inhabited
def NetD.cells (x : NetD) : List V := [vl (fun x => [.str x]) x.clocks, vl VarD.cells x.vars, vl (fun x => [.str x]) x.chans, vl AutoD.cells x.autos]
def NetD.ok (x : NetD) : Prop := (x.clocks.length ≤ 1048576 ∧ ∀ a ∈ x.clocks, a.size ≤ 1048576) ∧ (x.vars.length ≤ 1048576 ∧ ∀ a ∈ x.vars, a.ok) ∧ (x.chans.length ≤ 1048576 ∧ ∀ a ∈ x.chans, a.size ≤ 1048576) ∧ (x.autos.length ≤ 1048576 ∧ ∀ a ∈ x.autos, a.ok)
theorem zco24 : Tryz.prog.cellsOf 24 = 1 := by kernel_rfl
theorem zco22 : Tryz.prog.cellsOf 22 = 1 := by kernel_rfl
theorem zco23 : Tryz.prog.cellsOf 23 = 1 := by kernel_rfl
theorem zco26 : Tryz.prog.cellsOf 26 = 4 := by kernel_rfl
theorem rnNetD : RdN KB Tryz.prog 26 NetD.cells NetD.ok :=
  (RdN_struct Tryz.underlying26 zco26 (rC rfl zco22 (RdN_slice Tryz.underlying22 (by rw [zco9]; decide) (RdN_string Tryz.underlying9) (fun _ => by rw [zco9]; rfl)) (fun _ => rfl) (rC rfl zco23 (RdN_slice Tryz.underlying23 (by rw [zco167]; decide) rnVarD (fun _ => by rw [zco167]; rfl)) (fun _ => rfl) (rC rfl zco22 (RdN_slice Tryz.underlying22 (by rw [zco9]; decide) (RdN_string Tryz.underlying9) (fun _ => by rw [zco9]; rfl)) (fun _ => rfl) (rC rfl zco24 (RdN_slice Tryz.underlying24 (by rw [zco104]; decide) rnAutoD (fun _ => by rw [zco104]; rfl)) (fun _ => rfl) (RdNs_nil rfl)))))).map
    (fun p => ⟨p.1, p.2.1, p.2.2.1, p.2.2.2.1⟩) (fun _ => rfl) (fun p h => ⟨⟨(h.1).1, fun a ha => (((h.1).2 a ha)).2⟩, ⟨(h.2.1).1, fun a ha => ((h.2.1).2 a ha)⟩, ⟨(h.2.2.1).1, fun a ha => (((h.2.2.1).2 a ha)).2⟩, ⟨(h.2.2.2.1).1, fun a ha => ((h.2.2.2.1).2 a ha)⟩⟩)
@[simp] theorem NetD.cells_len (x : NetD) : x.cells.length = 4 := rfl
structure AtD where
  auto : Int
  loc : Int
  deriving DecidableEq, Inhabited
def AtD.cells (x : AtD) : List V := [.int .i64 x.auto, .int .i64 x.loc]
def AtD.ok (x : AtD) : Prop := I64 x.auto ∧ I64 x.loc
@[simp] theorem AtD.cells_len (x : AtD) : x.cells.length = 2 := rfl
structure PartD where
  locs : List AtD
  guards : List GuardD
  test : List NodeD
  deriving DecidableEq, Inhabited
def PartD.cells (x : PartD) : List V := [vl AtD.cells x.locs, vl GuardD.cells x.guards, vl NodeD.cells x.test]
def PartD.ok (x : PartD) : Prop := (x.locs.length ≤ 1048576 ∧ ∀ a ∈ x.locs, a.ok) ∧ (x.guards.length ≤ 1048576 ∧ ∀ a ∈ x.guards, a.ok) ∧ (x.test.length ≤ 1048576 ∧ ∀ a ∈ x.test, a.ok)
@[simp] theorem PartD.cells_len (x : PartD) : x.cells.length = 3 := rfl
end Go.Proofs.YtgmlimipejcpgaaGreatDoor
end
section
set_option linter.unusedVariables false
namespace Go.Proofs.YtgmlimipejcpgaaGreatDoor
open Go Go.AM Fx
def keptV : List V := [.str ⟨#[99, 108, 111, 99, 107]⟩, .str ⟨#[105, 110, 116]⟩, .str ⟨#[99, 104, 97, 110]⟩, .str ⟨#[97, 117, 116, 111]⟩, .str ⟨#[108, 111, 99]⟩, .str ⟨#[101, 100, 103, 101]⟩, .str ⟨#[105, 110]⟩, .str ⟨#[105, 110, 118]⟩, .str ⟨#[119, 104, 101, 110]⟩, .str ⟨#[115, 121, 110, 99]⟩, .str ⟨#[100, 111]⟩, .str ⟨#[117, 114, 103, 101, 110, 116]⟩, .str ⟨#[99, 111, 109, 109, 105, 116, 116, 101, 100]⟩, .str ⟨#[116, 114, 117, 101]⟩, .str ⟨#[114, 101, 97, 99, 104]⟩, .str ⟨#[110, 101, 118, 101, 114]⟩]
def kindsV : List V := [.int .i64 0, .bool false, .bool false, .str ⟨#[]⟩, .int .i64 0, .int .i64 0, .bool false, .bool false, .str ⟨#[]⟩, .int .i64 9, .int .i64 0, .bool false, .bool false, .str ⟨#[]⟩, .int .i64 9, .int .i64 1, .bool false, .bool false, .str ⟨#[45]⟩, .int .i64 6, .int .i64 2, .bool false, .bool false, .str ⟨#[43]⟩, .int .i64 4, .int .i64 2, .bool false, .bool false, .str ⟨#[45]⟩, .int .i64 4, .int .i64 2, .bool false, .bool false, .str ⟨#[42]⟩, .int .i64 5, .int .i64 0, .bool true, .bool false, .str ⟨#[116, 114, 117, 101]⟩, .int .i64 9, .int .i64 2, .bool true, .bool false, .str ⟨#[60]⟩, .int .i64 3, .int .i64 2, .bool true, .bool false, .str ⟨#[60, 61]⟩, .int .i64 3, .int .i64 2, .bool true, .bool false, .str ⟨#[61, 61]⟩, .int .i64 3, .int .i64 2, .bool true, .bool false, .str ⟨#[33, 61]⟩, .int .i64 3, .int .i64 1, .bool true, .bool true, .str ⟨#[33]⟩, .int .i64 9, .int .i64 2, .bool true, .bool true, .str ⟨#[38, 38]⟩, .int .i64 2, .int .i64 2, .bool true, .bool true, .str ⟨#[124, 124]⟩, .int .i64 1]
def GV : GEnv := fun g => if g = 0 then some keptV else if g = 1 then some kindsV else none
abbrev PC := PCall Tryz.prog GV
@[simp] theorem GV0 : GV 0 = some keptV := rfl
@[simp] theorem GV1 : GV 1 = some kindsV := rfl
end Go.Proofs.YtgmlimipejcpgaaGreatDoor
end
