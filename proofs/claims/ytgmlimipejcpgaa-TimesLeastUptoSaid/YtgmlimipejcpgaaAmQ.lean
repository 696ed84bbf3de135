/-
  YtgmlimipejcpgaaAmQ: a step of the proof of a law of the program: what this text proves holds under the hypotheses that its theorems name, and no others.
-/
import Derived.Test.YtgmlimipejcpgaaAmP
/-! AM, part Q: a nil slice as an empty row of one's own. -/
set_option linter.unusedVariables false
set_option linter.unusedSimpArgs false
namespace Go.AM
section
variable {P : Program} {ge : GEnv} {st : St} {Q : Exit → St → Prop} {G : Gh} {w : World}
theorem Rep_nilrow {a : Act} (hr : Rep P ge G st a w) (s : Nat) (T : TypeId) (hs : lk st.tm s = .nils) (h0 : 0 < szOf P T) :
    ∃ G', Rep P ge G' { st with tm := (s, .ref st.h.length 0 0 0) :: st.tm, h := st.h ++ [.row T 0 0 true []] } a w ∧ Ext G st.h w G' (st.h ++ [.row T 0 0 true []]) w := by
  have hk : ∀ k', (G.push none (szOf P T) 0).at G.n (.row T 0 0 true []) = some k' → w.heap.size ≤ k' := fun k' h => by
    simp [Gh.at, Gh.push] at h
  have hrb : RB P (G.push none (szOf P T) 0) w G.n (.row T 0 0 true []) := ⟨by simp [Gh.push], Nat.zero_le _, by simp [Gh.push, h0], .inl ⟨by simp [Gh.push], rfl⟩⟩
  have rh := hr.rh.push (.refl w) hrb hk
  have ext := Ext.push hr.rh (.refl w) hk
  refine ⟨_, ⟨rh, fun t => ?_, hr.n, hr.d⟩, ext⟩
  simp only [lk]
  split
  · rename_i hst
    subst hst
    have h1 := hr.tm s
    rw [hs] at h1
    generalize a.tmps.getD s undef = cv at h1 ⊢
    cases h1
    rw [hr.rh.n]
    exact .refn (by simp [Gh.push]) (by simp [Gh.push]) (by simp [Gh.push])
  · exact (hr.tm t).mono ext.le
def blOk (n : Nat) : List B → List B → Prop
  | [], _ => True
  | _ :: _, [] => False
  | x :: r, y :: r' => (x = .dead ∨ (y = x ∧ x.lt n)) ∧ blOk n r r'
theorem blOk_spec {n : Nat} : ∀ {l l' : List B}, blOk n l l' → ∀ (b : Nat) (x : B), l[b]? = some x → x = .dead ∨ (l'[b]? = some x ∧ x.lt n)
  | [], _, _, _, _, h => by simp at h
  | _ :: _, [], h, _, _, _ => h.elim
  | x :: r, y :: r', h, 0, z, hz => by
    simp at hz; subst hz
    rcases h.1 with h | ⟨rfl, h⟩
    · exact .inl h
    · exact .inr ⟨by simp, h⟩
  | x :: r, y :: r', h, b + 1, z, hz => by
    have := blOk_spec h.2 b z (by simpa using hz)
    simpa using this
/-- Weakening, by computation. -/
theorem Weak.mk' {st st' : St} (hn : st'.n = st.n) (hl : st'.h.length ≤ st.h.length) (ht : ∀ p ∈ st'.tm, lk st.tm p.1 = p.2 ∧ p.2.lt st'.h.length = true) (hb : blOk st'.h.length st'.h st.h) : Weak st st' := ⟨hn, hl, ht, blOk_spec hb⟩
theorem AW_nilrow {c : Code} (s : Nat) (T : TypeId) (hs : lk st.tm s = .nils) (h0 : 0 < szOf P T) (h : AW P ge c Q { st with tm := (s, .ref st.h.length 0 0 0) :: st.tm, h := st.h ++ [.row T 0 0 true []] }) : AW P ge c Q st := by
  intro G a w hr
  obtain ⟨G', hr', ext⟩ := Rep_nilrow hr s T hs h0
  exact wp_mono (h G' a w hr') fun _ _ _ hp => hp.mono ext fun _ _ h => h
theorem PCall.same {f : Nat} {args : List V} {r r' : V} (hc : PCall P ge f args r) (hp : r.plain = true) (h : ∀ G w c, R G w true r c → R G w true r' c) (hp' : match r' with | .own .. => False | .tup .. => False | _ => True) : PCall P ge f args r' :=
  ⟨hc.1, fun G w cargs ha hg => (hc.2 G w cargs ha hg).mono fun e w' ⟨c, G', h1, h2, h3⟩ => ⟨c, G', h1, h2, by
    have h4 := h _ _ _ (h3.plain hp)
    cases r' <;> first | exact h4 | exact hp'.elim⟩⟩
end
attribute [simp] blOk B.lt
end Go.AM
