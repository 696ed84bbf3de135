/-
  YtgmlimipejcpgaaAmR: a step of the proof of a law of the program: what this text proves holds under the hypotheses that its theorems name, and no others.
-/
import Derived.Test.YtgmlimipejcpgaaAmQ
/-! AM, part R: bodies of general contracts. -/
set_option linter.unusedVariables false
set_option linter.unusedSimpArgs false
namespace Go.AM
section
variable {P : Program} {ge : GEnv}
def RetG (P : Program) (rs : Array ResultVar) (Q : V → List B → Prop) (h0 : List B) (e : Exit) (s : St) : Prop :=
  (e = .normal ∨ e = .ret) ∧ ∃ v h', RetV P s rs.toList v ∧ Q v h' ∧ v.lt h'.length = true ∧ Leaves h0 s.h h'
theorem GCall_body {f : Nat} {fn : Func} {code : Code} {args : List V} {h : List B} {Q : V → List B → Prop} (hf : P.funcs[f]? = some fn) (hb : fn.body = some code) (hname : fn.name ≠ "runtime.NumGoroutine") {n : Nat} (hn : fn.ntmps = n) (hl : args.length ≤ n) {rs : Array ResultVar} (hrs : fn.results = rs)
    (body : AW P ge code (RetG P rs Q h) ⟨n, argTm 0 args, h⟩) : GCall P ge f args h Q := by
  subst hn; subst hrs
  exact GCall_of_body hf hb hname hl body
theorem retg1 {st : St} {t : Nat} {Q : V → List B → Prop} {h0 h' : List B} (hq : Q (lk st.tm t) h') (hv : (lk st.tm t).lt h'.length = true) (hl : Leaves h0 st.h h') : RetG P #[.tmp t] Q h0 .ret st := ⟨.inr rfl, _, h', rfl, hq, hv, hl⟩
theorem Leaves.refl {h : List B} : Leaves h h h := ⟨Nat.le_refl _, Nat.le_refl _, fun b x hx => .inr ⟨hx, .inl hx⟩⟩
/-- A prefix has turned; what stands behind it stays; what is new falls. -/
theorem Leaves.tail {a a' e x : List B} (hl : a'.length = a.length) (ha : ∀ y ∈ a', y.lt a'.length) : Leaves (a ++ e) (a' ++ (e ++ x)) (a' ++ e) := by
  refine ⟨by simp [hl], by simp, fun b y hy => .inr ⟨?_, ?_⟩⟩
  · have hlt := (List.getElem?_eq_some_iff.1 hy).1
    rw [← List.append_assoc, List.getElem?_append_left hlt]; exact hy
  · rcases Nat.lt_or_ge b a'.length with h | h
    · rw [List.getElem?_append_left h] at hy
      exact .inr (B.lt_mono (by simp) (ha y (List.mem_of_getElem? hy)))
    · rw [List.getElem?_append_right h] at hy
      refine .inl ?_
      rw [List.getElem?_append_right (by omega), ← hl]; exact hy
theorem Weak.tail {st : St} {tm : List (Nat × V)} {a e x : List B} (hh : st.h = a ++ (e ++ x)) (ht : ∀ p ∈ tm, lk st.tm p.1 = p.2 ∧ p.2.lt (a ++ e).length = true) (ha : ∀ y ∈ a, y.lt (a ++ e).length) (he : ∀ y ∈ e, y.lt (a ++ e).length) :
    Weak st ⟨st.n, tm, a ++ e⟩ := by
  refine ⟨rfl, by rw [hh]; simp, ht, fun b y hy => .inr ⟨?_, ?_⟩⟩
  · have hlt := (List.getElem?_eq_some_iff.1 hy).1
    rw [hh, ← List.append_assoc, List.getElem?_append_left hlt]; exact hy
  · rcases List.mem_append.1 (List.mem_of_getElem? hy) with h | h
    · exact ha y h
    · exact he y h
theorem GCall.imp {f : Nat} {args : List V} {h : List B} {Q : V → List B → Prop} (hc : GCall P ge f args h Q) {args' : List V} {h' : List B} (e1 : args = args') (e2 : h = h') : GCall P ge f args' h' Q := by subst e1; subst e2; exact hc
theorem V.lts_mono {n m : Nat} (h : n ≤ m) {vs : List V} (hv : V.lts n vs = true) : V.lts m vs = true := by
  have := B.lt_mono (x := .var vs) h hv
  exact this
end
attribute [simp] Leaves.refl
end Go.AM
