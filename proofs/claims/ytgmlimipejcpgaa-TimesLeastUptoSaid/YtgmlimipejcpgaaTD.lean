/-
  YtgmlimipejcpgaaTD: a step of the proof of a law of the program: what this text proves holds under the hypotheses that its theorems name, and no others.
-/
import Derived.Test.YtgmlimipejcpgaaT3
import Derived.Test.YtgmlimipejcpgaaAmQ
set_option linter.unusedVariables false
set_option linter.unusedSimpArgs false
namespace Go.Proofs.Ytgmlimipejcpgaa
open Go Go.AM Fx
theorem mixed : Try.prog.follows .mixedOrders = true := by decide
/-- A slice of numbers. -/
def iv (l : List Int) : V := .vec (l.map fun n => [V.int .i64 n]) l.length

/-- A difference. -/
structure D where
  i : Int
  j : Int
  b : Int
def D.cells (d : D) : List V := [.int .i64 d.i, .int .i64 d.j, .int .i32 d.b]
/-- A slice of differences. -/
def dv (l : List D) : V := .vec (l.map D.cells) l.length

theorem all_idx {α : Type} {p : α → Bool} {l : List α} (h : ∀ (j : Nat) (x : α), l[j]? = some x → p x = true) : l.all p = true := by
  rw [List.all_eq_true]
  intro x hx
  obtain ⟨j, hj⟩ := List.getElem?_of_mem hx
  exact h j x hj
theorem all_idx_f {α : Type} {p : α → Bool} {l : List α} (j : Nat) (x : α) (h : l[j]? = some x) (hp : p x = false) : l.all p = false := by
  rw [Bool.eq_false_iff]
  intro ha
  rw [List.all_eq_true.1 ha x (List.mem_of_getElem? h)] at hp; cases hp

def big (n : Nat) : Prop := n ≤ 4611686018427387904

def Pre {α : Type} (l : List α) (p : α → Prop) (i : Nat) : Prop := ∀ (j : Nat) (x : α), j < i → l[j]? = some x → p x
theorem Pre.zero {α : Type} {l : List α} {p : α → Prop} : Pre l p 0 := fun j x hj => by omega
theorem Pre.succ {α : Type} {l : List α} {p : α → Prop} {i : Nat} {x : α} (h : Pre l p i) (hx : l[i]? = some x) (hp : p x) : Pre l p (i + 1) := fun j y hj hy => by
  rcases Nat.lt_or_ge j i with h1 | h1
  · exact h j y h1 hy
  · have : j = i := by omega
    subst this; rw [hx] at hy; cases hy; exact hp
theorem Pre.all {α : Type} {l : List α} {p : α → Bool} {i : Nat} (h : Pre l (fun x => p x = true) i) (hi : l.length ≤ i) : l.all p = true :=
  all_idx fun j x hj => h j x (by have := (List.getElem?_eq_some_iff.1 hj).1; omega) hj

theorem all_at {α : Type} {p : α → Bool} {l : List α} (h : l.all p = true) {i : Nat} (hi : i < l.length) : p l[i] = true := List.all_eq_true.1 h _ (List.getElem_mem hi)

end Go.Proofs.Ytgmlimipejcpgaa
