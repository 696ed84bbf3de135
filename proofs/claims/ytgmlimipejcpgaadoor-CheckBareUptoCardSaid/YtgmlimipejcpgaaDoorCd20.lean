/-
  YtgmlimipejcpgaaDoorCd20: steps of the proof of a law of the program: what these texts prove holds under the hypotheses that their theorems name, and no others.
-/
import Derived.Test.YtgmlimipejcpgaaDoorCd19
import Derived.Laws.IdiomCopy
section
set_option linter.unusedSimpArgs false
set_option linter.unusedVariables false
namespace Go.Proofs.YtgmlimipejcpgaaDoor
open Go Go.AM Fx
/-- Symbolic heaps: what stands behind. -/
theorem ga1 {h x : List B} {n k : Nat} (e : h.length = n) : (h ++ x)[n + k]? = x[k]? := by subst e; rw [List.getElem?_append_right (by omega)]; simp
theorem ga0 {h x : List B} {n : Nat} (e : h.length = n) : (h ++ x)[n]? = x[0]? := ga1 (k := 0) e
theorem sa1 {h x : List B} {n k : Nat} {y : B} (e : h.length = n) : (h ++ x).set (n + k) y = h ++ x.set k y := by subst e; rw [List.set_append, if_neg (by omega)]; simp
theorem sa0 {h x : List B} {n : Nat} {y : B} (e : h.length = n) : (h ++ x).set n y = h ++ x.set 0 y := sa1 (k := 0) e
theorem HL.app {h x : List B} (hl : HL h) (hx : ∀ y ∈ x, y.lt (h.length + x.length)) : HL (h ++ x) := fun y hy => by
  rw [List.length_append]
  rcases List.mem_append.1 hy with h | h
  · exact B.lt_mono (by omega) (hl y h)
  · exact hx y h
end Go.Proofs.YtgmlimipejcpgaaDoor
end
section
set_option linter.unusedVariables false
set_option linter.unusedSimpArgs false
namespace Go.Proofs.YtgmlimipejcpgaaDoor
open Go Go.AM Fx
/-- A heap that leaves another one as it was, with more behind it. -/
structure Old (h hc : List B) : Prop where
  hl : HL hc
  len : h.length ≤ hc.length
  old : ∀ k, k < h.length → hc[k]? = h[k]?
section
variable {h hc hd : List B}
theorem Old.rfl (hl : HL h) : Old h h := ⟨hl, Nat.le_refl _, fun _ _ => Eq.refl _⟩
theorem Old.trans (p : Old h hc) (q : Old hc hd) : Old h hd := ⟨q.hl, Nat.le_trans p.len q.len, fun k hk => (q.old k (Nat.lt_of_lt_of_le hk p.len)).trans (p.old k hk)⟩
theorem Old.app (p : Old h hc) {x : List B} (hx : HL (hc ++ x)) : Old h (hc ++ x) := ⟨hx, by have := p.len; simp; omega, fun k hk => by rw [get_app (Nat.lt_of_lt_of_le hk p.len)]; exact p.old k hk⟩
theorem Old.set (p : Old h hc) {b : Nat} {y : B} (hb : h.length ≤ b) (hx : HL (hc.set b y)) : Old h (hc.set b y) := ⟨hx, by rw [List.length_set]; exact p.len, fun k hk => by rw [gN (by omega)]; exact p.old k hk⟩
theorem HL.setapp {x : List B} {b : Nat} {y : B} (hl : HL h) (hy : y.lt (h.length + x.length)) (hx : ∀ z ∈ x, z.lt (h.length + x.length)) : HL (h.set b y ++ x) := fun z hz => by
  rw [List.length_append, List.length_set]
  rcases List.mem_append.1 hz with hz | hz
  · rcases List.mem_or_eq_of_mem_set hz with hz | hz
    · exact B.lt_mono (by omega) (hl z hz)
    · subst hz; exact hy
  · exact hx z hz
theorem Old.setapp (p : Old h hc) {x : List B} {b : Nat} {y : B} (hb : h.length ≤ b) (hx : HL (hc.set b y ++ x)) : Old h (hc.set b y ++ x) :=
  ⟨hx, by have := p.len; simp; omega, fun k hk => by rw [get_app (by rw [List.length_set]; exact Nat.lt_of_lt_of_le hk p.len), gN (by omega)]; exact p.old k hk⟩
theorem Old.get (p : Old h hc) {k : Nat} {y : B} (hy : h[k]? = some y) : hc[k]? = some y := by rw [p.old k (List.getElem?_eq_some_iff.1 hy).1]; exact hy
end
end Go.Proofs.YtgmlimipejcpgaaDoor
end
section
set_option linter.unusedSimpArgs false
set_option linter.unusedVariables false
namespace Go.Proofs.YtgmlimipejcpgaaDoor
open Go Go.AM Fx
theorem net_small : netE smallN = 0 := by kernel_rfl
end Go.Proofs.YtgmlimipejcpgaaDoor
end
section
set_option linter.unusedVariables false
set_option linter.unusedSimpArgs false
namespace Go.AM
section
variable {P : Program} {ge : GEnv} {st : St} {Q : Exit → St → Prop}
theorem run_equal_snil {T e : TypeId} (h : P.underlying T = some (.slice e)) (a : Option Addr) (m n : Nat) (w : World) : (Op.equal T (.slice a m n) (.slice none 0 0)).run P w = .ok a.isNone w := by
  refine equalIn_succ 9999 T _ _ _ w ?_ rfl
  rw [Op.equalIn]
  cases a <;> simp only [Sem.run_bind, run_underlying h, Result.andThen_ok, Sem.run_pure, Option.isNone]
/-- Whether it is nil is open; if it is, it is empty. -/
theorem AS_eqnil {ops : Array Oper} {rest : List Oper} {d : Option Tmp} {T T' e t : TypeId} {x y : Operand} {p : String} {af : Array Edge} {xs : List (List V)} {len : Nat} (hu : P.underlying T = some (.slice e)) (hx : ev ge st.tm x = .vec xs len) (hy : ev ge st.tm y = .nils) (hd : dstOk st.n d = true)
    (h : ∀ b : Bool, (b = true → len = 0) → AS P ge ops rest Q ⟨st.n, putD d (.bool b) st.tm, st.h⟩) : AS P ge ops (⟨d, .binOp .eql T x y T', t, p, af, none⟩ :: rest) Q st := by
  intro G a w hr
  have h1 := hr.ev x
  have h2 := hr.ev y
  rw [hx] at h1; rw [hy] at h2
  have hcy := inv_nils h2
  have key : ∃ b : Bool, (b = true → len = 0) ∧ (execOp a.eval ⟨d, .binOp .eql T x y T', t, p, af, none⟩).run P w = .ok (.value (.bool b)) w := by
    generalize hcx : a.eval x = cx at h1
    cases h1 with
    | @emp _ a' cap _ => exact ⟨a'.isNone, fun _ => rfl, by simp [execOp, hcx, hcy, run_eqGuard_slice, binOp, run_equal_snil hu]⟩
    | vec => exact ⟨false, fun h => (by cases h), by simp [execOp, hcx, hcy, run_eqGuard_slice, binOp, run_equal_snil hu]⟩
  obtain ⟨b, hb, hrun⟩ := key
  refine wpList_plain rfl fun K hK => ?_
  have hfin : K (a.put d (.bool b)) w := hK _ _ (h b hb G _ w (hr.put (GLe.refl _ _) hr.rh d (dstOk_spec hd) .bool))
  unfold Oper.wp
  rw [hrun]; exact hfin
end
end Go.AM
end
section
set_option linter.unusedSimpArgs false
set_option linter.unusedVariables false
namespace Go.Proofs.YtgmlimipejcpgaaDoor
open Go Go.AM Fx
abbrev Rows3 := List (Nat × Nat × Bool × List (Nat × Nat × Nat))
def markInts (j : Nat) : List V := [.int .i64 (-700 - (j : Int))]
def markGuards (j : Nat) : List V := [.int .i64 0, .int .i64 0, .int .u8 0, .int .i64 (-700 - (j : Int))]
def markNodes (j : Nat) : List V := [.int .u8 0, .int .i64 (-700 - (j : Int))]
def textB : Nat → ByteArray
  | 0 => ⟨#[109, 97, 114, 107, 32, 121, 97, 98]⟩
  | 1 => ⟨#[109, 97, 114, 107, 32, 122, 97, 98]⟩
  | 2 => ⟨#[109, 97, 114, 107, 32, 97, 98, 98]⟩
  | 3 => ⟨#[109, 97, 114, 107, 32, 98, 98, 98]⟩
  | 4 => ⟨#[109, 97, 114, 107, 32, 99, 98, 98]⟩
  | 5 => ⟨#[109, 97, 114, 107, 32, 100, 98, 98]⟩
  | 6 => ⟨#[109, 97, 114, 107, 32, 101, 98, 98]⟩
  | 7 => ⟨#[109, 97, 114, 107, 32, 102, 98, 98]⟩
  | 8 => ⟨#[109, 97, 114, 107, 32, 103, 98, 98]⟩
  | _ => ⟨#[]⟩
def markTexts (j : Nat) : List V := [.str (textB j)]
def LocD.hcells (x : LocD) : List V := [.str x.name, .int .u8 x.kind, handV GuardD.cells markGuards x.inv]
def SetD.hcells (x : SetD) : List V := [.int .i64 x.clock, .int .i64 x.n, .int .i64 x.var, handV NodeD.cells markNodes x.expr]
def EdgeD.hcells (x : EdgeD) : List V := [.int .i64 x.frm, .int .i64 x.to, handV GuardD.cells markGuards x.guards, handV NodeD.cells markNodes x.test, .int .i64 x.chan, .bool x.send, vl SetD.hcells x.sets]
def AutoD.hcells (x : AutoD) : List V := [.str x.name, vl LocD.hcells x.locs, vl EdgeD.hcells x.edges]
def NetD.hcells (x : NetD) : List V := [handV (fun s => [V.str s]) markTexts x.clocks, vl VarD.cells x.vars, handV (fun s => [V.str s]) markTexts x.chans, vl AutoD.hcells x.autos]
def hI (r : List Int) : V := handV (fun k : Int => [V.int .i64 k]) markInts r
def hRows (Q : List (List Int)) : List (List V) := Q.map fun r => [hI r]
def hQ (Q : List (List Int)) : V := .vec (hRows Q) Q.length
end Go.Proofs.YtgmlimipejcpgaaDoor
end
section
set_option linter.unusedVariables false
set_option linter.unusedSimpArgs false
namespace Go.AM
section
variable {P : Program} {ge : GEnv} {st : St} {Q : Exit → St → Prop} {G : Gh} {w : World}
theorem RH.swap {h : List B} (rh : RH P ge G h w) {b : Nat} {x y : B} (hx : h[b]? = some x) (hy : RB P G w b y) (ha : G.at b y = G.at b x) : RH P ge G (h.set b y) w ∧ Ext G h w G (h.set b y) w := by
  have hb : b < h.length := (List.getElem?_eq_some_iff.1 hx).1
  have part : ∀ {b' z}, (h.set b y)[b']? = some z → (b' = b ∧ z = y) ∨ (b' ≠ b ∧ h[b']? = some z) := fun {b' z} hz => by
    rw [List.getElem?_set] at hz
    split at hz
    · rename_i e
      first | (subst e; rw [if_pos hb] at hz; cases hz; exact .inl ⟨rfl, rfl⟩) | (subst e; cases hz; exact .inl ⟨rfl, rfl⟩)
    · rename_i e; exact .inr ⟨fun e' => e e'.symm, hz⟩
  have old : ∀ {b' z}, (h.set b y)[b']? = some z → ∃ z', h[b']? = some z' ∧ G.at b' z' = G.at b' z := fun {b' z} hz => by
    rcases part hz with ⟨rfl, rfl⟩ | ⟨_, hz⟩
    · exact ⟨x, hx, ha.symm⟩
    · exact ⟨z, hz, rfl⟩
  refine ⟨⟨by rw [List.length_set]; exact rh.n, fun b' z hz => ?_, fun b1 b2 z1 z2 k h1 h2 e1 e2 => ?_, rh.fzlt, rh.ge⟩, ⟨.refl _ _, Nat.le_refl _, fun _ _ _ => ⟨rfl, rfl⟩, fun b' z k hz hk => ?_, rfl, ⟨rfl, rfl⟩⟩⟩
  · rcases part hz with ⟨rfl, rfl⟩ | ⟨_, hz⟩
    · exact hy
    · exact rh.bl b' z hz
  · obtain ⟨y1, o1, a1⟩ := old h1
    obtain ⟨y2, o2, a2⟩ := old h2
    exact rh.inj b1 b2 y1 y2 k o1 o2 (a1.trans e1) (a2.trans e2)
  · obtain ⟨y1, o1, a1⟩ := old hz
    exact .inr ⟨b', y1, o1, a1.trans hk⟩
theorem AW_flat {c : Code} (b0 : Nat) {T : TypeId} {g f : Nat} {rows : List (List V)} (h0 : st.h[b0]? = some (.row T g f false rows)) (hF : ∀ x ∈ rows, ∀ v ∈ x, V.isF v = true)
    (h : AW P ge c Q { st with h := st.h.set b0 (.row T g f true rows) }) : AW P ge c Q st := by
  intro G a w hr
  obtain ⟨q1, q2, q3, hrow⟩ := hr.rh.bl b0 _ h0
  obtain ⟨rh2, x2⟩ := hr.rh.swap (y := .row T g f true rows) h0 ⟨q1, q2, q3, by
    rcases hrow with hn | ⟨k, arr, hm, hh, r1, r2, r3, r4, r5, hcells⟩
    · exact .inl hn
    · exact .inr ⟨k, arr, hm, hh, r1, r2, r3, r4, r5, fun i x j v hx hv => ⟨(hcells i x j v hx hv).1, (hcells i x j v hx hv).2.frozen (hF x (List.mem_of_getElem? hx) v (List.mem_of_getElem? hv))⟩⟩⟩ rfl
  exact wp_mono (h G a w ⟨rh2, hr.tm, hr.n, hr.d⟩) fun _ _ _ hp => hp.mono x2 fun _ _ h => h
end
end Go.AM
namespace Go.AM
end Go.AM
end
section
set_option linter.unusedSimpArgs false
set_option linter.unusedVariables false
namespace Go.Proofs.YtgmlimipejcpgaaDoor
open Go Go.AM Fx
theorem lts_set {n : Nat} {v : V} : ∀ {cs : List V} {j : Nat}, V.lts n cs = true → v.lt n = true → V.lts n (cs.set j v) = true
  | [], _, _, _ => rfl
  | a :: cs, 0, h, hv => by
    simp only [V.lts, Bool.and_eq_true, List.set_cons_zero] at h ⊢
    exact ⟨hv, h.2⟩
  | a :: cs, j + 1, h, hv => by
    simp only [V.lts, Bool.and_eq_true, List.set_cons_succ] at h ⊢
    exact ⟨h.1, lts_set h.2 hv⟩
end Go.Proofs.YtgmlimipejcpgaaDoor
end
