/-
  Proved: gnomonlaw19.TimesLeast returns true, and its arguments read behind the call as they did before, for every input whose reading is of bulk at most 1048576 (the statement's second form); no other condition.
-/
import Derived.Test.YtgmlimipejcpgaaT19
import Derived.Test.YtgmlimipejcpgaaT15
import Derived.Test.YtgmlimipejcpgaaTB
import Derived.WalkKit
import Derived.ProofKit
import Derived.OpenShut
import Derived.ChangeOld
import Derived.Carry
import Derived.JoinedCond
set_option linter.unusedVariables false
namespace Go.Proofs.Ytgmlimipejcpgaa
open Go Go.AM
theorem co2' : Try.prog.cellsOf 2 = 1 := by kernel_rfl
theorem co3' : Try.prog.cellsOf 3 = 1 := by kernel_rfl
theorem co36' : Try.prog.cellsOf 36 = 1 := by kernel_rfl
theorem co38' : Try.prog.cellsOf 38 = 3 := by kernel_rfl
theorem co23' : Try.prog.cellsOf 23 = 1 := by kernel_rfl
theorem co28' : Try.prog.cellsOf 28 = 3 := by kernel_rfl
theorem rnInts : RdN KB Try.prog 22 (fun l : List Int => [iv l]) (fun l => l.length ≤ 1048576 ∧ ∀ a ∈ l, I64 a) :=
  (RdN_slice Try.underlying22 (by rw [co2']; decide) (RdN_int Try.underlying2) (fun _ => by rw [co2']; rfl)).map id (fun _ => rfl) (fun l h => ⟨h.1, fun a ha => wf64 (h.2 a ha)⟩)
theorem rnD : RdN KB Try.prog 38 D.cells (fun d => I64 d.i ∧ I64 d.j ∧ I32 d.b) :=
  (RdN_struct Try.underlying38 co38' (RdNs_cons rfl co3' (RdN_int Try.underlying3) (fun _ => rfl) (RdNs_cons rfl co3' (RdN_int Try.underlying3) (fun _ => rfl) (RdNs_cons rfl co36' (RdN_int Try.underlying36) (fun _ => rfl) (RdNs_nil rfl))))).map
    (fun p => ⟨p.1, p.2.1, p.2.2.1⟩) (fun _ => rfl) (fun p h => ⟨wf64 h.1, wf64 h.2.1, wf32 h.2.2.1⟩)
theorem rnDs : RdN KB Try.prog 23 (fun l : List D => [dv l]) (fun l => l.length ≤ 1048576 ∧ ∀ d ∈ l, I64 d.i ∧ I64 d.j ∧ I32 d.b) :=
  (RdN_slice Try.underlying23 (by rw [co38']; decide) rnD (fun _ => by rw [co38']; rfl)).map id (fun _ => rfl) (fun l h => h)
theorem rnSys : RdN KB Try.prog 28 (fun p : Int × List D × Int => [V.int .i64 p.1, dv p.2.1, V.int .i64 p.2.2]) (fun p => I64 p.1 ∧ p.2.1.length ≤ 1048576 ∧ I64 p.2.2) :=
  (RdN_struct Try.underlying28 co28' (RdNs_cons rfl co3' (RdN_int Try.underlying3) (fun _ => rfl) (RdNs_cons rfl co23' rnDs (fun _ => rfl) (RdNs_cons rfl co2' (RdN_int Try.underlying2) (fun _ => rfl) (RdNs_nil rfl))))).map
    (fun p => ⟨p.1, p.2.1, p.2.2.1⟩) (fun _ => rfl) (fun p h => ⟨wf64 h.1, h.2.1.1, wf64 h.2.2.1⟩)

namespace timesLeast
open Go.ChangeShapes Go.WideShapes Go.ChangeAt Go.RowKit

theorem contract (H : Type) (enc : TypeId × Value → H) (W : World) (base : Nat) (args : Array Value) (ds gs : List (DataW H)) (before : List MemPlace)
    (hval : ∀ (j : Nat) t v, Try.f4.params[j]? = some t → args[j]? = some v → Value.okWide Try.prog W .any base t v)
    (hW : DataW.Whole enc Try.prog Try.f4.params.toList Rows.timesLeastSpec.vars false W args.toList ds gs before) (hk : Rows.uptoSmall H (ds ++ gs) = true) :
    Calls Try.prog 4 args W fun e W' => ∃ v, e = .returned v ∧ Rows.timesLeastSpec.post enc Try.prog Try.f4 false true false false W args v W' := by
  have hW' := hW
  obtain ⟨p, q, hA0, hV, rfl, hfz, hnd⟩ := hW
  have hA : DataW.TrodAll enc Try.prog W 0 (fun _ => true) true Try.f4.params.toList args.toList ds p := hA0
  rw [Try.params4] at hA hval
  obtain ⟨v0, vs0, d0, ds0, p0, q0, hargs, rfl, rfl, h0, r0⟩ := trodAll_cons hA
  obtain ⟨v1, vs1, d1, ds1, p1, q1, rfl, rfl, rfl, h1, r1⟩ := trodAll_cons r0
  obtain ⟨v2, vs2, d2, ds2, p2, q2, rfl, rfl, rfl, h2, r2⟩ := trodAll_cons r1
  obtain ⟨rfl, rfl, rfl⟩ := trodAll_nil r2
  obtain rfl : args = #[v0, v1, v2] := by cases args; simp_all
  obtain ⟨rfl, rfl⟩ := trodVars_none hV
  have hk2 : Rows.uptoSmall H [d0, d1, d2] = true := by simpa using hk
  have hb : Rows.uptoBulkAll [d0, d1, d2] ≤ 1048576 := of_decide_eq_true hk2
  simp only [Rows.uptoBulkAll] at hb
  have lt0 : ∀ x ∈ p0, x.block < W.heap.size := by obtain ⟨m, hm⟩ := h0; exact DataW.trod_lt m _ _ _ hm
  have lt1 : ∀ x ∈ p1, x.block < W.heap.size := by obtain ⟨m, hm⟩ := h1; exact DataW.trod_lt m _ _ _ hm
  obtain ⟨cs0, rfl, _⟩ := okWide_struct Try.underlying28 (hval 0 28 v0 rfl rfl)
  obtain ⟨⟨sn, sl, se⟩, hs, rs⟩ := rnSys.aggArg h0 (show Rows.uptoBulk d0 ≤ 1048576 by omega)
  obtain ⟨a1, len1, cap1, rfl⟩ := okWide_slice Try.underlying22 (hval 1 22 v1 rfl rfl)
  obtain ⟨t, ht, rt⟩ := rnInts.arg h1 rfl (show Rows.uptoBulk d1 ≤ 1048576 by omega)
  obtain ⟨grid, rfl, rfl, rfl, w2⟩ := open_int Try.underlying2 (hval 2 2 v2 rfl rfl) h2
  clear hA0
  have hc := c_TimesLeast sn sl se t grid hs.1 hs.2.2 (by have := hs.2.1; simp only at this; omega) (by omega) (wf64 w2)
  refine (law_calls hc ⟨rfl, fun i v hv => ?_⟩ (GE_all fun g cs h => by cases h)).mono fun e W' ⟨he, bel⟩ => ?_
  · match i, hv with
    | 0, hv => cases hv; exact rs
    | 1, hv => cases hv; exact rt
    | 2, hv => cases hv; exact .int
    | i + 3, hv => simp at hv
  subst he
  exact ⟨_, rfl, _, _, _, [], _, [], hW', trodAll_mk1 (shut_bool Try.underlying4 _),
    trodAll_cons_mk (Below.trod laidOut (by kernel_rfl) (of_decide_eq_true (by kernel_rfl)) h0 bel lt0) (trodAll_cons_mk (Below.trod laidOut (by kernel_rfl) (of_decide_eq_true (by kernel_rfl)) h1 bel lt1) (trodAll_cons_mk (shut_int Try.underlying2 w2) trodAll_mk0)),
    rfl, bel.frame _, fun h => by cases h⟩

set_option maxRecDepth 100000 in
theorem lifted (os : Os) (started : os.Started) (H : Type) (enc : TypeId × Value → H) (F : Stop.Interp) :
    ReturnsInHanded {} Try.checked os 4 .any ((Rows.OpenSpec.upto Rows.timesLeastSpec).pre6 enc Try.prog Try.f4 Rows.timesLeastUptoRow.domain false) (((Rows.OpenSpec.upto Rows.timesLeastSpec).at F).post enc Try.prog Try.f4 false true false false) := by
  refine returnsInHanded_of_cond (C := Try.checked) (s := Rows.OpenSpec.upto Rows.timesLeastSpec) (k := Rows.uptoSmall) rfl own started (by kernel_rfl) Try.func4
    (OpenSpec.witness (enc := enc) (C := Try.checked) (s := Rows.OpenSpec.upto Rows.timesLeastSpec) (k := Rows.uptoSmall) rfl false ⟨#[], #[.agg #[.int .i64 0, .slice none 0 0, .int .i64 0], .slice none 0 0, .int .i64 0], []⟩ 8 (by kernel_rfl) (by kernel_rfl) (by kernel_rfl)
      (x := ([.agg [.lit (.int .i64 0), .nil, .lit (.int .i64 0)], .nil, .lit (.int .i64 0)], [], [])) (by kernel_rfl) rfl (by kernel_rfl)) ?_
  intro W base args ds gs before hval hW _ hk _
  exact contract H enc W base args ds gs before hval hW hk

theorem over : Rows.timesLeastUptoRow.holds Try.pinned (Rows.OpenSpec.upto Rows.timesLeastSpec) :=
  OpenClaim.holds_of_cond 4 Try.f4 rfl rfl rfl rfl rfl rfl rfl ⟨rfl, rfl, rfl, rfl, rfl⟩ rfl rfl rfl rfl rfl (by kernel_rfl) Try.func4 (by kernel_rfl)
    (of_decide_eq_true (by kernel_rfl)) (by unfold Func.isWrapper; first | (rw [if_pos (by decide +kernel)]; kernel_rfl) | (rw [if_neg (by decide +kernel)]; exact ⟨rfl, rfl⟩))
    (fun os started H enc _ F => lifted os started H enc F)
theorem proved : Rows.TimesLeastUptoSaid := over
#print axioms proved
end timesLeast
/-- The row, under a short name, for the claim. -/
theorem timesLeast_holds : Rows.TimesLeastUptoSaid := timesLeast.proved
end Go.Proofs.Ytgmlimipejcpgaa
