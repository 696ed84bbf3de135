/-
  Proved: gnomonlaw21.ReplaySums returns true, and its arguments read behind the call as they did before, for all arguments whose readings are together of bulk at most 1048576 (the statement's second form), the two listed package variables reading as the program's own text lays them (tied); no other condition.
-/
import Derived.Test.YtbgooadmonnjaaaGreatDoorRs02
import Derived.Test.YtbgooadmonnjaaaGreatDoorRc19
import Derived.Test.YtbgooadmonnjaaaGreatDoorRc17
import Derived.Test.YtbgooadmonnjaaaGreatDoorRc11
import Derived.Test.YtbgooadmonnjaaaGreatDoorRs00
import Derived.Test.YtbgooadmonnjaaaGreatDoorRc08
import Derived.Test.YtbgooadmonnjaaaGreatDoorProg
import Derived.Test.YtbgooadmonnjaaaGreatDoorRc07
import Derived.Test.YtbgooadmonnjaaaGreatDoorRc06
import Derived.Test.YtbgooadmonnjaaaGreatDoorRc05
import Derived.Test.YtbgooadmonnjaaaGreatDoorRc04
import Derived.Test.YtbgooadmonnjaaaGreatDoorRc03
import Derived.Test.YtbgooadmonnjaaaGreatDoorRc02
import Derived.Test.YtbgooadmonnjaaaGreatDoorRc01
import Derived.Test.YtbgooadmonnjaaaGreatDoorRc00
import Derived.Tactics
import Derived.Below
import Derived.Laws.AppendOwn
import Derived.Laws.CopyRow
import Derived.Laws.Rows
import Derived.Laws.Entries
import Derived.Laws.StructEq
import Derived.ChangeKeysEq
import Derived.Laws.IdiomStrings
import Derived.KernelRfl
import Derived.Test.YtbgooadmonnjaaaGreatDoorRc10
import Derived.Test.YtbgooadmonnjaaaGreatDoorRc09
import Derived.Orders
import Derived.Scope
import Derived.ChangeSlices
import Derived.MapKept
import Derived.Test.YtbgooadmonnjaaaGreatDoorRows
import Derived.OpenShut
import Derived.Test.YtbgooadmonnjaaaGreatDoorCards
import Derived.Test.YtbgooadmonnjaaaGreatDoorTie
import Derived.WalkKit
import Derived.ProofKit
import Derived.ChangeOld
import Derived.Carry
import Derived.JoinedCond
import Derived.Deep.DeepHandedRow
import Derived.Test.YtbgooadmonnjaaaGreatDoorRc16
import Derived.Test.YtbgooadmonnjaaaGreatDoorRc12
import Derived.Test.YtbgooadmonnjaaaGreatDoorRc15
import Derived.Test.YtbgooadmonnjaaaGreatDoorRc13
import Derived.Test.YtbgooadmonnjaaaGreatDoorRc14
import Derived.Lib.AppendZeros
import Derived.Test.YtbgooadmonnjaaaGreatDoorRc18
import Derived.Laws.IdiomCopy
import Derived.Test.YtbgooadmonnjaaaGreatDoorRs01
import Derived.Test.YtbgooadmonnjaaaGreatDoorRc34
import Derived.Test.YtbgooadmonnjaaaGreatDoorRc33
import Derived.Test.YtbgooadmonnjaaaGreatDoorRc31
import Derived.Test.YtbgooadmonnjaaaGreatDoorRc29
import Derived.Test.YtbgooadmonnjaaaGreatDoorRc28
import Derived.Test.YtbgooadmonnjaaaGreatDoorRc26
import Derived.Test.YtbgooadmonnjaaaGreatDoorRc25
import Derived.Test.YtbgooadmonnjaaaGreatDoorRc23
import Derived.Test.YtbgooadmonnjaaaGreatDoorRc20
import Derived.Test.YtbgooadmonnjaaaGreatDoorRc22
import Derived.Test.YtbgooadmonnjaaaGreatDoorRc21
import Derived.Shelf.Spec.BitsCarry
import Derived.Test.YtbgooadmonnjaaaGreatDoorRc24
import Derived.Test.YtbgooadmonnjaaaGreatDoorRc27
import Derived.Test.YtbgooadmonnjaaaGreatDoorRc30
import Derived.Test.YtbgooadmonnjaaaGreatDoorRc32
section
set_option linter.unusedVariables false
namespace Go.Proofs.YtbgooadmonnjaaaGreatDoor
open Go Go.AM
namespace replaySums
open Go.ChangeShapes Go.WideShapes Go.ChangeAt Go.RowKit
set_option maxRecDepth 100000 in
theorem contract (H : Type) (enc : TypeId × Value → H) (W : World) (base : Nat) (args : Array Value) (ds gs : List (DataW H)) (before : List MemPlace)
    (hval : ∀ (j : Nat) t v, Tryz.f5.params[j]? = some t → args[j]? = some v → Value.okWide Tryz.prog W .any base t v)
    (hW : DataW.Whole enc Tryz.prog Tryz.f5.params.toList Rows.replaySumsSpec.vars false W args.toList ds gs before) (hk : Rows.uptoSmall H (ds ++ gs) = true) (hL : laidMetH Tryz.prog laidAll W) :
    Calls Tryz.prog 5 args W fun e W' => ∃ v, e = .returned v ∧ Rows.replaySumsSpec.post enc Tryz.prog Tryz.f5 false true false false W args v W' := by
  have hW' := hW
  obtain ⟨p, q, hA0, hV, rfl, hfz, hnd⟩ := hW
  have hA : DataW.TrodAll enc Tryz.prog W 0 (fun _ => true) true Tryz.f5.params.toList args.toList ds p := hA0
  rw [Tryz.params5] at hA hval
  obtain ⟨v0, vs0, d0, ds0, p0, q0, hargs, rfl, rfl, h0, r0⟩ := trodAll_cons hA
  obtain ⟨v1, vs1, d1, ds1, p1, q1, rfl, rfl, rfl, h1, r1⟩ := trodAll_cons r0
  obtain ⟨v2, vs2, d2, ds2, p2, q2, rfl, rfl, rfl, h2, r2⟩ := trodAll_cons r1
  obtain ⟨rfl, rfl, rfl⟩ := trodAll_nil r2
  obtain rfl : args = #[v0, v1, v2] := by cases args; simp_all
  obtain ⟨rfl, rfl⟩ := trodVars_none hV
  have hk2 := hk
  have hb : Rows.uptoBulkAll [d0, d1, d2] ≤ 1048576 := of_decide_eq_true hk2
  simp only [Rows.uptoBulkAll] at hb
  obtain ⟨cs0, rfl, _⟩ := okWide_struct Tryz.underlying26 (hval 0 26 v0 rfl rfl)
  have lt0 : ∀ x ∈ p0, x.block < W.heap.size := by obtain ⟨m, hm⟩ := h0; exact DataW.trod_lt m _ _ _ hm
  have hbk0 : KB.bk H d0 ≤ KB.N := by show Rows.uptoBulk d0 ≤ 1048576; omega
  obtain ⟨x0, hx0, rx0⟩ := rnNetD.aggArg h0 hbk0
  obtain ⟨cs1, rfl, _⟩ := okWide_struct Tryz.underlying65 (hval 1 65 v1 rfl rfl)
  have lt1 : ∀ x ∈ p1, x.block < W.heap.size := by obtain ⟨m, hm⟩ := h1; exact DataW.trod_lt m _ _ _ hm
  have hbk1 : KB.bk H d1 ≤ KB.N := by show Rows.uptoBulk d1 ≤ 1048576; omega
  obtain ⟨x1, hx1, rx1⟩ := rnCfgD.aggArg h1 hbk1
  obtain ⟨cs2, rfl, _⟩ := okWide_arr Tryz.underlying71 (hval 2 71 v2 rfl rfl)
  have lt2 : ∀ x ∈ p2, x.block < W.heap.size := by obtain ⟨m, hm⟩ := h2; exact DataW.trod_lt m _ _ _ hm
  have hbk2 : KB.bk H d2 ≤ KB.N := by show Rows.uptoBulk d2 ≤ 1048576; omega
  obtain ⟨x2, hx2, rx2⟩ := rnRats.aggArg h2 hbk2
  clear hA0
  have hc := c_ReplaySums x0 hx0 x1 hx1 x2 hx2
  refine (law_calls hc ⟨rfl, fun i v hv => ?_⟩ (ge_of_laid hL)).mono fun e W' ⟨he, bel⟩ => ?_
  · match i, hv with
    | 0, hv => cases hv; exact rx0
    | 1, hv => cases hv; exact rx1
    | 2, hv => cases hv; exact rx2
    | i + 3, hv => simp at hv
  subst he
  exact ⟨_, rfl, _, _, _, [], _, [], hW', trodAll_mk1 (shut_bool Tryz.underlying4 _),
    trodAll_cons_mk (Below.trod laidOut (by kernel_rfl) (of_decide_eq_true (by kernel_rfl)) h0 bel lt0) (trodAll_cons_mk (Below.trod laidOut (by kernel_rfl) (of_decide_eq_true (by kernel_rfl)) h1 bel lt1) (trodAll_cons_mk (Below.trod laidOut (by kernel_rfl) (of_decide_eq_true (by kernel_rfl)) h2 bel lt2) trodAll_mk0)),
    rfl, bel.frame _, fun h => by cases h⟩
def witArgs : Array Value := #[.agg #[.slice none 0 0, .slice none 0 0, .slice none 0 0, .slice none 0 0], .agg #[.slice none 0 0, .slice none 0 0, .slice none 0 0], .agg #[.int .i64 0, .int .i64 0, .int .i64 0, .int .i64 0]]
theorem reads (os : Os) {H : Type} (enc : TypeId × Value → H) : ∃ places, DataW.whole enc Tryz.prog ((laidWorld os).forCall (fun _ _ => 0) ⟨#[], witArgs, []⟩).memory Tryz.f5.params.toList Rows.replaySumsSpec.vars false witArgs.toList 8 = some ([.agg [.nil, .nil, .nil, .nil], .agg [.agg [.nil, .nil], .nil], .agg [.agg [.lit (.int .i64 0), .lit (.int .i64 0)], .agg [.lit (.int .i64 0), .lit (.int .i64 0)]]], [], places) :=
  ⟨[], by kernel_rfl⟩
set_option maxRecDepth 100000 in
theorem lifted (os : Os) (started : os.Started) (H : Type) (enc : TypeId × Value → H) (F : Stop.Interp) :
    ReturnsInHanded {} Tryz.checked os 5 .any ((Rows.OpenSpec.upto Rows.replaySumsSpec).preRow enc Tryz.prog Tryz.f5 Rows.replaySumsUptoRow.domain false Rows.replaySumsUptoRow.laid) (((Rows.OpenSpec.upto Rows.replaySumsSpec).at F).post enc Tryz.prog Tryz.f5 false true false false) := by
  obtain ⟨places, hx⟩ := reads os enc
  refine returnsInHanded_of_row (C := Tryz.checked) (s := Rows.OpenSpec.upto Rows.replaySumsSpec) ownNone started (by kernel_rfl) Tryz.func5
    (witness_row_at (enc := enc) (C := Tryz.checked) false (laidWorld os) witArgs rfl (by kernel_rfl) (by kernel_rfl) (by kernel_rfl)
      (OpenSpec.preRow_of_cond 8 hx (by kernel_rfl) (fun k hk => by cases hk; kernel_rfl) (by kernel_rfl) (laid_met os _))) ?_
  intro W base args ds gs before hval hW _ hcond _ hL _ _
  exact contract H enc W base args ds gs before hval hW (hcond _ rfl) hL
theorem jPlace : (Rows.replaySumsUptoRow.inPlace == Tryz.pinned.checked.prog.inPlace 5) = true := by kernel_rfl
theorem jUnf : (Rows.replaySumsUptoRow.unfollowed == Tryz.pinned.checked.prog.unfollowed 5) = true := by kernel_rfl
theorem jRec : (Rows.replaySumsUptoRow.recurses == Tryz.pinned.checked.prog.recurses 5) = true := by kernel_rfl
theorem jNamed : (Rows.replaySumsUptoRow.named == Tryz.pinned.checked.prog.varsNamed 5) = true := by kernel_rfl
theorem closed : joinedFacts Tryz.pinned.checked.prog 5 Tryz.f5 (Rows.OpenSpec.upto Rows.replaySumsSpec).bare Rows.replaySumsUptoRow = true := by
  unfold joinedFacts
  simp only [Bool.and_eq_true]
  repeat' apply And.intro
  all_goals first | (with_reducible exact jPlace) | (with_reducible exact jUnf) | (with_reducible exact jRec) | (with_reducible exact jNamed) | kernel_rfl
theorem wrapped : Tryz.f5.isWrapper Tryz.pinned.checked.prog Rows.replaySumsUptoRow.wrapper Rows.replaySumsUptoRow.mainSum := by unfold Func.isWrapper; first | (rw [if_pos (by decide +kernel)]; kernel_rfl) | (rw [if_neg (by decide +kernel)]; exact ⟨rfl, rfl⟩)
theorem said : Rows.ReplaySumsUptoSaid :=
  OpenClaim.holds_of_cond 5 Tryz.f5 rfl rfl rfl rfl rfl rfl rfl ⟨rfl, rfl, rfl, rfl, rfl⟩ rfl rfl rfl rfl rfl (by kernel_rfl) Tryz.func5 closed
    (of_decide_eq_true (by kernel_rfl)) wrapped
    (fun os started H enc _ F => by rw [OpenClaim.pre_eq_preRow]; exact lifted os started H enc F)
/-- No parameter wants a stand-in; the program's own looks are off. -/
theorem plain (f : FuncId) (fn : Func) (hf : Tryz.pinned.checked.prog.funcNamed "gnomon/gnomonlaw21.ReplaySums" = some f) (hfn : Tryz.pinned.checked.prog.funcs[f]? = some fn) :
    false = Tryz.pinned.checked.prog.looks [] ∧ ∀ (j : Nat) t, fn.params[j]? = some t → Tryz.pinned.checked.prog.wantsStandIn t = false := by
  obtain rfl : f = 5 := Option.some.inj ((show Tryz.prog.funcNamed "gnomon/gnomonlaw21.ReplaySums" = some 5 by kernel_rfl).symm.trans hf) |>.symm
  obtain rfl : fn = Tryz.f5 := (Option.some.inj (Tryz.func5.symm.trans hfn)).symm
  refine ⟨by kernel_rfl, fun j t ht => ?_⟩
  rw [Tryz.params5] at ht
  have hm : t = 26 ∨ t = 65 ∨ t = 71 := by simpa using Array.mem_of_getElem? ht
  rcases hm with rfl | rfl | rfl
  · exact (show Tryz.prog.wantsStandIn 26 = false by kernel_rfl)
  · exact (show Tryz.prog.wantsStandIn 65 = false by kernel_rfl)
  · exact (show Tryz.prog.wantsStandIn 71 = false by kernel_rfl)
theorem card : Rows.ReplaySumsUptoCardSaid :=
  Claim7.holds_tied_plain_at .later [] _ _ _ _ said (fun _ h => by cases h) (by kernel_rfl) (fun _ h => by cases h) replaySumsUpto_row_tie rfl ⟨rfl, rfl⟩ (by kernel_rfl) rfl plain (by kernel_rfl)
#print axioms card
end replaySums
/-- The card, under a short name, for the claim. -/
theorem replaySums_holds : Rows.ReplaySumsUptoCardSaid := replaySums.card
end Go.Proofs.YtbgooadmonnjaaaGreatDoor
end
