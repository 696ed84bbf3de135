/-
  YtgmlimipejcpgaaDoorCd08: steps of the proof of a law of the program: what these texts prove holds under the hypotheses that their theorems name, and no others.
-/
import Derived.Test.YtgmlimipejcpgaaDoorProg
import Derived.Test.YtgmlimipejcpgaaDoorCd07
import Derived.KernelRfl
section
set_option maxRecDepth 100000
namespace Go.Proofs.YtgmlimipejcpgaaDoor
open Go.AM
namespace Fx
@[simp] theorem by2 : bytesOf Tryd.prog 2 = 8 := by kernel_rfl
@[simp] theorem sz3 : szOf Tryd.prog 3 = 1 := by kernel_rfl
@[simp] theorem by3 : bytesOf Tryd.prog 3 = 8 := by kernel_rfl
@[simp] theorem zo3 : (zeroOf Tryd.prog 3).isSome = true := by kernel_rfl
@[simp] theorem zd3 : zeroD Tryd.prog 3 = [(.int .i64 0)] := by kernel_rfl
@[simp] theorem ia3 : isAggT Tryd.prog 3 = false := by kernel_rfl
@[simp] theorem ia4 : isAggT Tryd.prog 4 = false := by kernel_rfl
@[simp] theorem ib4 : isBoolT Tryd.prog 4 = true := by kernel_rfl
@[simp] theorem sz9 : szOf Tryd.prog 9 = 1 := by kernel_rfl
@[simp] theorem by9 : bytesOf Tryd.prog 9 = 16 := by kernel_rfl
@[simp] theorem zo9 : (zeroOf Tryd.prog 9).isSome = true := by kernel_rfl
@[simp] theorem zd9 : zeroD Tryd.prog 9 = [(.str ⟨#[]⟩)] := by kernel_rfl
@[simp] theorem ia9 : isAggT Tryd.prog 9 = false := by kernel_rfl
@[simp] theorem st9 : isStrT Tryd.prog 9 = true := by kernel_rfl
@[simp] theorem sz22 : szOf Tryd.prog 22 = 1 := by kernel_rfl
@[simp] theorem zo22 : (zeroOf Tryd.prog 22).isSome = true := by kernel_rfl
@[simp] theorem zd22 : zeroD Tryd.prog 22 = [.nils] := by kernel_rfl
@[simp] theorem ia22 : isAggT Tryd.prog 22 = false := by kernel_rfl
@[simp] theorem is22 : isSliceT Tryd.prog 22 = true := by kernel_rfl
@[simp] theorem el22 : Go.AM.elemOf Tryd.prog 22 = 9 := by kernel_rfl
@[simp] theorem es22 : elemSz Tryd.prog 22 = 1 := by kernel_rfl
@[simp] theorem ia23 : isAggT Tryd.prog 23 = false := by kernel_rfl
@[simp] theorem is23 : isSliceT Tryd.prog 23 = true := by kernel_rfl
@[simp] theorem es23 : elemSz Tryd.prog 23 = 4 := by kernel_rfl
@[simp] theorem ia24 : isAggT Tryd.prog 24 = false := by kernel_rfl
@[simp] theorem is24 : isSliceT Tryd.prog 24 = true := by kernel_rfl
@[simp] theorem el24 : Go.AM.elemOf Tryd.prog 24 = 41 := by kernel_rfl
@[simp] theorem es24 : elemSz Tryd.prog 24 = 3 := by kernel_rfl
@[simp] theorem sz26 : szOf Tryd.prog 26 = 4 := by kernel_rfl
@[simp] theorem zo26 : (zeroOf Tryd.prog 26).isSome = true := by kernel_rfl
@[simp] theorem zd26 : zeroD Tryd.prog 26 = [.nils, .nils, .nils, .nils] := by kernel_rfl
@[simp] theorem ia26 : isAggT Tryd.prog 26 = true := by kernel_rfl
@[simp] theorem ss26 : isStructT Tryd.prog 26 = true := by kernel_rfl
@[simp] theorem fk26 : fldOk Tryd.prog 26 = true := by kernel_rfl
@[simp] theorem fo26_0 : fieldOff Tryd.prog 26 0 = some 0 := by kernel_rfl
@[simp] theorem fo26_1 : fieldOff Tryd.prog 26 1 = some 1 := by kernel_rfl
@[simp] theorem fo26_2 : fieldOff Tryd.prog 26 2 = some 2 := by kernel_rfl
@[simp] theorem fo26_3 : fieldOff Tryd.prog 26 3 = some 3 := by kernel_rfl
@[simp] theorem fi26_0 : fInfo Tryd.prog 26 0 = some (0, 1) := by kernel_rfl
@[simp] theorem fi26_3 : fInfo Tryd.prog 26 3 = some (3, 1) := by kernel_rfl
@[simp] theorem is27 : isSliceT Tryd.prog 27 = true := by kernel_rfl
@[simp] theorem es27 : elemSz Tryd.prog 27 = 1 := by kernel_rfl
@[simp] theorem ia29 : isAggT Tryd.prog 29 = false := by kernel_rfl
@[simp] theorem is29 : isSliceT Tryd.prog 29 = true := by kernel_rfl
@[simp] theorem es29 : elemSz Tryd.prog 29 = 3 := by kernel_rfl
@[simp] theorem sz30 : szOf Tryd.prog 30 = 1 := by kernel_rfl
@[simp] theorem zo30 : (zeroOf Tryd.prog 30).isSome = true := by kernel_rfl
@[simp] theorem zd30 : zeroD Tryd.prog 30 = [.nils] := by kernel_rfl
@[simp] theorem ia30 : isAggT Tryd.prog 30 = false := by kernel_rfl
@[simp] theorem is30 : isSliceT Tryd.prog 30 = true := by kernel_rfl
@[simp] theorem el30 : Go.AM.elemOf Tryd.prog 30 = 3 := by kernel_rfl
@[simp] theorem es30 : elemSz Tryd.prog 30 = 1 := by kernel_rfl
@[simp] theorem sz35 : szOf Tryd.prog 35 = 1 := by kernel_rfl
@[simp] theorem ia35 : isAggT Tryd.prog 35 = false := by kernel_rfl
@[simp] theorem ia38 : isAggT Tryd.prog 38 = false := by kernel_rfl
@[simp] theorem is38 : isSliceT Tryd.prog 38 = true := by kernel_rfl
@[simp] theorem el38 : Go.AM.elemOf Tryd.prog 38 = 45 := by kernel_rfl
@[simp] theorem es38 : elemSz Tryd.prog 38 = 3 := by kernel_rfl
@[simp] theorem ia39 : isAggT Tryd.prog 39 = false := by kernel_rfl
@[simp] theorem is39 : isSliceT Tryd.prog 39 = true := by kernel_rfl
@[simp] theorem el39 : Go.AM.elemOf Tryd.prog 39 = 49 := by kernel_rfl
@[simp] theorem es39 : elemSz Tryd.prog 39 = 7 := by kernel_rfl
@[simp] theorem sz41 : szOf Tryd.prog 41 = 3 := by kernel_rfl
@[simp] theorem zo41 : (zeroOf Tryd.prog 41).isSome = true := by kernel_rfl
@[simp] theorem zd41 : zeroD Tryd.prog 41 = [(.str ⟨#[]⟩), .nils, .nils] := by kernel_rfl
@[simp] theorem ia41 : isAggT Tryd.prog 41 = true := by kernel_rfl
@[simp] theorem ss41 : isStructT Tryd.prog 41 = true := by kernel_rfl
@[simp] theorem fk41 : fldOk Tryd.prog 41 = true := by kernel_rfl
@[simp] theorem fo41_0 : fieldOff Tryd.prog 41 0 = some 0 := by kernel_rfl
@[simp] theorem fo41_1 : fieldOff Tryd.prog 41 1 = some 1 := by kernel_rfl
@[simp] theorem fo41_2 : fieldOff Tryd.prog 41 2 = some 2 := by kernel_rfl
@[simp] theorem fi41_0 : fInfo Tryd.prog 41 0 = some (0, 1) := by kernel_rfl
@[simp] theorem fi41_1 : fInfo Tryd.prog 41 1 = some (1, 1) := by kernel_rfl
@[simp] theorem fi41_2 : fInfo Tryd.prog 41 2 = some (2, 1) := by kernel_rfl
@[simp] theorem ia42 : isAggT Tryd.prog 42 = false := by kernel_rfl
@[simp] theorem ia43 : isAggT Tryd.prog 43 = false := by kernel_rfl
@[simp] theorem is43 : isSliceT Tryd.prog 43 = true := by kernel_rfl
@[simp] theorem el43 : Go.AM.elemOf Tryd.prog 43 = 73 := by kernel_rfl
@[simp] theorem es43 : elemSz Tryd.prog 43 = 4 := by kernel_rfl
@[simp] theorem sz45 : szOf Tryd.prog 45 = 3 := by kernel_rfl
@[simp] theorem zo45 : (zeroOf Tryd.prog 45).isSome = true := by kernel_rfl
@[simp] theorem zd45 : zeroD Tryd.prog 45 = [(.str ⟨#[]⟩), (.int .u8 0), .nils] := by kernel_rfl
@[simp] theorem ia45 : isAggT Tryd.prog 45 = true := by kernel_rfl
@[simp] theorem ss45 : isStructT Tryd.prog 45 = true := by kernel_rfl
@[simp] theorem fk45 : fldOk Tryd.prog 45 = true := by kernel_rfl
@[simp] theorem fo45_0 : fieldOff Tryd.prog 45 0 = some 0 := by kernel_rfl
@[simp] theorem fo45_1 : fieldOff Tryd.prog 45 1 = some 1 := by kernel_rfl
@[simp] theorem fo45_2 : fieldOff Tryd.prog 45 2 = some 2 := by kernel_rfl
@[simp] theorem fi45_0 : fInfo Tryd.prog 45 0 = some (0, 1) := by kernel_rfl
@[simp] theorem fi45_2 : fInfo Tryd.prog 45 2 = some (2, 1) := by kernel_rfl
@[simp] theorem ia46 : isAggT Tryd.prog 46 = false := by kernel_rfl
@[simp] theorem is46 : isSliceT Tryd.prog 46 = true := by kernel_rfl
@[simp] theorem es46 : elemSz Tryd.prog 46 = 2 := by kernel_rfl
@[simp] theorem ia47 : isAggT Tryd.prog 47 = false := by kernel_rfl
@[simp] theorem is47 : isSliceT Tryd.prog 47 = true := by kernel_rfl
@[simp] theorem el47 : Go.AM.elemOf Tryd.prog 47 = 82 := by kernel_rfl
@[simp] theorem es47 : elemSz Tryd.prog 47 = 4 := by kernel_rfl
@[simp] theorem sz49 : szOf Tryd.prog 49 = 7 := by kernel_rfl
@[simp] theorem zo49 : (zeroOf Tryd.prog 49).isSome = true := by kernel_rfl
@[simp] theorem zd49 : zeroD Tryd.prog 49 = [(.int .i64 0), (.int .i64 0), .nils, .nils, (.int .i64 0), (.bool false), .nils] := by kernel_rfl
@[simp] theorem ia49 : isAggT Tryd.prog 49 = true := by kernel_rfl
@[simp] theorem ss49 : isStructT Tryd.prog 49 = true := by kernel_rfl
@[simp] theorem fk49 : fldOk Tryd.prog 49 = true := by kernel_rfl
@[simp] theorem fo49_0 : fieldOff Tryd.prog 49 0 = some 0 := by kernel_rfl
@[simp] theorem fo49_1 : fieldOff Tryd.prog 49 1 = some 1 := by kernel_rfl
@[simp] theorem fo49_2 : fieldOff Tryd.prog 49 2 = some 2 := by kernel_rfl
@[simp] theorem fo49_3 : fieldOff Tryd.prog 49 3 = some 3 := by kernel_rfl
@[simp] theorem fo49_4 : fieldOff Tryd.prog 49 4 = some 4 := by kernel_rfl
@[simp] theorem fo49_5 : fieldOff Tryd.prog 49 5 = some 5 := by kernel_rfl
@[simp] theorem fo49_6 : fieldOff Tryd.prog 49 6 = some 6 := by kernel_rfl
@[simp] theorem fi49_1 : fInfo Tryd.prog 49 1 = some (1, 1) := by kernel_rfl
@[simp] theorem fi49_2 : fInfo Tryd.prog 49 2 = some (2, 1) := by kernel_rfl
@[simp] theorem fi49_6 : fInfo Tryd.prog 49 6 = some (6, 1) := by kernel_rfl
@[simp] theorem ia63 : isAggT Tryd.prog 63 = false := by kernel_rfl
@[simp] theorem sz68 : szOf Tryd.prog 68 = 4 := by kernel_rfl
@[simp] theorem zo68 : (zeroOf Tryd.prog 68).isSome = true := by kernel_rfl
@[simp] theorem zd68 : zeroD Tryd.prog 68 = [(.str ⟨#[]⟩), (.int .i64 0), (.int .i64 0), (.int .i64 0)] := by kernel_rfl
@[simp] theorem ia68 : isAggT Tryd.prog 68 = true := by kernel_rfl
@[simp] theorem fo68_0 : fieldOff Tryd.prog 68 0 = some 0 := by kernel_rfl
@[simp] theorem fo68_1 : fieldOff Tryd.prog 68 1 = some 1 := by kernel_rfl
@[simp] theorem fo68_2 : fieldOff Tryd.prog 68 2 = some 2 := by kernel_rfl
@[simp] theorem fo68_3 : fieldOff Tryd.prog 68 3 = some 3 := by kernel_rfl
@[simp] theorem sz73 : szOf Tryd.prog 73 = 4 := by kernel_rfl
@[simp] theorem by73 : bytesOf Tryd.prog 73 = 32 := by kernel_rfl
@[simp] theorem zo73 : (zeroOf Tryd.prog 73).isSome = true := by kernel_rfl
@[simp] theorem zd73 : zeroD Tryd.prog 73 = [(.int .i64 0), (.int .i64 0), (.int .u8 0), (.int .i64 0)] := by kernel_rfl
@[simp] theorem ia73 : isAggT Tryd.prog 73 = true := by kernel_rfl
@[simp] theorem ss73 : isStructT Tryd.prog 73 = true := by kernel_rfl
@[simp] theorem fk73 : fldOk Tryd.prog 73 = true := by kernel_rfl
@[simp] theorem fo73_0 : fieldOff Tryd.prog 73 0 = some 0 := by kernel_rfl
@[simp] theorem fo73_1 : fieldOff Tryd.prog 73 1 = some 1 := by kernel_rfl
@[simp] theorem fo73_2 : fieldOff Tryd.prog 73 2 = some 2 := by kernel_rfl
@[simp] theorem fo73_3 : fieldOff Tryd.prog 73 3 = some 3 := by kernel_rfl
@[simp] theorem fi73_0 : fInfo Tryd.prog 73 0 = some (0, 1) := by kernel_rfl
@[simp] theorem fi73_2 : fInfo Tryd.prog 73 2 = some (2, 1) := by kernel_rfl
@[simp] theorem fi73_3 : fInfo Tryd.prog 73 3 = some (3, 1) := by kernel_rfl
@[simp] theorem ia77 : isAggT Tryd.prog 77 = false := by kernel_rfl
@[simp] theorem sz79 : szOf Tryd.prog 79 = 2 := by kernel_rfl
@[simp] theorem zo79 : (zeroOf Tryd.prog 79).isSome = true := by kernel_rfl
@[simp] theorem zd79 : zeroD Tryd.prog 79 = [(.int .u8 0), (.int .i64 0)] := by kernel_rfl
@[simp] theorem ia79 : isAggT Tryd.prog 79 = true := by kernel_rfl
@[simp] theorem fo79_0 : fieldOff Tryd.prog 79 0 = some 0 := by kernel_rfl
@[simp] theorem fo79_1 : fieldOff Tryd.prog 79 1 = some 1 := by kernel_rfl
@[simp] theorem sz82 : szOf Tryd.prog 82 = 4 := by kernel_rfl
@[simp] theorem by82 : bytesOf Tryd.prog 82 = 48 := by kernel_rfl
@[simp] theorem zo82 : (zeroOf Tryd.prog 82).isSome = true := by kernel_rfl
@[simp] theorem zd82 : zeroD Tryd.prog 82 = [(.int .i64 0), (.int .i64 0), (.int .i64 0), .nils] := by kernel_rfl
@[simp] theorem ia82 : isAggT Tryd.prog 82 = true := by kernel_rfl
@[simp] theorem ss82 : isStructT Tryd.prog 82 = true := by kernel_rfl
@[simp] theorem fk82 : fldOk Tryd.prog 82 = true := by kernel_rfl
@[simp] theorem fo82_0 : fieldOff Tryd.prog 82 0 = some 0 := by kernel_rfl
@[simp] theorem fo82_1 : fieldOff Tryd.prog 82 1 = some 1 := by kernel_rfl
@[simp] theorem fo82_2 : fieldOff Tryd.prog 82 2 = some 2 := by kernel_rfl
@[simp] theorem fo82_3 : fieldOff Tryd.prog 82 3 = some 3 := by kernel_rfl
@[simp] theorem fi82_0 : fInfo Tryd.prog 82 0 = some (0, 1) := by kernel_rfl
@[simp] theorem ia87 : isAggT Tryd.prog 87 = false := by kernel_rfl
@[simp] theorem is87 : isSliceT Tryd.prog 87 = true := by kernel_rfl
@[simp] theorem es87 : elemSz Tryd.prog 87 = 2 := by kernel_rfl
@[simp] theorem sz89 : szOf Tryd.prog 89 = 3 := by kernel_rfl
@[simp] theorem zo89 : (zeroOf Tryd.prog 89).isSome = true := by kernel_rfl
@[simp] theorem zd89 : zeroD Tryd.prog 89 = [.nils, .nils, .nils] := by kernel_rfl
@[simp] theorem ia89 : isAggT Tryd.prog 89 = true := by kernel_rfl
@[simp] theorem fo89_0 : fieldOff Tryd.prog 89 0 = some 0 := by kernel_rfl
@[simp] theorem fo89_1 : fieldOff Tryd.prog 89 1 = some 1 := by kernel_rfl
@[simp] theorem fo89_2 : fieldOff Tryd.prog 89 2 = some 2 := by kernel_rfl
@[simp] theorem sz91 : szOf Tryd.prog 91 = 3 := by kernel_rfl
@[simp] theorem zo91 : (zeroOf Tryd.prog 91).isSome = true := by kernel_rfl
@[simp] theorem zd91 : zeroD Tryd.prog 91 = [(.int .i64 0), (.int .i64 0), (.int .i64 0)] := by kernel_rfl
@[simp] theorem ia91 : isAggT Tryd.prog 91 = true := by kernel_rfl
@[simp] theorem ss91 : isStructT Tryd.prog 91 = true := by kernel_rfl
@[simp] theorem fk91 : fldOk Tryd.prog 91 = true := by kernel_rfl
@[simp] theorem fi91_0 : fInfo Tryd.prog 91 0 = some (0, 1) := by kernel_rfl
@[simp] theorem fi91_1 : fInfo Tryd.prog 91 1 = some (1, 1) := by kernel_rfl
@[simp] theorem fi91_2 : fInfo Tryd.prog 91 2 = some (2, 1) := by kernel_rfl
@[simp] theorem is94 : isSliceT Tryd.prog 94 = true := by kernel_rfl
@[simp] theorem el94 : Go.AM.elemOf Tryd.prog 94 = 35 := by kernel_rfl
@[simp] theorem es94 : elemSz Tryd.prog 94 = 1 := by kernel_rfl
@[simp] theorem sz110 : szOf Tryd.prog 110 = 1 := by kernel_rfl
@[simp] theorem ia110 : isAggT Tryd.prog 110 = false := by kernel_rfl
@[simp] theorem is136 : isSliceT Tryd.prog 136 = true := by kernel_rfl
@[simp] theorem el136 : Go.AM.elemOf Tryd.prog 136 = 110 := by kernel_rfl
@[simp] theorem es136 : elemSz Tryd.prog 136 = 1 := by kernel_rfl
@[simp] theorem sz143 : szOf Tryd.prog 143 = 5 := by kernel_rfl
@[simp] theorem zo143 : (zeroOf Tryd.prog 143).isSome = true := by kernel_rfl
@[simp] theorem zd143 : zeroD Tryd.prog 143 = [(.int .i64 0), (.bool false), (.bool false), (.str ⟨#[]⟩), (.int .i64 0)] := by kernel_rfl
@[simp] theorem ia143 : isAggT Tryd.prog 143 = true := by kernel_rfl
@[simp] theorem ss143 : isStructT Tryd.prog 143 = true := by kernel_rfl
@[simp] theorem fk143 : fldOk Tryd.prog 143 = true := by kernel_rfl
@[simp] theorem fo143_0 : fieldOff Tryd.prog 143 0 = some 0 := by kernel_rfl
@[simp] theorem fo143_1 : fieldOff Tryd.prog 143 1 = some 1 := by kernel_rfl
@[simp] theorem fo143_2 : fieldOff Tryd.prog 143 2 = some 2 := by kernel_rfl
@[simp] theorem sz154 : szOf Tryd.prog 154 = 1 := by kernel_rfl
@[simp] theorem ia154 : isAggT Tryd.prog 154 = false := by kernel_rfl
@[simp] theorem sz156 : szOf Tryd.prog 156 = 2 := by kernel_rfl
@[simp] theorem zo156 : (zeroOf Tryd.prog 156).isSome = true := by kernel_rfl
@[simp] theorem zd156 : zeroD Tryd.prog 156 = [(.int .i64 0), (.int .i64 0)] := by kernel_rfl
@[simp] theorem ia156 : isAggT Tryd.prog 156 = true := by kernel_rfl
@[simp] theorem fo156_0 : fieldOff Tryd.prog 156 0 = some 0 := by kernel_rfl
@[simp] theorem fo156_1 : fieldOff Tryd.prog 156 1 = some 1 := by kernel_rfl
@[simp] theorem is157 : isSliceT Tryd.prog 157 = true := by kernel_rfl
@[simp] theorem el157 : Go.AM.elemOf Tryd.prog 157 = 154 := by kernel_rfl
@[simp] theorem es157 : elemSz Tryd.prog 157 = 1 := by kernel_rfl
@[simp] theorem es162 : elemSz Tryd.prog 162 = 1 := by kernel_rfl
@[simp] theorem al162 : arrLen Tryd.prog 162 = some 16 := by kernel_rfl
@[simp] theorem is163 : isSliceT Tryd.prog 163 = true := by kernel_rfl
@[simp] theorem el163 : Go.AM.elemOf Tryd.prog 163 = 22 := by kernel_rfl
@[simp] theorem es163 : elemSz Tryd.prog 163 = 1 := by kernel_rfl
@[simp] theorem es165 : elemSz Tryd.prog 165 = 5 := by kernel_rfl
@[simp] theorem al165 : arrLen Tryd.prog 165 = some 15 := by kernel_rfl
end Fx
end Go.Proofs.YtgmlimipejcpgaaDoor
end
section
set_option linter.unusedVariables false
set_option linter.unusedSimpArgs false
namespace Go.AM
section
variable {P : Program} {ge : GEnv} {st : St} {Q : Exit → St → Prop} {ops : Array Oper}
variable {d : Option Tmp} {t : TypeId} {p : String} {af : Array Edge} {g : Option (Nat × Bool)}
theorem OpS_newVec {o : Oper} {T : TypeId} {xs : List (List V)} {len : Nat} (h0 : 0 < szOf P T) (hlen : len ≤ xs.length)
    (H : ∀ G a w, Rep P ge G st a w → ∃ (arr : Array Value) (cap : Nat), (execOp a.eval o).run P w = .ok (.value (.slice (some ⟨w.heap.size, 0, none⟩) len cap)) (w.alloc (.cells arr T)) ∧
      arr.size = cap * szOf P T ∧ xs.length ≤ cap ∧ cap ≤ maxLen ∧ RowR G w true (szOf P T) xs arr) :
    OpS P ge st o (.vec xs len) st.h := by
  intro G a w hr
  obtain ⟨arr, cap, h1, h2, h3, h4, h5, h6⟩ := H G a w hr
  have hle : ∀ j, G.fz j ≤ (if j = w.heap.size then arr.size else G.fz j) := fun j => by
    split
    · rename_i h; rw [h, hr.rh.fzlt _ (Nat.le_refl _)]; exact Nat.zero_le _
    · exact Nat.le_refl _
  have hh : (w.alloc (.cells arr T)).heap[w.heap.size]? = some (.cells arr T (0, 0)) := heap_alloc_new w _
  have kept : Kept G w (G.withFz fun j => if j = w.heap.size then arr.size else G.fz j) (w.alloc (.cells arr T)) := by
    refine ⟨.alloc w _, fun j hj => ?_, fun j hj => ?_⟩
    · show (if j = w.heap.size then arr.size else G.fz j) = G.fz j
      rw [if_neg (by omega)]
    · show (if j = w.heap.size then arr.size else G.fz j) = 0
      have hs : w.heap.size < (w.alloc (.cells arr T)).heap.size := by
        rcases Nat.lt_or_ge w.heap.size (w.alloc (.cells arr T)).heap.size with h | h
        · exact h
        · rw [Array.getElem?_eq_none h] at hh; cases hh
      rw [if_neg (by omega)]
      exact hr.rh.fzlt j (by omega)
  obtain ⟨rh, ext⟩ := kept.rh hr.rh
  have le := ext.le
  refine ⟨_, _, _, .inl h1, rh, ?_, ext⟩
  have hlt : ∀ (i : Nat) (x : List V) (j : Nat) (v : V), xs[i]? = some x → x[j]? = some v → i * szOf P T + j < arr.size := fun i x j v hx hv => by
    have k1 := h5 i x hx
    have k2 : i < xs.length := (List.getElem?_eq_some_iff.1 hx).1
    have k3 : j < x.length := (List.getElem?_eq_some_iff.1 hv).1
    have k4 : (i + 1) * szOf P T ≤ cap * szOf P T := Nat.mul_le_mul_right _ (by omega)
    rw [h2]; rw [Nat.add_mul] at k4; omega
  have hcd : ∀ (o : Nat), o < arr.size → (w.alloc (.cells arr T)).cell? ⟨w.heap.size, o, none⟩ = some (arr.getD o undef) := fun o ho => arr_cell hh ho
  have hd : ∀ (o : Nat), o < arr.size → cellD (w.alloc (.cells arr T)) w.heap.size o = arr.getD o undef := fun o ho => by unfold cellD; rw [hcd o ho]; rfl
  refine R.vec (sz := szOf P T) hlen h3 h4 h5 (fun i x j v hx hv => ?_) (fun i x j v hx hv => ?_) (fun i x j v hx hv => ?_)
  · have := hlt i x j v hx hv
    rw [Nat.zero_add]
    refine ⟨by rw [hcd _ this]; rfl, ?_⟩
    show _ < if w.heap.size = w.heap.size then arr.size else G.fz w.heap.size
    rw [if_pos rfl]; exact this
  · rw [Nat.zero_add, hd _ (hlt i x j v hx hv)]; exact (h6 i x j v hx hv).1
  · rw [Nat.zero_add, hd _ (hlt i x j v hx hv)]
    exact ((h6 i x j v hx hv).2).monoT le.fz (fun k o ho => le.cells k o ho) rfl
theorem S_buildVec {T e : TypeId} {len : Nat} {parts : Array (Nat × Operand)} {zs : List V} (hu : P.underlying T = some (.slice e)) (hz : zeroOf P e = some zs) (hsz : szOf P e = zs.length) (h0 : 0 < zs.length) (hl0 : 0 < len) (hl : len * zs.length ≤ 16777216)
    (hok : rowsOk zs.length len (parts.toList.map fun x => (x.1, ev ge st.tm x.2)) = true) (hf : partsF (parts.toList.map fun x => (x.1, ev ge st.tm x.2)) = true) :
    OpS P ge st ⟨d, .buildSlice T len parts, t, p, af, g⟩ (.vec (rowsV (List.replicate len zs) (parts.toList.map fun x => (x.1, ev ge st.tm x.2))) len) st.h := by
  have hlen : ∀ (ps : List (Nat × V)) (xs : List (List V)), (rowsV xs ps).length = xs.length := by
    intro ps
    induction ps with
    | nil => intro xs; rfl
    | cons a r ih => intro xs; simp only [rowsV]; rw [ih, List.length_set]
  refine OpS_newVec (T := e) (by omega) (by rw [hlen]; simp) fun G a w hr => ?_
  obtain ⟨z, h1, _, h2, _, h3⟩ := run_zeroValue hz
  have hrow := RowR_zeros (G := G) (w := w) (T := e) h2 h3 len true
  obtain ⟨arr', e1, e2, e3⟩ := fillRows (fun x => hr.ev x) parts.toList _ _ hrow (by simp [h2]) (by simpa using hok) (fun _ => hf)
  have hpm : (parts.map fun (x : Nat × Operand) => (x.1, a.eval x.2)).toList = parts.toList.map fun x => (x.1, a.eval x.2) := by simp
  have h24 : ¬ (len * zs.length > 2 ^ 24) := by omega
  refine ⟨arr', len, ?_, by rw [e2, hsz]; simp, by rw [hlen]; simp, ?_, by rw [hsz]; exact e3⟩
  · simp only [execOp, Instr.buildSlice, Sem.run_bind, run_underlying hu, Result.andThen_ok, run_sizeOf hsz h0, h24, if_false]
    have hzero : ¬ len * zs.length = 0 := by
      intro q; rcases Nat.mul_eq_zero.1 q with q | q <;> omega
    have e1' : Instr.fill (fun i => some (i * zs.length, zs.length)) ((Array.range (len * zs.length)).map fun k => z.cells[k % z.cells.size]!) (parts.map fun (x : Nat × Operand) => (x.1, a.eval x.2)).toList = some arr' := by
      rw [hpm, ← h2]; rw [← h2] at e1; exact e1
    simp only [hzero, if_false, Sem.run_bind, h1, Result.andThen_ok, Sem.run_pure, e1']
    simp [newRow]
  · have : len ≤ len * zs.length := Nat.le_mul_of_pos_right _ h0
    unfold maxLen; omega
def bsOk (P : Program) (ge : GEnv) (st : St) (T : TypeId) (len : Nat) (parts : Array (Nat × Operand)) : Prop :=
  isSliceT P T = true ∧ (zeroOf P (elemOf P T)).isSome = true ∧ szOf P (elemOf P T) = (zeroD P (elemOf P T)).length ∧ 0 < (zeroD P (elemOf P T)).length ∧ 0 < len ∧ len * (zeroD P (elemOf P T)).length ≤ 16777216 ∧
    rowsOk (zeroD P (elemOf P T)).length len (partsV ge st.tm parts.toList) = true ∧ partsF (partsV ge st.tm parts.toList) = true
theorem S_bsOk {T : TypeId} {len : Nat} {parts : Array (Nat × Operand)} (h : bsOk P ge st T len parts) :
    OpS P ge st ⟨d, .buildSlice T len parts, t, p, af, g⟩ (.vec (rowsV (List.replicate len (zeroD P (elemOf P T))) (partsV ge st.tm parts.toList)) len) st.h := by
  obtain ⟨h1, h2, h3, h4, h5, h6, h7, h8⟩ := h
  obtain ⟨e, hu, _⟩ := isSliceT_spec h1
  have he : elemOf P T = e := by unfold elemOf; rw [hu]
  rw [he] at h2 h3 h4 h6 h7 ⊢
  rw [partsV_eq] at h7 h8 ⊢
  exact S_buildVec hu (getD_some h2) h3 h4 h5 h6 h7 h8
end
attribute [simp] bsOk
end Go.AM
end
section
set_option linter.unusedVariables false
set_option linter.unusedSimpArgs false
namespace Go.AM
section
variable {P : Program} {ge : GEnv} {st : St} {Q : Exit → St → Prop} {G : Gh} {w : World}
variable {d : Option Tmp} {t : TypeId} {p : String} {af : Array Edge}
/-- A value as a reader sees it. -/
def seenV (h : List B) : V → V
  | .ref b g off len => match h[b]? with
    | some (.row _ g' _ true xs) => if g = g' ∧ off + len ≤ xs.length then .vec (xs.drop off) len else .ref b g off len
    | _ => .ref b g off len
  | v => v
def V.scal : V → Bool
  | .bool _ | .int _ _ | .str _ => true
  | _ => false
def cellsAt (w : World) (k : Nat) : Nat := match w.heap[k]? with
  | some (.cells arr _ _) => arr.size
  | _ => 0
def Gh.all (G : Gh) (w : World) : Gh := G.withFz fun k => max (G.fz k) (cellsAt w k)
theorem all_fz (k : Nat) : G.fz k ≤ (G.all w).fz k := Nat.le_max_left _ _
theorem seen_spec {h : List B} (rh : RH P ge G h w) {u : V} {c : Value} (hu : R G w false u c) (hf : (seenV h u).isF = true) : R (G.all w) w true (seenV h u) c := by
  have keep : u.isF = true → R (G.all w) w true u c := fun h => (hu.frozen h).monoT all_fz (fun _ _ _ => rfl) rfl
  cases u
  case ref b g off len =>
    unfold seenV at hf ⊢
    cases hx : h[b]? with
    | none => simp [hx, V.isF] at hf
    | some x =>
    cases x with
    | dead => simp [hx, V.isF] at hf
    | var cs => simp [hx, V.isF] at hf
    | map es => simp [hx, V.isF] at hf
    | row T g' fzn fl xs =>
    cases fl with
    | false => simp [hx, V.isF] at hf
    | true =>
      simp only [hx] at hf ⊢
      by_cases hc : g = g' ∧ off + len ≤ xs.length
      · rw [if_pos hc]
        obtain ⟨rfl, hlen⟩ := hc
        clear hf
        obtain ⟨h00, hfx, ⟨hsz0, hszT⟩, hrow⟩ := rh.bl b _ hx
        cases hu with
        | ref hb hg hm hle =>
          rename_i k
          rcases hrow with ⟨hn, rfl⟩ | ⟨k', arr, hm', hh, hfzk, hs', hl', hcm, hlen', hcells⟩
          · rw [hm] at hn; cases hn
          · rw [hm] at hm'; cases hm'
            have idx : ∀ (i : Nat) (x : List V) (j : Nat) (v : V), (xs.drop off)[i]? = some x → x[j]? = some v → xs[off + i]? = some x ∧ off * G.sz b + (i * G.sz b + j) = (off + i) * G.sz b + j ∧ (off + i) * G.sz b + j < arr.size := fun i x j v hx hv => by
              have hx' : xs[off + i]? = some x := by rw [List.getElem?_drop] at hx; exact hx
              refine ⟨hx', by rw [Nat.add_mul]; omega, ?_⟩
              have h2 : off + i < xs.length := (List.getElem?_eq_some_iff.1 hx').1
              have h3 : (off + i + 1) * G.sz b ≤ G.cap b g * G.sz b := Nat.mul_le_mul_right _ (by omega)
              have h4 : j < G.sz b := by rw [← hlen' _ x hx']; exact (List.getElem?_eq_some_iff.1 hv).1
              rw [hs', Nat.add_mul (off + i) 1] at *; omega
            have hD : ∀ q, q < arr.size → w.cell? ⟨k, q, none⟩ = some (arr.getD q undef) := fun q hq => arr_cell hh hq
            refine .vec (sz := G.sz b) (by rw [List.length_drop]; omega) (by rw [List.length_drop]; omega) (by omega) (fun i x hx => hlen' (off + i) x (by rw [List.getElem?_drop] at hx; exact hx)) (fun i x j v hx hv => ?_) (fun i x j v hx hv => ?_) (fun i x j v hx hv => ?_)
            · obtain ⟨e1, e2, e3⟩ := idx i x j v hx hv
              rw [e2, hD _ e3]
              refine ⟨rfl, Nat.lt_of_lt_of_le e3 ?_⟩
              have : cellsAt w k = arr.size := by unfold cellsAt; rw [hh]
              show arr.size ≤ max (G.fz k) (cellsAt w k)
              rw [this]; exact Nat.le_max_right _ _
            · obtain ⟨e1, e2, e3⟩ := idx i x j v hx hv
              unfold cellD; rw [e2, hD _ e3]; exact (hcells _ x j v e1 hv).1
            · obtain ⟨e1, e2, e3⟩ := idx i x j v hx hv
              unfold cellD; rw [e2, hD _ e3]; exact (hcells _ x j v e1 hv).2.monoT all_fz (fun _ _ _ => rfl) rfl
        | refn hb hg hm =>
          rcases hrow with ⟨hn, rfl⟩ | ⟨k', arr, hm', _⟩
          · exact .emp (Nat.zero_le _)
          · rw [hm] at hm'; cases hm'
      · rw [if_neg hc] at hf; cases hf
  all_goals exact keep hf
theorem scal_R {r : V} {c : Value} (h : r.scal = true) {G G' : Gh} {w w' : World} {fr fr' : Bool} (hr : R G w fr r c) : R G' w' fr' r c := by
  cases r <;> first | (simp [V.scal] at h; done) | (cases hr; constructor; done)
theorem GCall_seen {f : Nat} {args args' : List V} {r : V} {h : List B} (hc : PCall P ge f args' r) (hs : args.map (seenV h) = args') (hf : V.isFs args' = true) (hp : r.scal = true) :
    GCall P ge f args h fun v h' => v = r ∧ h' = h := by
  refine ⟨hc.1, fun G w cargs ha hr => ?_⟩
  have ha' : ArgsR (G.all w) w true args' cargs := by
    subst hs
    refine ⟨by rw [ha.1, List.length_map], fun i v hv => ?_⟩
    have hvf := V.isFs_get hf i v hv
    rw [List.getElem?_map] at hv
    obtain ⟨u, hu, rfl⟩ := Option.map_eq_some_iff.1 hv
    exact seen_spec hr (ha.2 i u hu) hvf
  have hge : GE ge (G.all w) w := ⟨fun k hk => by
    show max (G.fz k) (cellsAt w k) = 0
    have : cellsAt w k = 0 := by unfold cellsAt; rw [Array.getElem?_eq_none hk]
    rw [this, hr.fzlt k hk]; rfl, fun g cs hg => (hr.ge g cs hg).monoT all_fz (fun _ _ _ => rfl) rfl⟩
  refine (hc.2 (G.all w) w cargs ha' hge).mono ?_
  rintro e w' ⟨c, G', rfl, kept, ro⟩
  have k0 : Kept G w G w' := ⟨kept.grow, fun _ _ => rfl, fun k hk => hr.fzlt k (Nat.le_trans kept.grow.size hk)⟩
  obtain ⟨h1, h2⟩ := k0.rh hr
  have hpl : r.plain = true := by cases r <;> first | rfl | cases hp
  exact ⟨c, _, r, h, rfl, ⟨rfl, rfl⟩, h1, scal_R hp (ro.plain hpl), h2⟩
/-- A call of a function on values as they are seen. -/
def SeenStep (P : Program) (ge : GEnv) (st : St) (op : Op) (v : V) : Prop :=
  ∃ x xs ts f args', op = .call { callee := .value x, args := xs, argTypes := ts } ∧ ev ge st.tm x = .fn (.func f) [] [] ∧ PCall P ge f args' v ∧ (xs.toList.map (ev ge st.tm)).map (seenV st.h) = args' ∧ V.isFs args' = true ∧ v.scal = true
/-- A call that leaves the heap as it is, however much stands behind it, and tells no row. -/
def GStep (P : Program) (ge : GEnv) (st : St) (op : Op) (v : V) : Prop :=
  ∃ x xs ts f, op = .call { callee := .value x, args := xs, argTypes := ts } ∧ ev ge st.tm x = .fn (.func f) [] [] ∧ (∀ e : List B, GCall P ge f (xs.toList.map (ev ge st.tm)) (st.h ++ e) fun v' h' => v' = v ∧ h' = st.h ++ e) ∧ v.scal = true
theorem AS_scall {ops : Array Oper} {rest : List Oper} {x : Operand} {xs : Array Operand} {ts : Array TypeId} {f : Nat} {A C : List V} {args' : List V} {r : V}
    (hx : ev ge st.tm x = .fn (.func f) A C) (hd : dstOk st.n d = true) (hc : PCall P ge f args' r) (hs : (A ++ xs.toList.map (ev ge st.tm) ++ C).map (seenV st.h) = args') (hf : V.isFs args' = true) (hp : r.scal = true)
    (h : AS P ge ops rest Q { st with tm := putD d r st.tm }) :
    AS P ge ops (⟨d, .call { callee := .value x, args := xs, argTypes := ts }, t, p, af, none⟩ :: rest) Q st :=
  AS_gcall hx hd (GCall_seen hc hs hf hp) (by rintro v h' ⟨rfl, rfl⟩; exact h)
end
end Go.AM
end
