/-
  YtgmlimipejcpgaaDoorPart05: steps of the proof of a law of the program: what these texts prove holds under the hypotheses that their theorems name, and no others.
-/
import Derived.Test.YtgmlimipejcpgaaDoorProg
import Derived.Test.YtgmlimipejcpgaaDoorPart04
import Derived.KernelRfl
section
set_option maxRecDepth 100000
namespace Go.Proofs.YtgmlimipejcpgaaDoor
open Go.AM
namespace Fx
@[simp] theorem sz1 : szOf Tryd.prog 1 = 1 := by kernel_rfl
@[simp] theorem iu1 : (Tryd.prog.underlying 1).isSome = true := by kernel_rfl
@[simp] theorem ia1 : isAggT Tryd.prog 1 = false := by kernel_rfl
@[simp] theorem iu2 : (Tryd.prog.underlying 2).isSome = true := by kernel_rfl
@[simp] theorem sz2 : szOf Tryd.prog 2 = 1 := by kernel_rfl
@[simp] theorem by2 : bytesOf Tryd.prog 2 = 8 := by kernel_rfl
@[simp] theorem zo2 : (zeroOf Tryd.prog 2).isSome = true := by kernel_rfl
@[simp] theorem zd2 : zeroD Tryd.prog 2 = [(.int .i64 0)] := by kernel_rfl
@[simp] theorem ia2 : isAggT Tryd.prog 2 = false := by kernel_rfl
@[simp] theorem ik2 : intKindT Tryd.prog 2 = some .i64 := by kernel_rfl
@[simp] theorem iu3 : (Tryd.prog.underlying 3).isSome = true := by kernel_rfl
@[simp] theorem sz3 : szOf Tryd.prog 3 = 1 := by kernel_rfl
@[simp] theorem by3 : bytesOf Tryd.prog 3 = 8 := by kernel_rfl
@[simp] theorem zo3 : (zeroOf Tryd.prog 3).isSome = true := by kernel_rfl
@[simp] theorem zd3 : zeroD Tryd.prog 3 = [(.int .i64 0)] := by kernel_rfl
@[simp] theorem ia3 : isAggT Tryd.prog 3 = false := by kernel_rfl
@[simp] theorem ik3 : intKindT Tryd.prog 3 = some .i64 := by kernel_rfl
@[simp] theorem iu4 : (Tryd.prog.underlying 4).isSome = true := by kernel_rfl
@[simp] theorem sz4 : szOf Tryd.prog 4 = 1 := by kernel_rfl
@[simp] theorem by4 : bytesOf Tryd.prog 4 = 1 := by kernel_rfl
@[simp] theorem zo4 : (zeroOf Tryd.prog 4).isSome = true := by kernel_rfl
@[simp] theorem zd4 : zeroD Tryd.prog 4 = [(.bool false)] := by kernel_rfl
@[simp] theorem ia4 : isAggT Tryd.prog 4 = false := by kernel_rfl
@[simp] theorem ib4 : isBoolT Tryd.prog 4 = true := by kernel_rfl
@[simp] theorem iu5 : (Tryd.prog.underlying 5).isSome = true := by kernel_rfl
@[simp] theorem sz5 : szOf Tryd.prog 5 = 1 := by kernel_rfl
@[simp] theorem by5 : bytesOf Tryd.prog 5 = 1 := by kernel_rfl
@[simp] theorem zo5 : (zeroOf Tryd.prog 5).isSome = true := by kernel_rfl
@[simp] theorem zd5 : zeroD Tryd.prog 5 = [(.int .u8 0)] := by kernel_rfl
@[simp] theorem ia5 : isAggT Tryd.prog 5 = false := by kernel_rfl
@[simp] theorem ik5 : intKindT Tryd.prog 5 = some .u8 := by kernel_rfl
@[simp] theorem iu6 : (Tryd.prog.underlying 6).isSome = true := by kernel_rfl
@[simp] theorem sz6 : szOf Tryd.prog 6 = 1 := by kernel_rfl
@[simp] theorem by6 : bytesOf Tryd.prog 6 = 1 := by kernel_rfl
@[simp] theorem zo6 : (zeroOf Tryd.prog 6).isSome = true := by kernel_rfl
@[simp] theorem zd6 : zeroD Tryd.prog 6 = [(.int .u8 0)] := by kernel_rfl
@[simp] theorem ia6 : isAggT Tryd.prog 6 = false := by kernel_rfl
@[simp] theorem ik6 : intKindT Tryd.prog 6 = some .u8 := by kernel_rfl
@[simp] theorem iu7 : (Tryd.prog.underlying 7).isSome = true := by kernel_rfl
@[simp] theorem sz7 : szOf Tryd.prog 7 = 4 := by kernel_rfl
@[simp] theorem by7 : bytesOf Tryd.prog 7 = 24 := by kernel_rfl
@[simp] theorem zo7 : (zeroOf Tryd.prog 7).isSome = true := by kernel_rfl
@[simp] theorem zd7 : zeroD Tryd.prog 7 = [(.int .i64 0), (.int .i64 0), (.bool false), (.int .u8 0)] := by kernel_rfl
@[simp] theorem ia7 : isAggT Tryd.prog 7 = true := by kernel_rfl
@[simp] theorem ss7 : isStructT Tryd.prog 7 = true := by kernel_rfl
@[simp] theorem fk7 : fldOk Tryd.prog 7 = true := by kernel_rfl
@[simp] theorem fo7_0 : fieldOff Tryd.prog 7 0 = some 0 := by kernel_rfl
@[simp] theorem fo7_1 : fieldOff Tryd.prog 7 1 = some 1 := by kernel_rfl
@[simp] theorem fo7_2 : fieldOff Tryd.prog 7 2 = some 2 := by kernel_rfl
@[simp] theorem fo7_3 : fieldOff Tryd.prog 7 3 = some 3 := by kernel_rfl
@[simp] theorem fi7_0 : fInfo Tryd.prog 7 0 = some (0, 1) := by kernel_rfl
@[simp] theorem fi7_1 : fInfo Tryd.prog 7 1 = some (1, 1) := by kernel_rfl
@[simp] theorem fi7_2 : fInfo Tryd.prog 7 2 = some (2, 1) := by kernel_rfl
@[simp] theorem fi7_3 : fInfo Tryd.prog 7 3 = some (3, 1) := by kernel_rfl
@[simp] theorem iu8 : (Tryd.prog.underlying 8).isSome = true := by kernel_rfl
@[simp] theorem sz8 : szOf Tryd.prog 8 = 4 := by kernel_rfl
@[simp] theorem by8 : bytesOf Tryd.prog 8 = 24 := by kernel_rfl
@[simp] theorem zo8 : (zeroOf Tryd.prog 8).isSome = true := by kernel_rfl
@[simp] theorem zd8 : zeroD Tryd.prog 8 = [(.int .i64 0), (.int .i64 0), (.bool false), (.int .u8 0)] := by kernel_rfl
@[simp] theorem ia8 : isAggT Tryd.prog 8 = true := by kernel_rfl
@[simp] theorem ss8 : isStructT Tryd.prog 8 = true := by kernel_rfl
@[simp] theorem fk8 : fldOk Tryd.prog 8 = true := by kernel_rfl
@[simp] theorem fo8_0 : fieldOff Tryd.prog 8 0 = some 0 := by kernel_rfl
@[simp] theorem fo8_1 : fieldOff Tryd.prog 8 1 = some 1 := by kernel_rfl
@[simp] theorem fo8_2 : fieldOff Tryd.prog 8 2 = some 2 := by kernel_rfl
@[simp] theorem fo8_3 : fieldOff Tryd.prog 8 3 = some 3 := by kernel_rfl
@[simp] theorem fi8_0 : fInfo Tryd.prog 8 0 = some (0, 1) := by kernel_rfl
@[simp] theorem fi8_1 : fInfo Tryd.prog 8 1 = some (1, 1) := by kernel_rfl
@[simp] theorem fi8_2 : fInfo Tryd.prog 8 2 = some (2, 1) := by kernel_rfl
@[simp] theorem fi8_3 : fInfo Tryd.prog 8 3 = some (3, 1) := by kernel_rfl
@[simp] theorem iu9 : (Tryd.prog.underlying 9).isSome = true := by kernel_rfl
@[simp] theorem sz9 : szOf Tryd.prog 9 = 1 := by kernel_rfl
@[simp] theorem by9 : bytesOf Tryd.prog 9 = 16 := by kernel_rfl
@[simp] theorem zo9 : (zeroOf Tryd.prog 9).isSome = true := by kernel_rfl
@[simp] theorem zd9 : zeroD Tryd.prog 9 = [(.str ⟨#[]⟩)] := by kernel_rfl
@[simp] theorem ia9 : isAggT Tryd.prog 9 = false := by kernel_rfl
@[simp] theorem st9 : isStrT Tryd.prog 9 = true := by kernel_rfl
@[simp] theorem iu12 : (Tryd.prog.underlying 12).isSome = true := by kernel_rfl
@[simp] theorem sz12 : szOf Tryd.prog 12 = 1 := by kernel_rfl
@[simp] theorem by12 : bytesOf Tryd.prog 12 = 8 := by kernel_rfl
@[simp] theorem zo12 : (zeroOf Tryd.prog 12).isSome = true := by kernel_rfl
@[simp] theorem zd12 : zeroD Tryd.prog 12 = [(.int .u64 0)] := by kernel_rfl
@[simp] theorem ia12 : isAggT Tryd.prog 12 = false := by kernel_rfl
@[simp] theorem ik12 : intKindT Tryd.prog 12 = some .u64 := by kernel_rfl
@[simp] theorem iu22 : (Tryd.prog.underlying 22).isSome = true := by kernel_rfl
@[simp] theorem sz22 : szOf Tryd.prog 22 = 1 := by kernel_rfl
@[simp] theorem by22 : bytesOf Tryd.prog 22 = 24 := by kernel_rfl
@[simp] theorem zo22 : (zeroOf Tryd.prog 22).isSome = true := by kernel_rfl
@[simp] theorem zd22 : zeroD Tryd.prog 22 = [.nils] := by kernel_rfl
@[simp] theorem ia22 : isAggT Tryd.prog 22 = false := by kernel_rfl
@[simp] theorem is22 : isSliceT Tryd.prog 22 = true := by kernel_rfl
@[simp] theorem el22 : Go.AM.elemOf Tryd.prog 22 = 9 := by kernel_rfl
@[simp] theorem es22 : elemSz Tryd.prog 22 = 1 := by kernel_rfl
@[simp] theorem iu23 : (Tryd.prog.underlying 23).isSome = true := by kernel_rfl
@[simp] theorem sz23 : szOf Tryd.prog 23 = 1 := by kernel_rfl
@[simp] theorem by23 : bytesOf Tryd.prog 23 = 24 := by kernel_rfl
@[simp] theorem zo23 : (zeroOf Tryd.prog 23).isSome = true := by kernel_rfl
@[simp] theorem zd23 : zeroD Tryd.prog 23 = [.nils] := by kernel_rfl
@[simp] theorem ia23 : isAggT Tryd.prog 23 = false := by kernel_rfl
@[simp] theorem is23 : isSliceT Tryd.prog 23 = true := by kernel_rfl
@[simp] theorem el23 : Go.AM.elemOf Tryd.prog 23 = 68 := by kernel_rfl
@[simp] theorem es23 : elemSz Tryd.prog 23 = 4 := by kernel_rfl
@[simp] theorem iu24 : (Tryd.prog.underlying 24).isSome = true := by kernel_rfl
@[simp] theorem sz24 : szOf Tryd.prog 24 = 1 := by kernel_rfl
@[simp] theorem by24 : bytesOf Tryd.prog 24 = 24 := by kernel_rfl
@[simp] theorem zo24 : (zeroOf Tryd.prog 24).isSome = true := by kernel_rfl
@[simp] theorem zd24 : zeroD Tryd.prog 24 = [.nils] := by kernel_rfl
@[simp] theorem ia24 : isAggT Tryd.prog 24 = false := by kernel_rfl
@[simp] theorem is24 : isSliceT Tryd.prog 24 = true := by kernel_rfl
@[simp] theorem el24 : Go.AM.elemOf Tryd.prog 24 = 41 := by kernel_rfl
@[simp] theorem es24 : elemSz Tryd.prog 24 = 3 := by kernel_rfl
@[simp] theorem iu25 : (Tryd.prog.underlying 25).isSome = true := by kernel_rfl
@[simp] theorem sz25 : szOf Tryd.prog 25 = 4 := by kernel_rfl
@[simp] theorem by25 : bytesOf Tryd.prog 25 = 96 := by kernel_rfl
@[simp] theorem zo25 : (zeroOf Tryd.prog 25).isSome = true := by kernel_rfl
@[simp] theorem zd25 : zeroD Tryd.prog 25 = [.nils, .nils, .nils, .nils] := by kernel_rfl
@[simp] theorem ia25 : isAggT Tryd.prog 25 = true := by kernel_rfl
@[simp] theorem ss25 : isStructT Tryd.prog 25 = true := by kernel_rfl
@[simp] theorem fk25 : fldOk Tryd.prog 25 = true := by kernel_rfl
@[simp] theorem fo25_0 : fieldOff Tryd.prog 25 0 = some 0 := by kernel_rfl
@[simp] theorem fo25_1 : fieldOff Tryd.prog 25 1 = some 1 := by kernel_rfl
@[simp] theorem fo25_2 : fieldOff Tryd.prog 25 2 = some 2 := by kernel_rfl
@[simp] theorem fo25_3 : fieldOff Tryd.prog 25 3 = some 3 := by kernel_rfl
@[simp] theorem fi25_0 : fInfo Tryd.prog 25 0 = some (0, 1) := by kernel_rfl
@[simp] theorem fi25_1 : fInfo Tryd.prog 25 1 = some (1, 1) := by kernel_rfl
@[simp] theorem fi25_2 : fInfo Tryd.prog 25 2 = some (2, 1) := by kernel_rfl
@[simp] theorem fi25_3 : fInfo Tryd.prog 25 3 = some (3, 1) := by kernel_rfl
@[simp] theorem iu26 : (Tryd.prog.underlying 26).isSome = true := by kernel_rfl
@[simp] theorem sz26 : szOf Tryd.prog 26 = 4 := by kernel_rfl
@[simp] theorem by26 : bytesOf Tryd.prog 26 = 96 := by kernel_rfl
@[simp] theorem zo26 : (zeroOf Tryd.prog 26).isSome = true := by kernel_rfl
@[simp] theorem zd26 : zeroD Tryd.prog 26 = [.nils, .nils, .nils, .nils] := by kernel_rfl
@[simp] theorem ia26 : isAggT Tryd.prog 26 = true := by kernel_rfl
@[simp] theorem ss26 : isStructT Tryd.prog 26 = true := by kernel_rfl
@[simp] theorem fk26 : fldOk Tryd.prog 26 = true := by kernel_rfl
@[simp] theorem fo26_0 : fieldOff Tryd.prog 26 0 = some 0 := by kernel_rfl
@[simp] theorem fo26_1 : fieldOff Tryd.prog 26 1 = some 1 := by kernel_rfl
@[simp] theorem fo26_2 : fieldOff Tryd.prog 26 2 = some 2 := by kernel_rfl
@[simp] theorem fo26_3 : fieldOff Tryd.prog 26 3 = some 3 := by kernel_rfl
@[simp] theorem fi26_0 : fInfo Tryd.prog 26 0 = some (0, 1) := by kernel_rfl
@[simp] theorem fi26_1 : fInfo Tryd.prog 26 1 = some (1, 1) := by kernel_rfl
@[simp] theorem fi26_2 : fInfo Tryd.prog 26 2 = some (2, 1) := by kernel_rfl
@[simp] theorem fi26_3 : fInfo Tryd.prog 26 3 = some (3, 1) := by kernel_rfl
@[simp] theorem iu27 : (Tryd.prog.underlying 27).isSome = true := by kernel_rfl
@[simp] theorem sz27 : szOf Tryd.prog 27 = 1 := by kernel_rfl
@[simp] theorem by27 : bytesOf Tryd.prog 27 = 24 := by kernel_rfl
@[simp] theorem zo27 : (zeroOf Tryd.prog 27).isSome = true := by kernel_rfl
@[simp] theorem zd27 : zeroD Tryd.prog 27 = [.nils] := by kernel_rfl
@[simp] theorem ia27 : isAggT Tryd.prog 27 = false := by kernel_rfl
@[simp] theorem is27 : isSliceT Tryd.prog 27 = true := by kernel_rfl
@[simp] theorem el27 : Go.AM.elemOf Tryd.prog 27 = 29 := by kernel_rfl
@[simp] theorem es27 : elemSz Tryd.prog 27 = 1 := by kernel_rfl
@[simp] theorem iu28 : (Tryd.prog.underlying 28).isSome = true := by kernel_rfl
@[simp] theorem sz28 : szOf Tryd.prog 28 = 1 := by kernel_rfl
@[simp] theorem by28 : bytesOf Tryd.prog 28 = 24 := by kernel_rfl
@[simp] theorem zo28 : (zeroOf Tryd.prog 28).isSome = true := by kernel_rfl
@[simp] theorem zd28 : zeroD Tryd.prog 28 = [.nils] := by kernel_rfl
@[simp] theorem ia28 : isAggT Tryd.prog 28 = false := by kernel_rfl
@[simp] theorem is28 : isSliceT Tryd.prog 28 = true := by kernel_rfl
@[simp] theorem el28 : Go.AM.elemOf Tryd.prog 28 = 89 := by kernel_rfl
@[simp] theorem es28 : elemSz Tryd.prog 28 = 3 := by kernel_rfl
@[simp] theorem iu29 : (Tryd.prog.underlying 29).isSome = true := by kernel_rfl
@[simp] theorem sz29 : szOf Tryd.prog 29 = 1 := by kernel_rfl
@[simp] theorem by29 : bytesOf Tryd.prog 29 = 24 := by kernel_rfl
@[simp] theorem zo29 : (zeroOf Tryd.prog 29).isSome = true := by kernel_rfl
@[simp] theorem zd29 : zeroD Tryd.prog 29 = [.nils] := by kernel_rfl
@[simp] theorem ia29 : isAggT Tryd.prog 29 = false := by kernel_rfl
@[simp] theorem is29 : isSliceT Tryd.prog 29 = true := by kernel_rfl
@[simp] theorem el29 : Go.AM.elemOf Tryd.prog 29 = 89 := by kernel_rfl
@[simp] theorem es29 : elemSz Tryd.prog 29 = 3 := by kernel_rfl
@[simp] theorem iu30 : (Tryd.prog.underlying 30).isSome = true := by kernel_rfl
@[simp] theorem sz30 : szOf Tryd.prog 30 = 1 := by kernel_rfl
@[simp] theorem by30 : bytesOf Tryd.prog 30 = 24 := by kernel_rfl
@[simp] theorem zo30 : (zeroOf Tryd.prog 30).isSome = true := by kernel_rfl
@[simp] theorem zd30 : zeroD Tryd.prog 30 = [.nils] := by kernel_rfl
@[simp] theorem ia30 : isAggT Tryd.prog 30 = false := by kernel_rfl
@[simp] theorem is30 : isSliceT Tryd.prog 30 = true := by kernel_rfl
@[simp] theorem el30 : Go.AM.elemOf Tryd.prog 30 = 3 := by kernel_rfl
@[simp] theorem es30 : elemSz Tryd.prog 30 = 1 := by kernel_rfl
@[simp] theorem iu34 : (Tryd.prog.underlying 34).isSome = true := by kernel_rfl
@[simp] theorem sz34 : szOf Tryd.prog 34 = 1 := by kernel_rfl
@[simp] theorem by34 : bytesOf Tryd.prog 34 = 8 := by kernel_rfl
@[simp] theorem zo34 : (zeroOf Tryd.prog 34).isSome = true := by kernel_rfl
@[simp] theorem zd34 : zeroD Tryd.prog 34 = [(.int .i64 0)] := by kernel_rfl
@[simp] theorem ia34 : isAggT Tryd.prog 34 = false := by kernel_rfl
@[simp] theorem ik34 : intKindT Tryd.prog 34 = some .i64 := by kernel_rfl
@[simp] theorem sz35 : szOf Tryd.prog 35 = 1 := by kernel_rfl
@[simp] theorem iu35 : (Tryd.prog.underlying 35).isSome = true := by kernel_rfl
@[simp] theorem ia35 : isAggT Tryd.prog 35 = false := by kernel_rfl
@[simp] theorem iu38 : (Tryd.prog.underlying 38).isSome = true := by kernel_rfl
@[simp] theorem sz38 : szOf Tryd.prog 38 = 1 := by kernel_rfl
@[simp] theorem by38 : bytesOf Tryd.prog 38 = 24 := by kernel_rfl
@[simp] theorem zo38 : (zeroOf Tryd.prog 38).isSome = true := by kernel_rfl
@[simp] theorem zd38 : zeroD Tryd.prog 38 = [.nils] := by kernel_rfl
@[simp] theorem ia38 : isAggT Tryd.prog 38 = false := by kernel_rfl
@[simp] theorem is38 : isSliceT Tryd.prog 38 = true := by kernel_rfl
@[simp] theorem el38 : Go.AM.elemOf Tryd.prog 38 = 45 := by kernel_rfl
@[simp] theorem es38 : elemSz Tryd.prog 38 = 3 := by kernel_rfl
@[simp] theorem iu39 : (Tryd.prog.underlying 39).isSome = true := by kernel_rfl
@[simp] theorem sz39 : szOf Tryd.prog 39 = 1 := by kernel_rfl
@[simp] theorem by39 : bytesOf Tryd.prog 39 = 24 := by kernel_rfl
@[simp] theorem zo39 : (zeroOf Tryd.prog 39).isSome = true := by kernel_rfl
@[simp] theorem zd39 : zeroD Tryd.prog 39 = [.nils] := by kernel_rfl
@[simp] theorem ia39 : isAggT Tryd.prog 39 = false := by kernel_rfl
@[simp] theorem is39 : isSliceT Tryd.prog 39 = true := by kernel_rfl
@[simp] theorem el39 : Go.AM.elemOf Tryd.prog 39 = 49 := by kernel_rfl
@[simp] theorem es39 : elemSz Tryd.prog 39 = 7 := by kernel_rfl
@[simp] theorem iu40 : (Tryd.prog.underlying 40).isSome = true := by kernel_rfl
@[simp] theorem sz40 : szOf Tryd.prog 40 = 3 := by kernel_rfl
@[simp] theorem by40 : bytesOf Tryd.prog 40 = 64 := by kernel_rfl
@[simp] theorem zo40 : (zeroOf Tryd.prog 40).isSome = true := by kernel_rfl
@[simp] theorem zd40 : zeroD Tryd.prog 40 = [(.str ⟨#[]⟩), .nils, .nils] := by kernel_rfl
@[simp] theorem ia40 : isAggT Tryd.prog 40 = true := by kernel_rfl
@[simp] theorem ss40 : isStructT Tryd.prog 40 = true := by kernel_rfl
@[simp] theorem fk40 : fldOk Tryd.prog 40 = true := by kernel_rfl
@[simp] theorem fo40_0 : fieldOff Tryd.prog 40 0 = some 0 := by kernel_rfl
@[simp] theorem fo40_1 : fieldOff Tryd.prog 40 1 = some 1 := by kernel_rfl
@[simp] theorem fo40_2 : fieldOff Tryd.prog 40 2 = some 2 := by kernel_rfl
@[simp] theorem fi40_0 : fInfo Tryd.prog 40 0 = some (0, 1) := by kernel_rfl
@[simp] theorem fi40_1 : fInfo Tryd.prog 40 1 = some (1, 1) := by kernel_rfl
@[simp] theorem fi40_2 : fInfo Tryd.prog 40 2 = some (2, 1) := by kernel_rfl
@[simp] theorem iu41 : (Tryd.prog.underlying 41).isSome = true := by kernel_rfl
@[simp] theorem sz41 : szOf Tryd.prog 41 = 3 := by kernel_rfl
@[simp] theorem by41 : bytesOf Tryd.prog 41 = 64 := by kernel_rfl
@[simp] theorem zo41 : (zeroOf Tryd.prog 41).isSome = true := by kernel_rfl
@[simp] theorem zd41 : zeroD Tryd.prog 41 = [(.str ⟨#[]⟩), .nils, .nils] := by kernel_rfl
@[simp] theorem ia41 : isAggT Tryd.prog 41 = true := by kernel_rfl
@[simp] theorem ss41 : isStructT Tryd.prog 41 = true := by kernel_rfl
@[simp] theorem fk41 : fldOk Tryd.prog 41 = true := by kernel_rfl
@[simp] theorem fo41_0 : fieldOff Tryd.prog 41 0 = some 0 := by kernel_rfl
@[simp] theorem fo41_1 : fieldOff Tryd.prog 41 1 = some 1 := by kernel_rfl
@[simp] theorem fo41_2 : fieldOff Tryd.prog 41 2 = some 2 := by kernel_rfl
@[simp] theorem fi41_0 : fInfo Tryd.prog 41 0 = some (0, 1) := by kernel_rfl
@[simp] theorem fi41_1 : fInfo Tryd.prog 41 1 = some (1, 1) := by kernel_rfl
@[simp] theorem fi41_2 : fInfo Tryd.prog 41 2 = some (2, 1) := by kernel_rfl
@[simp] theorem iu42 : (Tryd.prog.underlying 42).isSome = true := by kernel_rfl
@[simp] theorem sz42 : szOf Tryd.prog 42 = 1 := by kernel_rfl
@[simp] theorem by42 : bytesOf Tryd.prog 42 = 1 := by kernel_rfl
@[simp] theorem zo42 : (zeroOf Tryd.prog 42).isSome = true := by kernel_rfl
@[simp] theorem zd42 : zeroD Tryd.prog 42 = [(.int .u8 0)] := by kernel_rfl
@[simp] theorem ia42 : isAggT Tryd.prog 42 = false := by kernel_rfl
@[simp] theorem ik42 : intKindT Tryd.prog 42 = some .u8 := by kernel_rfl
@[simp] theorem iu43 : (Tryd.prog.underlying 43).isSome = true := by kernel_rfl
@[simp] theorem sz43 : szOf Tryd.prog 43 = 1 := by kernel_rfl
@[simp] theorem by43 : bytesOf Tryd.prog 43 = 24 := by kernel_rfl
@[simp] theorem zo43 : (zeroOf Tryd.prog 43).isSome = true := by kernel_rfl
@[simp] theorem zd43 : zeroD Tryd.prog 43 = [.nils] := by kernel_rfl
@[simp] theorem ia43 : isAggT Tryd.prog 43 = false := by kernel_rfl
@[simp] theorem is43 : isSliceT Tryd.prog 43 = true := by kernel_rfl
@[simp] theorem el43 : Go.AM.elemOf Tryd.prog 43 = 73 := by kernel_rfl
@[simp] theorem es43 : elemSz Tryd.prog 43 = 4 := by kernel_rfl
@[simp] theorem iu44 : (Tryd.prog.underlying 44).isSome = true := by kernel_rfl
@[simp] theorem sz44 : szOf Tryd.prog 44 = 3 := by kernel_rfl
@[simp] theorem by44 : bytesOf Tryd.prog 44 = 48 := by kernel_rfl
@[simp] theorem zo44 : (zeroOf Tryd.prog 44).isSome = true := by kernel_rfl
@[simp] theorem zd44 : zeroD Tryd.prog 44 = [(.str ⟨#[]⟩), (.int .u8 0), .nils] := by kernel_rfl
@[simp] theorem ia44 : isAggT Tryd.prog 44 = true := by kernel_rfl
@[simp] theorem ss44 : isStructT Tryd.prog 44 = true := by kernel_rfl
@[simp] theorem fk44 : fldOk Tryd.prog 44 = true := by kernel_rfl
@[simp] theorem fo44_0 : fieldOff Tryd.prog 44 0 = some 0 := by kernel_rfl
@[simp] theorem fo44_1 : fieldOff Tryd.prog 44 1 = some 1 := by kernel_rfl
@[simp] theorem fo44_2 : fieldOff Tryd.prog 44 2 = some 2 := by kernel_rfl
@[simp] theorem fi44_0 : fInfo Tryd.prog 44 0 = some (0, 1) := by kernel_rfl
@[simp] theorem fi44_1 : fInfo Tryd.prog 44 1 = some (1, 1) := by kernel_rfl
@[simp] theorem fi44_2 : fInfo Tryd.prog 44 2 = some (2, 1) := by kernel_rfl
@[simp] theorem iu45 : (Tryd.prog.underlying 45).isSome = true := by kernel_rfl
@[simp] theorem sz45 : szOf Tryd.prog 45 = 3 := by kernel_rfl
@[simp] theorem by45 : bytesOf Tryd.prog 45 = 48 := by kernel_rfl
@[simp] theorem zo45 : (zeroOf Tryd.prog 45).isSome = true := by kernel_rfl
@[simp] theorem zd45 : zeroD Tryd.prog 45 = [(.str ⟨#[]⟩), (.int .u8 0), .nils] := by kernel_rfl
@[simp] theorem ia45 : isAggT Tryd.prog 45 = true := by kernel_rfl
@[simp] theorem ss45 : isStructT Tryd.prog 45 = true := by kernel_rfl
@[simp] theorem fk45 : fldOk Tryd.prog 45 = true := by kernel_rfl
@[simp] theorem fo45_0 : fieldOff Tryd.prog 45 0 = some 0 := by kernel_rfl
@[simp] theorem fo45_1 : fieldOff Tryd.prog 45 1 = some 1 := by kernel_rfl
@[simp] theorem fo45_2 : fieldOff Tryd.prog 45 2 = some 2 := by kernel_rfl
@[simp] theorem fi45_0 : fInfo Tryd.prog 45 0 = some (0, 1) := by kernel_rfl
@[simp] theorem fi45_1 : fInfo Tryd.prog 45 1 = some (1, 1) := by kernel_rfl
@[simp] theorem fi45_2 : fInfo Tryd.prog 45 2 = some (2, 1) := by kernel_rfl
@[simp] theorem iu46 : (Tryd.prog.underlying 46).isSome = true := by kernel_rfl
@[simp] theorem sz46 : szOf Tryd.prog 46 = 1 := by kernel_rfl
@[simp] theorem by46 : bytesOf Tryd.prog 46 = 24 := by kernel_rfl
@[simp] theorem zo46 : (zeroOf Tryd.prog 46).isSome = true := by kernel_rfl
@[simp] theorem zd46 : zeroD Tryd.prog 46 = [.nils] := by kernel_rfl
@[simp] theorem ia46 : isAggT Tryd.prog 46 = false := by kernel_rfl
@[simp] theorem is46 : isSliceT Tryd.prog 46 = true := by kernel_rfl
@[simp] theorem el46 : Go.AM.elemOf Tryd.prog 46 = 79 := by kernel_rfl
@[simp] theorem es46 : elemSz Tryd.prog 46 = 2 := by kernel_rfl
@[simp] theorem iu47 : (Tryd.prog.underlying 47).isSome = true := by kernel_rfl
@[simp] theorem sz47 : szOf Tryd.prog 47 = 1 := by kernel_rfl
@[simp] theorem by47 : bytesOf Tryd.prog 47 = 24 := by kernel_rfl
@[simp] theorem zo47 : (zeroOf Tryd.prog 47).isSome = true := by kernel_rfl
@[simp] theorem zd47 : zeroD Tryd.prog 47 = [.nils] := by kernel_rfl
@[simp] theorem ia47 : isAggT Tryd.prog 47 = false := by kernel_rfl
@[simp] theorem is47 : isSliceT Tryd.prog 47 = true := by kernel_rfl
@[simp] theorem el47 : Go.AM.elemOf Tryd.prog 47 = 82 := by kernel_rfl
@[simp] theorem es47 : elemSz Tryd.prog 47 = 4 := by kernel_rfl
@[simp] theorem iu48 : (Tryd.prog.underlying 48).isSome = true := by kernel_rfl
@[simp] theorem sz48 : szOf Tryd.prog 48 = 7 := by kernel_rfl
@[simp] theorem by48 : bytesOf Tryd.prog 48 = 104 := by kernel_rfl
@[simp] theorem zo48 : (zeroOf Tryd.prog 48).isSome = true := by kernel_rfl
@[simp] theorem zd48 : zeroD Tryd.prog 48 = [(.int .i64 0), (.int .i64 0), .nils, .nils, (.int .i64 0), (.bool false), .nils] := by kernel_rfl
@[simp] theorem ia48 : isAggT Tryd.prog 48 = true := by kernel_rfl
@[simp] theorem ss48 : isStructT Tryd.prog 48 = true := by kernel_rfl
@[simp] theorem fk48 : fldOk Tryd.prog 48 = true := by kernel_rfl
@[simp] theorem fo48_0 : fieldOff Tryd.prog 48 0 = some 0 := by kernel_rfl
@[simp] theorem fo48_1 : fieldOff Tryd.prog 48 1 = some 1 := by kernel_rfl
@[simp] theorem fo48_2 : fieldOff Tryd.prog 48 2 = some 2 := by kernel_rfl
@[simp] theorem fo48_3 : fieldOff Tryd.prog 48 3 = some 3 := by kernel_rfl
@[simp] theorem fo48_4 : fieldOff Tryd.prog 48 4 = some 4 := by kernel_rfl
@[simp] theorem fo48_5 : fieldOff Tryd.prog 48 5 = some 5 := by kernel_rfl
@[simp] theorem fo48_6 : fieldOff Tryd.prog 48 6 = some 6 := by kernel_rfl
@[simp] theorem fi48_0 : fInfo Tryd.prog 48 0 = some (0, 1) := by kernel_rfl
@[simp] theorem fi48_1 : fInfo Tryd.prog 48 1 = some (1, 1) := by kernel_rfl
@[simp] theorem fi48_2 : fInfo Tryd.prog 48 2 = some (2, 1) := by kernel_rfl
@[simp] theorem fi48_3 : fInfo Tryd.prog 48 3 = some (3, 1) := by kernel_rfl
@[simp] theorem fi48_4 : fInfo Tryd.prog 48 4 = some (4, 1) := by kernel_rfl
@[simp] theorem fi48_5 : fInfo Tryd.prog 48 5 = some (5, 1) := by kernel_rfl
@[simp] theorem fi48_6 : fInfo Tryd.prog 48 6 = some (6, 1) := by kernel_rfl
@[simp] theorem iu49 : (Tryd.prog.underlying 49).isSome = true := by kernel_rfl
@[simp] theorem sz49 : szOf Tryd.prog 49 = 7 := by kernel_rfl
@[simp] theorem by49 : bytesOf Tryd.prog 49 = 104 := by kernel_rfl
@[simp] theorem zo49 : (zeroOf Tryd.prog 49).isSome = true := by kernel_rfl
@[simp] theorem zd49 : zeroD Tryd.prog 49 = [(.int .i64 0), (.int .i64 0), .nils, .nils, (.int .i64 0), (.bool false), .nils] := by kernel_rfl
@[simp] theorem ia49 : isAggT Tryd.prog 49 = true := by kernel_rfl
@[simp] theorem ss49 : isStructT Tryd.prog 49 = true := by kernel_rfl
@[simp] theorem fk49 : fldOk Tryd.prog 49 = true := by kernel_rfl
@[simp] theorem fo49_0 : fieldOff Tryd.prog 49 0 = some 0 := by kernel_rfl
@[simp] theorem fo49_1 : fieldOff Tryd.prog 49 1 = some 1 := by kernel_rfl
@[simp] theorem fo49_2 : fieldOff Tryd.prog 49 2 = some 2 := by kernel_rfl
@[simp] theorem fo49_3 : fieldOff Tryd.prog 49 3 = some 3 := by kernel_rfl
@[simp] theorem fo49_4 : fieldOff Tryd.prog 49 4 = some 4 := by kernel_rfl
@[simp] theorem fo49_5 : fieldOff Tryd.prog 49 5 = some 5 := by kernel_rfl
@[simp] theorem fo49_6 : fieldOff Tryd.prog 49 6 = some 6 := by kernel_rfl
@[simp] theorem fi49_0 : fInfo Tryd.prog 49 0 = some (0, 1) := by kernel_rfl
@[simp] theorem fi49_1 : fInfo Tryd.prog 49 1 = some (1, 1) := by kernel_rfl
@[simp] theorem fi49_2 : fInfo Tryd.prog 49 2 = some (2, 1) := by kernel_rfl
@[simp] theorem fi49_3 : fInfo Tryd.prog 49 3 = some (3, 1) := by kernel_rfl
@[simp] theorem fi49_4 : fInfo Tryd.prog 49 4 = some (4, 1) := by kernel_rfl
@[simp] theorem fi49_5 : fInfo Tryd.prog 49 5 = some (5, 1) := by kernel_rfl
@[simp] theorem fi49_6 : fInfo Tryd.prog 49 6 = some (6, 1) := by kernel_rfl
@[simp] theorem iu51 : (Tryd.prog.underlying 51).isSome = true := by kernel_rfl
@[simp] theorem sz51 : szOf Tryd.prog 51 = 1 := by kernel_rfl
@[simp] theorem by51 : bytesOf Tryd.prog 51 = 24 := by kernel_rfl
@[simp] theorem zo51 : (zeroOf Tryd.prog 51).isSome = true := by kernel_rfl
@[simp] theorem zd51 : zeroD Tryd.prog 51 = [.nils] := by kernel_rfl
@[simp] theorem ia51 : isAggT Tryd.prog 51 = false := by kernel_rfl
@[simp] theorem is51 : isSliceT Tryd.prog 51 = true := by kernel_rfl
@[simp] theorem el51 : Go.AM.elemOf Tryd.prog 51 = 57 := by kernel_rfl
@[simp] theorem es51 : elemSz Tryd.prog 51 = 1 := by kernel_rfl
@[simp] theorem iu52 : (Tryd.prog.underlying 52).isSome = true := by kernel_rfl
@[simp] theorem sz52 : szOf Tryd.prog 52 = 2 := by kernel_rfl
@[simp] theorem by52 : bytesOf Tryd.prog 52 = 48 := by kernel_rfl
@[simp] theorem zo52 : (zeroOf Tryd.prog 52).isSome = true := by kernel_rfl
@[simp] theorem zd52 : zeroD Tryd.prog 52 = [.nils, .nils] := by kernel_rfl
@[simp] theorem ia52 : isAggT Tryd.prog 52 = true := by kernel_rfl
@[simp] theorem ss52 : isStructT Tryd.prog 52 = true := by kernel_rfl
@[simp] theorem fk52 : fldOk Tryd.prog 52 = true := by kernel_rfl
@[simp] theorem fo52_0 : fieldOff Tryd.prog 52 0 = some 0 := by kernel_rfl
@[simp] theorem fo52_1 : fieldOff Tryd.prog 52 1 = some 1 := by kernel_rfl
@[simp] theorem fi52_0 : fInfo Tryd.prog 52 0 = some (0, 1) := by kernel_rfl
@[simp] theorem fi52_1 : fInfo Tryd.prog 52 1 = some (1, 1) := by kernel_rfl
@[simp] theorem iu53 : (Tryd.prog.underlying 53).isSome = true := by kernel_rfl
@[simp] theorem sz53 : szOf Tryd.prog 53 = 2 := by kernel_rfl
@[simp] theorem by53 : bytesOf Tryd.prog 53 = 48 := by kernel_rfl
@[simp] theorem zo53 : (zeroOf Tryd.prog 53).isSome = true := by kernel_rfl
@[simp] theorem zd53 : zeroD Tryd.prog 53 = [.nils, .nils] := by kernel_rfl
@[simp] theorem ia53 : isAggT Tryd.prog 53 = true := by kernel_rfl
@[simp] theorem ss53 : isStructT Tryd.prog 53 = true := by kernel_rfl
@[simp] theorem fk53 : fldOk Tryd.prog 53 = true := by kernel_rfl
@[simp] theorem fo53_0 : fieldOff Tryd.prog 53 0 = some 0 := by kernel_rfl
@[simp] theorem fo53_1 : fieldOff Tryd.prog 53 1 = some 1 := by kernel_rfl
@[simp] theorem fi53_0 : fInfo Tryd.prog 53 0 = some (0, 1) := by kernel_rfl
@[simp] theorem fi53_1 : fInfo Tryd.prog 53 1 = some (1, 1) := by kernel_rfl
@[simp] theorem iu57 : (Tryd.prog.underlying 57).isSome = true := by kernel_rfl
@[simp] theorem sz57 : szOf Tryd.prog 57 = 1 := by kernel_rfl
@[simp] theorem by57 : bytesOf Tryd.prog 57 = 24 := by kernel_rfl
@[simp] theorem zo57 : (zeroOf Tryd.prog 57).isSome = true := by kernel_rfl
@[simp] theorem zd57 : zeroD Tryd.prog 57 = [.nils] := by kernel_rfl
@[simp] theorem ia57 : isAggT Tryd.prog 57 = false := by kernel_rfl
@[simp] theorem is57 : isSliceT Tryd.prog 57 = true := by kernel_rfl
@[simp] theorem el57 : Go.AM.elemOf Tryd.prog 57 = 30 := by kernel_rfl
@[simp] theorem es57 : elemSz Tryd.prog 57 = 1 := by kernel_rfl
@[simp] theorem sz62 : szOf Tryd.prog 62 = 1 := by kernel_rfl
@[simp] theorem iu62 : (Tryd.prog.underlying 62).isSome = true := by kernel_rfl
@[simp] theorem ia62 : isAggT Tryd.prog 62 = false := by kernel_rfl
@[simp] theorem iu63 : (Tryd.prog.underlying 63).isSome = true := by kernel_rfl
@[simp] theorem sz63 : szOf Tryd.prog 63 = 1 := by kernel_rfl
@[simp] theorem by63 : bytesOf Tryd.prog 63 = 1 := by kernel_rfl
@[simp] theorem zo63 : (zeroOf Tryd.prog 63).isSome = true := by kernel_rfl
@[simp] theorem zd63 : zeroD Tryd.prog 63 = [(.int .u8 0)] := by kernel_rfl
@[simp] theorem ia63 : isAggT Tryd.prog 63 = false := by kernel_rfl
@[simp] theorem ik63 : intKindT Tryd.prog 63 = some .u8 := by kernel_rfl
@[simp] theorem sz64 : szOf Tryd.prog 64 = 1 := by kernel_rfl
@[simp] theorem iu64 : (Tryd.prog.underlying 64).isSome = true := by kernel_rfl
@[simp] theorem ia64 : isAggT Tryd.prog 64 = false := by kernel_rfl
@[simp] theorem sz65 : szOf Tryd.prog 65 = 1 := by kernel_rfl
@[simp] theorem iu65 : (Tryd.prog.underlying 65).isSome = true := by kernel_rfl
@[simp] theorem ia65 : isAggT Tryd.prog 65 = false := by kernel_rfl
@[simp] theorem iu67 : (Tryd.prog.underlying 67).isSome = true := by kernel_rfl
@[simp] theorem sz67 : szOf Tryd.prog 67 = 4 := by kernel_rfl
@[simp] theorem by67 : bytesOf Tryd.prog 67 = 40 := by kernel_rfl
@[simp] theorem zo67 : (zeroOf Tryd.prog 67).isSome = true := by kernel_rfl
@[simp] theorem zd67 : zeroD Tryd.prog 67 = [(.str ⟨#[]⟩), (.int .i64 0), (.int .i64 0), (.int .i64 0)] := by kernel_rfl
@[simp] theorem ia67 : isAggT Tryd.prog 67 = true := by kernel_rfl
@[simp] theorem ss67 : isStructT Tryd.prog 67 = true := by kernel_rfl
@[simp] theorem fk67 : fldOk Tryd.prog 67 = true := by kernel_rfl
@[simp] theorem eqk67 : eqKinds Tryd.prog 67 = some [.str, .int, .int, .int] := by kernel_rfl
@[simp] theorem fo67_0 : fieldOff Tryd.prog 67 0 = some 0 := by kernel_rfl
@[simp] theorem fo67_1 : fieldOff Tryd.prog 67 1 = some 1 := by kernel_rfl
@[simp] theorem fo67_2 : fieldOff Tryd.prog 67 2 = some 2 := by kernel_rfl
@[simp] theorem fo67_3 : fieldOff Tryd.prog 67 3 = some 3 := by kernel_rfl
@[simp] theorem fi67_0 : fInfo Tryd.prog 67 0 = some (0, 1) := by kernel_rfl
@[simp] theorem fi67_1 : fInfo Tryd.prog 67 1 = some (1, 1) := by kernel_rfl
@[simp] theorem fi67_2 : fInfo Tryd.prog 67 2 = some (2, 1) := by kernel_rfl
@[simp] theorem fi67_3 : fInfo Tryd.prog 67 3 = some (3, 1) := by kernel_rfl
@[simp] theorem iu68 : (Tryd.prog.underlying 68).isSome = true := by kernel_rfl
@[simp] theorem sz68 : szOf Tryd.prog 68 = 4 := by kernel_rfl
@[simp] theorem by68 : bytesOf Tryd.prog 68 = 40 := by kernel_rfl
@[simp] theorem zo68 : (zeroOf Tryd.prog 68).isSome = true := by kernel_rfl
@[simp] theorem zd68 : zeroD Tryd.prog 68 = [(.str ⟨#[]⟩), (.int .i64 0), (.int .i64 0), (.int .i64 0)] := by kernel_rfl
@[simp] theorem ia68 : isAggT Tryd.prog 68 = true := by kernel_rfl
@[simp] theorem ss68 : isStructT Tryd.prog 68 = true := by kernel_rfl
@[simp] theorem fk68 : fldOk Tryd.prog 68 = true := by kernel_rfl
@[simp] theorem eqk68 : eqKinds Tryd.prog 68 = some [.str, .int, .int, .int] := by kernel_rfl
@[simp] theorem fo68_0 : fieldOff Tryd.prog 68 0 = some 0 := by kernel_rfl
@[simp] theorem fo68_1 : fieldOff Tryd.prog 68 1 = some 1 := by kernel_rfl
@[simp] theorem fo68_2 : fieldOff Tryd.prog 68 2 = some 2 := by kernel_rfl
@[simp] theorem fo68_3 : fieldOff Tryd.prog 68 3 = some 3 := by kernel_rfl
@[simp] theorem fi68_0 : fInfo Tryd.prog 68 0 = some (0, 1) := by kernel_rfl
@[simp] theorem fi68_1 : fInfo Tryd.prog 68 1 = some (1, 1) := by kernel_rfl
@[simp] theorem fi68_2 : fInfo Tryd.prog 68 2 = some (2, 1) := by kernel_rfl
@[simp] theorem fi68_3 : fInfo Tryd.prog 68 3 = some (3, 1) := by kernel_rfl
@[simp] theorem iu72 : (Tryd.prog.underlying 72).isSome = true := by kernel_rfl
@[simp] theorem sz72 : szOf Tryd.prog 72 = 4 := by kernel_rfl
@[simp] theorem by72 : bytesOf Tryd.prog 72 = 32 := by kernel_rfl
@[simp] theorem zo72 : (zeroOf Tryd.prog 72).isSome = true := by kernel_rfl
@[simp] theorem zd72 : zeroD Tryd.prog 72 = [(.int .i64 0), (.int .i64 0), (.int .u8 0), (.int .i64 0)] := by kernel_rfl
@[simp] theorem ia72 : isAggT Tryd.prog 72 = true := by kernel_rfl
@[simp] theorem ss72 : isStructT Tryd.prog 72 = true := by kernel_rfl
@[simp] theorem fk72 : fldOk Tryd.prog 72 = true := by kernel_rfl
@[simp] theorem eqk72 : eqKinds Tryd.prog 72 = some [.int, .int, .int, .int] := by kernel_rfl
@[simp] theorem fo72_0 : fieldOff Tryd.prog 72 0 = some 0 := by kernel_rfl
@[simp] theorem fo72_1 : fieldOff Tryd.prog 72 1 = some 1 := by kernel_rfl
@[simp] theorem fo72_2 : fieldOff Tryd.prog 72 2 = some 2 := by kernel_rfl
@[simp] theorem fo72_3 : fieldOff Tryd.prog 72 3 = some 3 := by kernel_rfl
@[simp] theorem fi72_0 : fInfo Tryd.prog 72 0 = some (0, 1) := by kernel_rfl
@[simp] theorem fi72_1 : fInfo Tryd.prog 72 1 = some (1, 1) := by kernel_rfl
@[simp] theorem fi72_2 : fInfo Tryd.prog 72 2 = some (2, 1) := by kernel_rfl
@[simp] theorem fi72_3 : fInfo Tryd.prog 72 3 = some (3, 1) := by kernel_rfl
@[simp] theorem iu73 : (Tryd.prog.underlying 73).isSome = true := by kernel_rfl
@[simp] theorem sz73 : szOf Tryd.prog 73 = 4 := by kernel_rfl
@[simp] theorem by73 : bytesOf Tryd.prog 73 = 32 := by kernel_rfl
@[simp] theorem zo73 : (zeroOf Tryd.prog 73).isSome = true := by kernel_rfl
@[simp] theorem zd73 : zeroD Tryd.prog 73 = [(.int .i64 0), (.int .i64 0), (.int .u8 0), (.int .i64 0)] := by kernel_rfl
@[simp] theorem ia73 : isAggT Tryd.prog 73 = true := by kernel_rfl
@[simp] theorem ss73 : isStructT Tryd.prog 73 = true := by kernel_rfl
@[simp] theorem fk73 : fldOk Tryd.prog 73 = true := by kernel_rfl
@[simp] theorem eqk73 : eqKinds Tryd.prog 73 = some [.int, .int, .int, .int] := by kernel_rfl
@[simp] theorem fo73_0 : fieldOff Tryd.prog 73 0 = some 0 := by kernel_rfl
@[simp] theorem fo73_1 : fieldOff Tryd.prog 73 1 = some 1 := by kernel_rfl
@[simp] theorem fo73_2 : fieldOff Tryd.prog 73 2 = some 2 := by kernel_rfl
@[simp] theorem fo73_3 : fieldOff Tryd.prog 73 3 = some 3 := by kernel_rfl
@[simp] theorem fi73_0 : fInfo Tryd.prog 73 0 = some (0, 1) := by kernel_rfl
@[simp] theorem fi73_1 : fInfo Tryd.prog 73 1 = some (1, 1) := by kernel_rfl
@[simp] theorem fi73_2 : fInfo Tryd.prog 73 2 = some (2, 1) := by kernel_rfl
@[simp] theorem fi73_3 : fInfo Tryd.prog 73 3 = some (3, 1) := by kernel_rfl
@[simp] theorem iu77 : (Tryd.prog.underlying 77).isSome = true := by kernel_rfl
@[simp] theorem sz77 : szOf Tryd.prog 77 = 1 := by kernel_rfl
@[simp] theorem by77 : bytesOf Tryd.prog 77 = 1 := by kernel_rfl
@[simp] theorem zo77 : (zeroOf Tryd.prog 77).isSome = true := by kernel_rfl
@[simp] theorem zd77 : zeroD Tryd.prog 77 = [(.int .u8 0)] := by kernel_rfl
@[simp] theorem ia77 : isAggT Tryd.prog 77 = false := by kernel_rfl
@[simp] theorem ik77 : intKindT Tryd.prog 77 = some .u8 := by kernel_rfl
@[simp] theorem iu78 : (Tryd.prog.underlying 78).isSome = true := by kernel_rfl
@[simp] theorem sz78 : szOf Tryd.prog 78 = 2 := by kernel_rfl
@[simp] theorem by78 : bytesOf Tryd.prog 78 = 16 := by kernel_rfl
@[simp] theorem zo78 : (zeroOf Tryd.prog 78).isSome = true := by kernel_rfl
@[simp] theorem zd78 : zeroD Tryd.prog 78 = [(.int .u8 0), (.int .i64 0)] := by kernel_rfl
@[simp] theorem ia78 : isAggT Tryd.prog 78 = true := by kernel_rfl
@[simp] theorem ss78 : isStructT Tryd.prog 78 = true := by kernel_rfl
@[simp] theorem fk78 : fldOk Tryd.prog 78 = true := by kernel_rfl
@[simp] theorem eqk78 : eqKinds Tryd.prog 78 = some [.int, .int] := by kernel_rfl
@[simp] theorem fo78_0 : fieldOff Tryd.prog 78 0 = some 0 := by kernel_rfl
@[simp] theorem fo78_1 : fieldOff Tryd.prog 78 1 = some 1 := by kernel_rfl
@[simp] theorem fi78_0 : fInfo Tryd.prog 78 0 = some (0, 1) := by kernel_rfl
@[simp] theorem fi78_1 : fInfo Tryd.prog 78 1 = some (1, 1) := by kernel_rfl
@[simp] theorem iu79 : (Tryd.prog.underlying 79).isSome = true := by kernel_rfl
@[simp] theorem sz79 : szOf Tryd.prog 79 = 2 := by kernel_rfl
@[simp] theorem by79 : bytesOf Tryd.prog 79 = 16 := by kernel_rfl
@[simp] theorem zo79 : (zeroOf Tryd.prog 79).isSome = true := by kernel_rfl
@[simp] theorem zd79 : zeroD Tryd.prog 79 = [(.int .u8 0), (.int .i64 0)] := by kernel_rfl
@[simp] theorem ia79 : isAggT Tryd.prog 79 = true := by kernel_rfl
@[simp] theorem ss79 : isStructT Tryd.prog 79 = true := by kernel_rfl
@[simp] theorem fk79 : fldOk Tryd.prog 79 = true := by kernel_rfl
@[simp] theorem eqk79 : eqKinds Tryd.prog 79 = some [.int, .int] := by kernel_rfl
@[simp] theorem fo79_0 : fieldOff Tryd.prog 79 0 = some 0 := by kernel_rfl
@[simp] theorem fo79_1 : fieldOff Tryd.prog 79 1 = some 1 := by kernel_rfl
@[simp] theorem fi79_0 : fInfo Tryd.prog 79 0 = some (0, 1) := by kernel_rfl
@[simp] theorem fi79_1 : fInfo Tryd.prog 79 1 = some (1, 1) := by kernel_rfl
@[simp] theorem sz80 : szOf Tryd.prog 80 = 1 := by kernel_rfl
@[simp] theorem iu80 : (Tryd.prog.underlying 80).isSome = true := by kernel_rfl
@[simp] theorem ia80 : isAggT Tryd.prog 80 = false := by kernel_rfl
@[simp] theorem iu81 : (Tryd.prog.underlying 81).isSome = true := by kernel_rfl
@[simp] theorem sz81 : szOf Tryd.prog 81 = 4 := by kernel_rfl
@[simp] theorem by81 : bytesOf Tryd.prog 81 = 48 := by kernel_rfl
@[simp] theorem zo81 : (zeroOf Tryd.prog 81).isSome = true := by kernel_rfl
@[simp] theorem zd81 : zeroD Tryd.prog 81 = [(.int .i64 0), (.int .i64 0), (.int .i64 0), .nils] := by kernel_rfl
@[simp] theorem ia81 : isAggT Tryd.prog 81 = true := by kernel_rfl
@[simp] theorem ss81 : isStructT Tryd.prog 81 = true := by kernel_rfl
@[simp] theorem fk81 : fldOk Tryd.prog 81 = true := by kernel_rfl
@[simp] theorem fo81_0 : fieldOff Tryd.prog 81 0 = some 0 := by kernel_rfl
@[simp] theorem fo81_1 : fieldOff Tryd.prog 81 1 = some 1 := by kernel_rfl
@[simp] theorem fo81_2 : fieldOff Tryd.prog 81 2 = some 2 := by kernel_rfl
@[simp] theorem fo81_3 : fieldOff Tryd.prog 81 3 = some 3 := by kernel_rfl
@[simp] theorem fi81_0 : fInfo Tryd.prog 81 0 = some (0, 1) := by kernel_rfl
@[simp] theorem fi81_1 : fInfo Tryd.prog 81 1 = some (1, 1) := by kernel_rfl
@[simp] theorem fi81_2 : fInfo Tryd.prog 81 2 = some (2, 1) := by kernel_rfl
@[simp] theorem fi81_3 : fInfo Tryd.prog 81 3 = some (3, 1) := by kernel_rfl
@[simp] theorem iu82 : (Tryd.prog.underlying 82).isSome = true := by kernel_rfl
@[simp] theorem sz82 : szOf Tryd.prog 82 = 4 := by kernel_rfl
@[simp] theorem by82 : bytesOf Tryd.prog 82 = 48 := by kernel_rfl
@[simp] theorem zo82 : (zeroOf Tryd.prog 82).isSome = true := by kernel_rfl
@[simp] theorem zd82 : zeroD Tryd.prog 82 = [(.int .i64 0), (.int .i64 0), (.int .i64 0), .nils] := by kernel_rfl
@[simp] theorem ia82 : isAggT Tryd.prog 82 = true := by kernel_rfl
@[simp] theorem ss82 : isStructT Tryd.prog 82 = true := by kernel_rfl
@[simp] theorem fk82 : fldOk Tryd.prog 82 = true := by kernel_rfl
@[simp] theorem fo82_0 : fieldOff Tryd.prog 82 0 = some 0 := by kernel_rfl
@[simp] theorem fo82_1 : fieldOff Tryd.prog 82 1 = some 1 := by kernel_rfl
@[simp] theorem fo82_2 : fieldOff Tryd.prog 82 2 = some 2 := by kernel_rfl
@[simp] theorem fo82_3 : fieldOff Tryd.prog 82 3 = some 3 := by kernel_rfl
@[simp] theorem fi82_0 : fInfo Tryd.prog 82 0 = some (0, 1) := by kernel_rfl
@[simp] theorem fi82_1 : fInfo Tryd.prog 82 1 = some (1, 1) := by kernel_rfl
@[simp] theorem fi82_2 : fInfo Tryd.prog 82 2 = some (2, 1) := by kernel_rfl
@[simp] theorem fi82_3 : fInfo Tryd.prog 82 3 = some (3, 1) := by kernel_rfl
@[simp] theorem iu87 : (Tryd.prog.underlying 87).isSome = true := by kernel_rfl
@[simp] theorem sz87 : szOf Tryd.prog 87 = 1 := by kernel_rfl
@[simp] theorem by87 : bytesOf Tryd.prog 87 = 24 := by kernel_rfl
@[simp] theorem zo87 : (zeroOf Tryd.prog 87).isSome = true := by kernel_rfl
@[simp] theorem zd87 : zeroD Tryd.prog 87 = [.nils] := by kernel_rfl
@[simp] theorem ia87 : isAggT Tryd.prog 87 = false := by kernel_rfl
@[simp] theorem is87 : isSliceT Tryd.prog 87 = true := by kernel_rfl
@[simp] theorem el87 : Go.AM.elemOf Tryd.prog 87 = 156 := by kernel_rfl
@[simp] theorem es87 : elemSz Tryd.prog 87 = 2 := by kernel_rfl
@[simp] theorem iu88 : (Tryd.prog.underlying 88).isSome = true := by kernel_rfl
@[simp] theorem sz88 : szOf Tryd.prog 88 = 3 := by kernel_rfl
@[simp] theorem by88 : bytesOf Tryd.prog 88 = 72 := by kernel_rfl
@[simp] theorem zo88 : (zeroOf Tryd.prog 88).isSome = true := by kernel_rfl
@[simp] theorem zd88 : zeroD Tryd.prog 88 = [.nils, .nils, .nils] := by kernel_rfl
@[simp] theorem ia88 : isAggT Tryd.prog 88 = true := by kernel_rfl
@[simp] theorem ss88 : isStructT Tryd.prog 88 = true := by kernel_rfl
@[simp] theorem fk88 : fldOk Tryd.prog 88 = true := by kernel_rfl
@[simp] theorem fo88_0 : fieldOff Tryd.prog 88 0 = some 0 := by kernel_rfl
@[simp] theorem fo88_1 : fieldOff Tryd.prog 88 1 = some 1 := by kernel_rfl
@[simp] theorem fo88_2 : fieldOff Tryd.prog 88 2 = some 2 := by kernel_rfl
@[simp] theorem fi88_0 : fInfo Tryd.prog 88 0 = some (0, 1) := by kernel_rfl
@[simp] theorem fi88_1 : fInfo Tryd.prog 88 1 = some (1, 1) := by kernel_rfl
@[simp] theorem fi88_2 : fInfo Tryd.prog 88 2 = some (2, 1) := by kernel_rfl
@[simp] theorem iu89 : (Tryd.prog.underlying 89).isSome = true := by kernel_rfl
@[simp] theorem sz89 : szOf Tryd.prog 89 = 3 := by kernel_rfl
@[simp] theorem by89 : bytesOf Tryd.prog 89 = 72 := by kernel_rfl
@[simp] theorem zo89 : (zeroOf Tryd.prog 89).isSome = true := by kernel_rfl
@[simp] theorem zd89 : zeroD Tryd.prog 89 = [.nils, .nils, .nils] := by kernel_rfl
@[simp] theorem ia89 : isAggT Tryd.prog 89 = true := by kernel_rfl
@[simp] theorem ss89 : isStructT Tryd.prog 89 = true := by kernel_rfl
@[simp] theorem fk89 : fldOk Tryd.prog 89 = true := by kernel_rfl
@[simp] theorem fo89_0 : fieldOff Tryd.prog 89 0 = some 0 := by kernel_rfl
@[simp] theorem fo89_1 : fieldOff Tryd.prog 89 1 = some 1 := by kernel_rfl
@[simp] theorem fo89_2 : fieldOff Tryd.prog 89 2 = some 2 := by kernel_rfl
@[simp] theorem fi89_0 : fInfo Tryd.prog 89 0 = some (0, 1) := by kernel_rfl
@[simp] theorem fi89_1 : fInfo Tryd.prog 89 1 = some (1, 1) := by kernel_rfl
@[simp] theorem fi89_2 : fInfo Tryd.prog 89 2 = some (2, 1) := by kernel_rfl
@[simp] theorem iu90 : (Tryd.prog.underlying 90).isSome = true := by kernel_rfl
@[simp] theorem sz90 : szOf Tryd.prog 90 = 3 := by kernel_rfl
@[simp] theorem by90 : bytesOf Tryd.prog 90 = 24 := by kernel_rfl
@[simp] theorem zo90 : (zeroOf Tryd.prog 90).isSome = true := by kernel_rfl
@[simp] theorem zd90 : zeroD Tryd.prog 90 = [(.int .i64 0), (.int .i64 0), (.int .i64 0)] := by kernel_rfl
@[simp] theorem ia90 : isAggT Tryd.prog 90 = true := by kernel_rfl
@[simp] theorem ss90 : isStructT Tryd.prog 90 = true := by kernel_rfl
@[simp] theorem fk90 : fldOk Tryd.prog 90 = true := by kernel_rfl
@[simp] theorem eqk90 : eqKinds Tryd.prog 90 = some [.int, .int, .int] := by kernel_rfl
@[simp] theorem fo90_0 : fieldOff Tryd.prog 90 0 = some 0 := by kernel_rfl
@[simp] theorem fo90_1 : fieldOff Tryd.prog 90 1 = some 1 := by kernel_rfl
@[simp] theorem fo90_2 : fieldOff Tryd.prog 90 2 = some 2 := by kernel_rfl
@[simp] theorem fi90_0 : fInfo Tryd.prog 90 0 = some (0, 1) := by kernel_rfl
@[simp] theorem fi90_1 : fInfo Tryd.prog 90 1 = some (1, 1) := by kernel_rfl
@[simp] theorem fi90_2 : fInfo Tryd.prog 90 2 = some (2, 1) := by kernel_rfl
@[simp] theorem iu91 : (Tryd.prog.underlying 91).isSome = true := by kernel_rfl
@[simp] theorem sz91 : szOf Tryd.prog 91 = 3 := by kernel_rfl
@[simp] theorem by91 : bytesOf Tryd.prog 91 = 24 := by kernel_rfl
@[simp] theorem zo91 : (zeroOf Tryd.prog 91).isSome = true := by kernel_rfl
@[simp] theorem zd91 : zeroD Tryd.prog 91 = [(.int .i64 0), (.int .i64 0), (.int .i64 0)] := by kernel_rfl
@[simp] theorem ia91 : isAggT Tryd.prog 91 = true := by kernel_rfl
@[simp] theorem ss91 : isStructT Tryd.prog 91 = true := by kernel_rfl
@[simp] theorem fk91 : fldOk Tryd.prog 91 = true := by kernel_rfl
@[simp] theorem eqk91 : eqKinds Tryd.prog 91 = some [.int, .int, .int] := by kernel_rfl
@[simp] theorem fo91_0 : fieldOff Tryd.prog 91 0 = some 0 := by kernel_rfl
@[simp] theorem fo91_1 : fieldOff Tryd.prog 91 1 = some 1 := by kernel_rfl
@[simp] theorem fo91_2 : fieldOff Tryd.prog 91 2 = some 2 := by kernel_rfl
@[simp] theorem fi91_0 : fInfo Tryd.prog 91 0 = some (0, 1) := by kernel_rfl
@[simp] theorem fi91_1 : fInfo Tryd.prog 91 1 = some (1, 1) := by kernel_rfl
@[simp] theorem fi91_2 : fInfo Tryd.prog 91 2 = some (2, 1) := by kernel_rfl
@[simp] theorem iu94 : (Tryd.prog.underlying 94).isSome = true := by kernel_rfl
@[simp] theorem sz94 : szOf Tryd.prog 94 = 1 := by kernel_rfl
@[simp] theorem by94 : bytesOf Tryd.prog 94 = 24 := by kernel_rfl
@[simp] theorem zo94 : (zeroOf Tryd.prog 94).isSome = true := by kernel_rfl
@[simp] theorem zd94 : zeroD Tryd.prog 94 = [.nils] := by kernel_rfl
@[simp] theorem ia94 : isAggT Tryd.prog 94 = false := by kernel_rfl
@[simp] theorem is94 : isSliceT Tryd.prog 94 = true := by kernel_rfl
@[simp] theorem el94 : Go.AM.elemOf Tryd.prog 94 = 35 := by kernel_rfl
@[simp] theorem es94 : elemSz Tryd.prog 94 = 1 := by kernel_rfl
@[simp] theorem iu96 : (Tryd.prog.underlying 96).isSome = true := by kernel_rfl
@[simp] theorem sz96 : szOf Tryd.prog 96 = 1 := by kernel_rfl
@[simp] theorem by96 : bytesOf Tryd.prog 96 = 24 := by kernel_rfl
@[simp] theorem zo96 : (zeroOf Tryd.prog 96).isSome = true := by kernel_rfl
@[simp] theorem zd96 : zeroD Tryd.prog 96 = [.nils] := by kernel_rfl
@[simp] theorem ia96 : isAggT Tryd.prog 96 = false := by kernel_rfl
@[simp] theorem is96 : isSliceT Tryd.prog 96 = true := by kernel_rfl
@[simp] theorem el96 : Go.AM.elemOf Tryd.prog 96 = 99 := by kernel_rfl
@[simp] theorem es96 : elemSz Tryd.prog 96 = 1 := by kernel_rfl
@[simp] theorem iu97 : (Tryd.prog.underlying 97).isSome = true := by kernel_rfl
@[simp] theorem sz97 : szOf Tryd.prog 97 = 1 := by kernel_rfl
@[simp] theorem by97 : bytesOf Tryd.prog 97 = 24 := by kernel_rfl
@[simp] theorem zo97 : (zeroOf Tryd.prog 97).isSome = true := by kernel_rfl
@[simp] theorem zd97 : zeroD Tryd.prog 97 = [.nils] := by kernel_rfl
@[simp] theorem ia97 : isAggT Tryd.prog 97 = false := by kernel_rfl
@[simp] theorem is97 : isSliceT Tryd.prog 97 = true := by kernel_rfl
@[simp] theorem el97 : Go.AM.elemOf Tryd.prog 97 = 99 := by kernel_rfl
@[simp] theorem es97 : elemSz Tryd.prog 97 = 1 := by kernel_rfl
@[simp] theorem iu99 : (Tryd.prog.underlying 99).isSome = true := by kernel_rfl
@[simp] theorem sz99 : szOf Tryd.prog 99 = 1 := by kernel_rfl
@[simp] theorem by99 : bytesOf Tryd.prog 99 = 24 := by kernel_rfl
@[simp] theorem zo99 : (zeroOf Tryd.prog 99).isSome = true := by kernel_rfl
@[simp] theorem zd99 : zeroD Tryd.prog 99 = [.nils] := by kernel_rfl
@[simp] theorem ia99 : isAggT Tryd.prog 99 = false := by kernel_rfl
@[simp] theorem is99 : isSliceT Tryd.prog 99 = true := by kernel_rfl
@[simp] theorem el99 : Go.AM.elemOf Tryd.prog 99 = 4 := by kernel_rfl
@[simp] theorem es99 : elemSz Tryd.prog 99 = 1 := by kernel_rfl
@[simp] theorem sz110 : szOf Tryd.prog 110 = 1 := by kernel_rfl
@[simp] theorem iu110 : (Tryd.prog.underlying 110).isSome = true := by kernel_rfl
@[simp] theorem ia110 : isAggT Tryd.prog 110 = false := by kernel_rfl
@[simp] theorem sz112 : szOf Tryd.prog 112 = 1 := by kernel_rfl
@[simp] theorem iu112 : (Tryd.prog.underlying 112).isSome = true := by kernel_rfl
@[simp] theorem ia112 : isAggT Tryd.prog 112 = false := by kernel_rfl
@[simp] theorem sz113 : szOf Tryd.prog 113 = 1 := by kernel_rfl
@[simp] theorem iu113 : (Tryd.prog.underlying 113).isSome = true := by kernel_rfl
@[simp] theorem ia113 : isAggT Tryd.prog 113 = false := by kernel_rfl
@[simp] theorem sz117 : szOf Tryd.prog 117 = 1 := by kernel_rfl
@[simp] theorem iu117 : (Tryd.prog.underlying 117).isSome = true := by kernel_rfl
@[simp] theorem ia117 : isAggT Tryd.prog 117 = false := by kernel_rfl
@[simp] theorem sz120 : szOf Tryd.prog 120 = 1 := by kernel_rfl
@[simp] theorem iu120 : (Tryd.prog.underlying 120).isSome = true := by kernel_rfl
@[simp] theorem ia120 : isAggT Tryd.prog 120 = false := by kernel_rfl
@[simp] theorem sz121 : szOf Tryd.prog 121 = 1 := by kernel_rfl
@[simp] theorem iu121 : (Tryd.prog.underlying 121).isSome = true := by kernel_rfl
@[simp] theorem ia121 : isAggT Tryd.prog 121 = false := by kernel_rfl
@[simp] theorem sz123 : szOf Tryd.prog 123 = 1 := by kernel_rfl
@[simp] theorem iu123 : (Tryd.prog.underlying 123).isSome = true := by kernel_rfl
@[simp] theorem ia123 : isAggT Tryd.prog 123 = false := by kernel_rfl
@[simp] theorem iu136 : (Tryd.prog.underlying 136).isSome = true := by kernel_rfl
@[simp] theorem sz136 : szOf Tryd.prog 136 = 1 := by kernel_rfl
@[simp] theorem by136 : bytesOf Tryd.prog 136 = 24 := by kernel_rfl
@[simp] theorem zo136 : (zeroOf Tryd.prog 136).isSome = true := by kernel_rfl
@[simp] theorem zd136 : zeroD Tryd.prog 136 = [.nils] := by kernel_rfl
@[simp] theorem ia136 : isAggT Tryd.prog 136 = false := by kernel_rfl
@[simp] theorem is136 : isSliceT Tryd.prog 136 = true := by kernel_rfl
@[simp] theorem el136 : Go.AM.elemOf Tryd.prog 136 = 110 := by kernel_rfl
@[simp] theorem es136 : elemSz Tryd.prog 136 = 1 := by kernel_rfl
@[simp] theorem iu138 : (Tryd.prog.underlying 138).isSome = true := by kernel_rfl
@[simp] theorem sz138 : szOf Tryd.prog 138 = 1 := by kernel_rfl
@[simp] theorem by138 : bytesOf Tryd.prog 138 = 8 := by kernel_rfl
@[simp] theorem zo138 : (zeroOf Tryd.prog 138).isSome = true := by kernel_rfl
@[simp] theorem zd138 : zeroD Tryd.prog 138 = [.nilm] := by kernel_rfl
@[simp] theorem ia138 : isAggT Tryd.prog 138 = false := by kernel_rfl
@[simp] theorem iu142 : (Tryd.prog.underlying 142).isSome = true := by kernel_rfl
@[simp] theorem sz142 : szOf Tryd.prog 142 = 5 := by kernel_rfl
@[simp] theorem by142 : bytesOf Tryd.prog 142 = 40 := by kernel_rfl
@[simp] theorem zo142 : (zeroOf Tryd.prog 142).isSome = true := by kernel_rfl
@[simp] theorem zd142 : zeroD Tryd.prog 142 = [(.int .i64 0), (.bool false), (.bool false), (.str ⟨#[]⟩), (.int .i64 0)] := by kernel_rfl
@[simp] theorem ia142 : isAggT Tryd.prog 142 = true := by kernel_rfl
@[simp] theorem ss142 : isStructT Tryd.prog 142 = true := by kernel_rfl
@[simp] theorem fk142 : fldOk Tryd.prog 142 = true := by kernel_rfl
@[simp] theorem eqk142 : eqKinds Tryd.prog 142 = some [.int, .bool, .bool, .str, .int] := by kernel_rfl
@[simp] theorem fo142_0 : fieldOff Tryd.prog 142 0 = some 0 := by kernel_rfl
@[simp] theorem fo142_1 : fieldOff Tryd.prog 142 1 = some 1 := by kernel_rfl
@[simp] theorem fo142_2 : fieldOff Tryd.prog 142 2 = some 2 := by kernel_rfl
@[simp] theorem fo142_3 : fieldOff Tryd.prog 142 3 = some 3 := by kernel_rfl
@[simp] theorem fo142_4 : fieldOff Tryd.prog 142 4 = some 4 := by kernel_rfl
@[simp] theorem fi142_0 : fInfo Tryd.prog 142 0 = some (0, 1) := by kernel_rfl
@[simp] theorem fi142_1 : fInfo Tryd.prog 142 1 = some (1, 1) := by kernel_rfl
@[simp] theorem fi142_2 : fInfo Tryd.prog 142 2 = some (2, 1) := by kernel_rfl
@[simp] theorem fi142_3 : fInfo Tryd.prog 142 3 = some (3, 1) := by kernel_rfl
@[simp] theorem fi142_4 : fInfo Tryd.prog 142 4 = some (4, 1) := by kernel_rfl
@[simp] theorem iu143 : (Tryd.prog.underlying 143).isSome = true := by kernel_rfl
@[simp] theorem sz143 : szOf Tryd.prog 143 = 5 := by kernel_rfl
@[simp] theorem by143 : bytesOf Tryd.prog 143 = 40 := by kernel_rfl
@[simp] theorem zo143 : (zeroOf Tryd.prog 143).isSome = true := by kernel_rfl
@[simp] theorem zd143 : zeroD Tryd.prog 143 = [(.int .i64 0), (.bool false), (.bool false), (.str ⟨#[]⟩), (.int .i64 0)] := by kernel_rfl
@[simp] theorem ia143 : isAggT Tryd.prog 143 = true := by kernel_rfl
@[simp] theorem ss143 : isStructT Tryd.prog 143 = true := by kernel_rfl
@[simp] theorem fk143 : fldOk Tryd.prog 143 = true := by kernel_rfl
@[simp] theorem eqk143 : eqKinds Tryd.prog 143 = some [.int, .bool, .bool, .str, .int] := by kernel_rfl
@[simp] theorem fo143_0 : fieldOff Tryd.prog 143 0 = some 0 := by kernel_rfl
@[simp] theorem fo143_1 : fieldOff Tryd.prog 143 1 = some 1 := by kernel_rfl
@[simp] theorem fo143_2 : fieldOff Tryd.prog 143 2 = some 2 := by kernel_rfl
@[simp] theorem fo143_3 : fieldOff Tryd.prog 143 3 = some 3 := by kernel_rfl
@[simp] theorem fo143_4 : fieldOff Tryd.prog 143 4 = some 4 := by kernel_rfl
@[simp] theorem fi143_0 : fInfo Tryd.prog 143 0 = some (0, 1) := by kernel_rfl
@[simp] theorem fi143_1 : fInfo Tryd.prog 143 1 = some (1, 1) := by kernel_rfl
@[simp] theorem fi143_2 : fInfo Tryd.prog 143 2 = some (2, 1) := by kernel_rfl
@[simp] theorem fi143_3 : fInfo Tryd.prog 143 3 = some (3, 1) := by kernel_rfl
@[simp] theorem fi143_4 : fInfo Tryd.prog 143 4 = some (4, 1) := by kernel_rfl
@[simp] theorem iu146 : (Tryd.prog.underlying 146).isSome = true := by kernel_rfl
@[simp] theorem sz146 : szOf Tryd.prog 146 = 1 := by kernel_rfl
@[simp] theorem by146 : bytesOf Tryd.prog 146 = 8 := by kernel_rfl
@[simp] theorem zo146 : (zeroOf Tryd.prog 146).isSome = true := by kernel_rfl
@[simp] theorem zd146 : zeroD Tryd.prog 146 = [.nilm] := by kernel_rfl
@[simp] theorem ia146 : isAggT Tryd.prog 146 = false := by kernel_rfl
@[simp] theorem sz154 : szOf Tryd.prog 154 = 1 := by kernel_rfl
@[simp] theorem iu154 : (Tryd.prog.underlying 154).isSome = true := by kernel_rfl
@[simp] theorem ia154 : isAggT Tryd.prog 154 = false := by kernel_rfl
@[simp] theorem iu155 : (Tryd.prog.underlying 155).isSome = true := by kernel_rfl
@[simp] theorem sz155 : szOf Tryd.prog 155 = 2 := by kernel_rfl
@[simp] theorem by155 : bytesOf Tryd.prog 155 = 16 := by kernel_rfl
@[simp] theorem zo155 : (zeroOf Tryd.prog 155).isSome = true := by kernel_rfl
@[simp] theorem zd155 : zeroD Tryd.prog 155 = [(.int .i64 0), (.int .i64 0)] := by kernel_rfl
@[simp] theorem ia155 : isAggT Tryd.prog 155 = true := by kernel_rfl
@[simp] theorem ss155 : isStructT Tryd.prog 155 = true := by kernel_rfl
@[simp] theorem fk155 : fldOk Tryd.prog 155 = true := by kernel_rfl
@[simp] theorem eqk155 : eqKinds Tryd.prog 155 = some [.int, .int] := by kernel_rfl
@[simp] theorem fo155_0 : fieldOff Tryd.prog 155 0 = some 0 := by kernel_rfl
@[simp] theorem fo155_1 : fieldOff Tryd.prog 155 1 = some 1 := by kernel_rfl
@[simp] theorem fi155_0 : fInfo Tryd.prog 155 0 = some (0, 1) := by kernel_rfl
@[simp] theorem fi155_1 : fInfo Tryd.prog 155 1 = some (1, 1) := by kernel_rfl
@[simp] theorem iu156 : (Tryd.prog.underlying 156).isSome = true := by kernel_rfl
@[simp] theorem sz156 : szOf Tryd.prog 156 = 2 := by kernel_rfl
@[simp] theorem by156 : bytesOf Tryd.prog 156 = 16 := by kernel_rfl
@[simp] theorem zo156 : (zeroOf Tryd.prog 156).isSome = true := by kernel_rfl
@[simp] theorem zd156 : zeroD Tryd.prog 156 = [(.int .i64 0), (.int .i64 0)] := by kernel_rfl
@[simp] theorem ia156 : isAggT Tryd.prog 156 = true := by kernel_rfl
@[simp] theorem ss156 : isStructT Tryd.prog 156 = true := by kernel_rfl
@[simp] theorem fk156 : fldOk Tryd.prog 156 = true := by kernel_rfl
@[simp] theorem eqk156 : eqKinds Tryd.prog 156 = some [.int, .int] := by kernel_rfl
@[simp] theorem fo156_0 : fieldOff Tryd.prog 156 0 = some 0 := by kernel_rfl
@[simp] theorem fo156_1 : fieldOff Tryd.prog 156 1 = some 1 := by kernel_rfl
@[simp] theorem fi156_0 : fInfo Tryd.prog 156 0 = some (0, 1) := by kernel_rfl
@[simp] theorem fi156_1 : fInfo Tryd.prog 156 1 = some (1, 1) := by kernel_rfl
@[simp] theorem iu157 : (Tryd.prog.underlying 157).isSome = true := by kernel_rfl
@[simp] theorem sz157 : szOf Tryd.prog 157 = 1 := by kernel_rfl
@[simp] theorem by157 : bytesOf Tryd.prog 157 = 24 := by kernel_rfl
@[simp] theorem zo157 : (zeroOf Tryd.prog 157).isSome = true := by kernel_rfl
@[simp] theorem zd157 : zeroD Tryd.prog 157 = [.nils] := by kernel_rfl
@[simp] theorem ia157 : isAggT Tryd.prog 157 = false := by kernel_rfl
@[simp] theorem is157 : isSliceT Tryd.prog 157 = true := by kernel_rfl
@[simp] theorem el157 : Go.AM.elemOf Tryd.prog 157 = 154 := by kernel_rfl
@[simp] theorem es157 : elemSz Tryd.prog 157 = 1 := by kernel_rfl
@[simp] theorem iu158 : (Tryd.prog.underlying 158).isSome = true := by kernel_rfl
@[simp] theorem sz158 : szOf Tryd.prog 158 = 1 := by kernel_rfl
@[simp] theorem by158 : bytesOf Tryd.prog 158 = 1 := by kernel_rfl
@[simp] theorem zo158 : (zeroOf Tryd.prog 158).isSome = true := by kernel_rfl
@[simp] theorem zd158 : zeroD Tryd.prog 158 = [(.int .u8 0)] := by kernel_rfl
@[simp] theorem ia158 : isAggT Tryd.prog 158 = false := by kernel_rfl
@[simp] theorem ik158 : intKindT Tryd.prog 158 = some .u8 := by kernel_rfl
@[simp] theorem iu162 : (Tryd.prog.underlying 162).isSome = true := by kernel_rfl
@[simp] theorem sz162 : szOf Tryd.prog 162 = 16 := by kernel_rfl
@[simp] theorem by162 : bytesOf Tryd.prog 162 = 256 := by kernel_rfl
@[simp] theorem zo162 : (zeroOf Tryd.prog 162).isSome = true := by kernel_rfl
@[simp] theorem zd162 : zeroD Tryd.prog 162 = [(.str ⟨#[]⟩), (.str ⟨#[]⟩), (.str ⟨#[]⟩), (.str ⟨#[]⟩), (.str ⟨#[]⟩), (.str ⟨#[]⟩), (.str ⟨#[]⟩), (.str ⟨#[]⟩), (.str ⟨#[]⟩), (.str ⟨#[]⟩), (.str ⟨#[]⟩), (.str ⟨#[]⟩), (.str ⟨#[]⟩), (.str ⟨#[]⟩), (.str ⟨#[]⟩), (.str ⟨#[]⟩)] := by kernel_rfl
@[simp] theorem ia162 : isAggT Tryd.prog 162 = true := by kernel_rfl
@[simp] theorem es162 : elemSz Tryd.prog 162 = 1 := by kernel_rfl
@[simp] theorem al162 : arrLen Tryd.prog 162 = some 16 := by kernel_rfl
@[simp] theorem is162 : isSliceT Tryd.prog 162 = false := by kernel_rfl
@[simp] theorem ss162 : isStructT Tryd.prog 162 = true := by kernel_rfl
@[simp] theorem fk162 : fldOk Tryd.prog 162 = true := by kernel_rfl
@[simp] theorem fi162_0 : fInfo Tryd.prog 162 0 = some (0, 1) := by kernel_rfl
@[simp] theorem fi162_1 : fInfo Tryd.prog 162 1 = some (1, 1) := by kernel_rfl
@[simp] theorem fi162_2 : fInfo Tryd.prog 162 2 = some (2, 1) := by kernel_rfl
@[simp] theorem fi162_3 : fInfo Tryd.prog 162 3 = some (3, 1) := by kernel_rfl
@[simp] theorem fi162_4 : fInfo Tryd.prog 162 4 = some (4, 1) := by kernel_rfl
@[simp] theorem fi162_5 : fInfo Tryd.prog 162 5 = some (5, 1) := by kernel_rfl
@[simp] theorem fi162_6 : fInfo Tryd.prog 162 6 = some (6, 1) := by kernel_rfl
@[simp] theorem fi162_7 : fInfo Tryd.prog 162 7 = some (7, 1) := by kernel_rfl
@[simp] theorem fi162_8 : fInfo Tryd.prog 162 8 = some (8, 1) := by kernel_rfl
@[simp] theorem fi162_9 : fInfo Tryd.prog 162 9 = some (9, 1) := by kernel_rfl
@[simp] theorem fi162_10 : fInfo Tryd.prog 162 10 = some (10, 1) := by kernel_rfl
@[simp] theorem fi162_11 : fInfo Tryd.prog 162 11 = some (11, 1) := by kernel_rfl
@[simp] theorem fi162_12 : fInfo Tryd.prog 162 12 = some (12, 1) := by kernel_rfl
@[simp] theorem fi162_13 : fInfo Tryd.prog 162 13 = some (13, 1) := by kernel_rfl
@[simp] theorem fi162_14 : fInfo Tryd.prog 162 14 = some (14, 1) := by kernel_rfl
@[simp] theorem fi162_15 : fInfo Tryd.prog 162 15 = some (15, 1) := by kernel_rfl
@[simp] theorem iu163 : (Tryd.prog.underlying 163).isSome = true := by kernel_rfl
@[simp] theorem sz163 : szOf Tryd.prog 163 = 1 := by kernel_rfl
@[simp] theorem by163 : bytesOf Tryd.prog 163 = 24 := by kernel_rfl
@[simp] theorem zo163 : (zeroOf Tryd.prog 163).isSome = true := by kernel_rfl
@[simp] theorem zd163 : zeroD Tryd.prog 163 = [.nils] := by kernel_rfl
@[simp] theorem ia163 : isAggT Tryd.prog 163 = false := by kernel_rfl
@[simp] theorem is163 : isSliceT Tryd.prog 163 = true := by kernel_rfl
@[simp] theorem el163 : Go.AM.elemOf Tryd.prog 163 = 22 := by kernel_rfl
@[simp] theorem es163 : elemSz Tryd.prog 163 = 1 := by kernel_rfl
@[simp] theorem iu165 : (Tryd.prog.underlying 165).isSome = true := by kernel_rfl
@[simp] theorem sz165 : szOf Tryd.prog 165 = 75 := by kernel_rfl
@[simp] theorem by165 : bytesOf Tryd.prog 165 = 600 := by kernel_rfl
@[simp] theorem zo165 : (zeroOf Tryd.prog 165).isSome = true := by kernel_rfl
@[simp] theorem zd165 : zeroD Tryd.prog 165 = [(.int .i64 0), (.bool false), (.bool false), (.str ⟨#[]⟩), (.int .i64 0), (.int .i64 0), (.bool false), (.bool false), (.str ⟨#[]⟩), (.int .i64 0), (.int .i64 0), (.bool false), (.bool false), (.str ⟨#[]⟩), (.int .i64 0), (.int .i64 0), (.bool false), (.bool false), (.str ⟨#[]⟩), (.int .i64 0), (.int .i64 0), (.bool false), (.bool false), (.str ⟨#[]⟩), (.int .i64 0), (.int .i64 0), (.bool false), (.bool false), (.str ⟨#[]⟩), (.int .i64 0), (.int .i64 0), (.bool false), (.bool false), (.str ⟨#[]⟩), (.int .i64 0), (.int .i64 0), (.bool false), (.bool false), (.str ⟨#[]⟩), (.int .i64 0), (.int .i64 0), (.bool false), (.bool false), (.str ⟨#[]⟩), (.int .i64 0), (.int .i64 0), (.bool false), (.bool false), (.str ⟨#[]⟩), (.int .i64 0), (.int .i64 0), (.bool false), (.bool false), (.str ⟨#[]⟩), (.int .i64 0), (.int .i64 0), (.bool false), (.bool false), (.str ⟨#[]⟩), (.int .i64 0), (.int .i64 0), (.bool false), (.bool false), (.str ⟨#[]⟩), (.int .i64 0), (.int .i64 0), (.bool false), (.bool false), (.str ⟨#[]⟩), (.int .i64 0), (.int .i64 0), (.bool false), (.bool false), (.str ⟨#[]⟩), (.int .i64 0)] := by kernel_rfl
@[simp] theorem ia165 : isAggT Tryd.prog 165 = true := by kernel_rfl
@[simp] theorem es165 : elemSz Tryd.prog 165 = 5 := by kernel_rfl
@[simp] theorem al165 : arrLen Tryd.prog 165 = some 15 := by kernel_rfl
@[simp] theorem is165 : isSliceT Tryd.prog 165 = false := by kernel_rfl
@[simp] theorem ss165 : isStructT Tryd.prog 165 = true := by kernel_rfl
@[simp] theorem fk165 : fldOk Tryd.prog 165 = true := by kernel_rfl
@[simp] theorem fi165_0 : fInfo Tryd.prog 165 0 = some (0, 5) := by kernel_rfl
@[simp] theorem fi165_1 : fInfo Tryd.prog 165 1 = some (5, 5) := by kernel_rfl
@[simp] theorem fi165_2 : fInfo Tryd.prog 165 2 = some (10, 5) := by kernel_rfl
@[simp] theorem fi165_3 : fInfo Tryd.prog 165 3 = some (15, 5) := by kernel_rfl
@[simp] theorem fi165_4 : fInfo Tryd.prog 165 4 = some (20, 5) := by kernel_rfl
@[simp] theorem fi165_5 : fInfo Tryd.prog 165 5 = some (25, 5) := by kernel_rfl
@[simp] theorem fi165_6 : fInfo Tryd.prog 165 6 = some (30, 5) := by kernel_rfl
@[simp] theorem fi165_7 : fInfo Tryd.prog 165 7 = some (35, 5) := by kernel_rfl
@[simp] theorem fi165_8 : fInfo Tryd.prog 165 8 = some (40, 5) := by kernel_rfl
@[simp] theorem fi165_9 : fInfo Tryd.prog 165 9 = some (45, 5) := by kernel_rfl
@[simp] theorem fi165_10 : fInfo Tryd.prog 165 10 = some (50, 5) := by kernel_rfl
@[simp] theorem fi165_11 : fInfo Tryd.prog 165 11 = some (55, 5) := by kernel_rfl
@[simp] theorem fi165_12 : fInfo Tryd.prog 165 12 = some (60, 5) := by kernel_rfl
@[simp] theorem fi165_13 : fInfo Tryd.prog 165 13 = some (65, 5) := by kernel_rfl
@[simp] theorem fi165_14 : fInfo Tryd.prog 165 14 = some (70, 5) := by kernel_rfl
end Fx
end Go.Proofs.YtgmlimipejcpgaaDoor
end

section
set_option linter.unusedVariables false
set_option linter.unusedSimpArgs false
namespace Go.AM
section
variable {P : Program} {ge : GEnv} {st : St} {Q : Exit → St → Prop} {ops : Array Oper}
variable {d : Option Tmp} {t : TypeId} {p : String} {af : Array Edge} {g : Option (Nat × Bool)}
theorem OpS_newVec {o : Oper} {T : TypeId} {xs : List (List V)} {len : Nat} (h0 : 0 < szOf P T) (hlen : len ≤ xs.length)
    (H : ∀ G a w, Rep P ge G st a w → ∃ (arr : Array Value) (cap : Nat), (execOp a.eval o).run P w = .ok (.value (.slice (some ⟨w.heap.size, 0, none⟩) len cap)) (w.alloc (.cells arr T)) ∧
      arr.size = cap * szOf P T ∧ xs.length ≤ cap ∧ cap ≤ maxLen ∧ RowR G w true (szOf P T) xs arr) :
    OpS P ge st o (.vec xs len) st.h := by
  intro G a w hr
  obtain ⟨arr, cap, h1, h2, h3, h4, h5, h6⟩ := H G a w hr
  have hle : ∀ j, G.fz j ≤ (if j = w.heap.size then arr.size else G.fz j) := fun j => by
    split
    · rename_i h; rw [h, hr.rh.fzlt _ (Nat.le_refl _)]; exact Nat.zero_le _
    · exact Nat.le_refl _
  have hh : (w.alloc (.cells arr T)).heap[w.heap.size]? = some (.cells arr T (0, 0)) := heap_alloc_new w _
  have kept : Kept G w (G.withFz fun j => if j = w.heap.size then arr.size else G.fz j) (w.alloc (.cells arr T)) := by
    refine ⟨.alloc w _, fun j hj => ?_, fun j hj => ?_⟩
    · show (if j = w.heap.size then arr.size else G.fz j) = G.fz j
      rw [if_neg (by omega)]
    · show (if j = w.heap.size then arr.size else G.fz j) = 0
      have hs : w.heap.size < (w.alloc (.cells arr T)).heap.size := by
        rcases Nat.lt_or_ge w.heap.size (w.alloc (.cells arr T)).heap.size with h | h
        · exact h
        · rw [Array.getElem?_eq_none h] at hh; cases hh
      rw [if_neg (by omega)]
      exact hr.rh.fzlt j (by omega)
  obtain ⟨rh, ext⟩ := kept.rh hr.rh
  have le := ext.le
  refine ⟨_, _, _, .inl h1, rh, ?_, ext⟩
  have hlt : ∀ (i : Nat) (x : List V) (j : Nat) (v : V), xs[i]? = some x → x[j]? = some v → i * szOf P T + j < arr.size := fun i x j v hx hv => by
    have k1 := h5 i x hx
    have k2 : i < xs.length := (List.getElem?_eq_some_iff.1 hx).1
    have k3 : j < x.length := (List.getElem?_eq_some_iff.1 hv).1
    have k4 : (i + 1) * szOf P T ≤ cap * szOf P T := Nat.mul_le_mul_right _ (by omega)
    rw [h2]; rw [Nat.add_mul] at k4; omega
  have hcd : ∀ (o : Nat), o < arr.size → (w.alloc (.cells arr T)).cell? ⟨w.heap.size, o, none⟩ = some (arr.getD o undef) := fun o ho => arr_cell hh ho
  have hd : ∀ (o : Nat), o < arr.size → cellD (w.alloc (.cells arr T)) w.heap.size o = arr.getD o undef := fun o ho => by unfold cellD; rw [hcd o ho]; rfl
  refine R.vec (sz := szOf P T) hlen h3 h4 h5 (fun i x j v hx hv => ?_) (fun i x j v hx hv => ?_) (fun i x j v hx hv => ?_)
  · have := hlt i x j v hx hv
    rw [Nat.zero_add]
    refine ⟨by rw [hcd _ this]; rfl, ?_⟩
    show _ < if w.heap.size = w.heap.size then arr.size else G.fz w.heap.size
    rw [if_pos rfl]; exact this
  · rw [Nat.zero_add, hd _ (hlt i x j v hx hv)]; exact (h6 i x j v hx hv).1
  · rw [Nat.zero_add, hd _ (hlt i x j v hx hv)]
    exact ((h6 i x j v hx hv).2).monoT le.fz (fun k o ho => le.cells k o ho) rfl
theorem S_buildVec {T e : TypeId} {len : Nat} {parts : Array (Nat × Operand)} {zs : List V} (hu : P.underlying T = some (.slice e)) (hz : zeroOf P e = some zs) (hsz : szOf P e = zs.length) (h0 : 0 < zs.length) (hl0 : 0 < len) (hl : len * zs.length ≤ 16777216)
    (hok : rowsOk zs.length len (parts.toList.map fun x => (x.1, ev ge st.tm x.2)) = true) (hf : partsF (parts.toList.map fun x => (x.1, ev ge st.tm x.2)) = true) :
    OpS P ge st ⟨d, .buildSlice T len parts, t, p, af, g⟩ (.vec (rowsV (List.replicate len zs) (parts.toList.map fun x => (x.1, ev ge st.tm x.2))) len) st.h := by
  have hlen : ∀ (ps : List (Nat × V)) (xs : List (List V)), (rowsV xs ps).length = xs.length := by
    intro ps
    induction ps with
    | nil => intro xs; rfl
    | cons a r ih => intro xs; simp only [rowsV]; rw [ih, List.length_set]
  refine OpS_newVec (T := e) (by omega) (by rw [hlen]; simp) fun G a w hr => ?_
  obtain ⟨z, h1, _, h2, _, h3⟩ := run_zeroValue hz
  have hrow := RowR_zeros (G := G) (w := w) (T := e) h2 h3 len true
  obtain ⟨arr', e1, e2, e3⟩ := fillRows (fun x => hr.ev x) parts.toList _ _ hrow (by simp [h2]) (by simpa using hok) (fun _ => hf)
  have hpm : (parts.map fun (x : Nat × Operand) => (x.1, a.eval x.2)).toList = parts.toList.map fun x => (x.1, a.eval x.2) := by simp
  have h24 : ¬ (len * zs.length > 2 ^ 24) := by omega
  refine ⟨arr', len, ?_, by rw [e2, hsz]; simp, by rw [hlen]; simp, ?_, by rw [hsz]; exact e3⟩
  · simp only [execOp, Instr.buildSlice, Sem.run_bind, run_underlying hu, Result.andThen_ok, run_sizeOf hsz h0, h24, if_false]
    have hzero : ¬ len * zs.length = 0 := by
      intro q; rcases Nat.mul_eq_zero.1 q with q | q <;> omega
    have e1' : Instr.fill (fun i => some (i * zs.length, zs.length)) ((Array.range (len * zs.length)).map fun k => z.cells[k % z.cells.size]!) (parts.map fun (x : Nat × Operand) => (x.1, a.eval x.2)).toList = some arr' := by
      rw [hpm, ← h2]; rw [← h2] at e1; exact e1
    simp only [hzero, if_false, Sem.run_bind, h1, Result.andThen_ok, Sem.run_pure, e1']
    simp [newRow]
  · have : len ≤ len * zs.length := Nat.le_mul_of_pos_right _ h0
    unfold maxLen; omega
def bsOk (P : Program) (ge : GEnv) (st : St) (T : TypeId) (len : Nat) (parts : Array (Nat × Operand)) : Prop :=
  isSliceT P T = true ∧ (zeroOf P (elemOf P T)).isSome = true ∧ szOf P (elemOf P T) = (zeroD P (elemOf P T)).length ∧ 0 < (zeroD P (elemOf P T)).length ∧ 0 < len ∧ len * (zeroD P (elemOf P T)).length ≤ 16777216 ∧
    rowsOk (zeroD P (elemOf P T)).length len (partsV ge st.tm parts.toList) = true ∧ partsF (partsV ge st.tm parts.toList) = true
theorem S_bsOk {T : TypeId} {len : Nat} {parts : Array (Nat × Operand)} (h : bsOk P ge st T len parts) :
    OpS P ge st ⟨d, .buildSlice T len parts, t, p, af, g⟩ (.vec (rowsV (List.replicate len (zeroD P (elemOf P T))) (partsV ge st.tm parts.toList)) len) st.h := by
  obtain ⟨h1, h2, h3, h4, h5, h6, h7, h8⟩ := h
  obtain ⟨e, hu, _⟩ := isSliceT_spec h1
  have he : elemOf P T = e := by unfold elemOf; rw [hu]
  rw [he] at h2 h3 h4 h6 h7 ⊢
  rw [partsV_eq] at h7 h8 ⊢
  exact S_buildVec hu (getD_some h2) h3 h4 h5 h6 h7 h8
end
attribute [simp] bsOk
end Go.AM
end
