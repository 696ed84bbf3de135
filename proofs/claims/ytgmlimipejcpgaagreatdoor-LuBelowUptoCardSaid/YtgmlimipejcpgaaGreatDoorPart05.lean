/-
  YtgmlimipejcpgaaGreatDoorPart05: steps of the proof of a law of the program: what these texts prove holds under the hypotheses that their theorems name, and no others.
-/
import Derived.Test.YtgmlimipejcpgaaGreatDoorProg
import Derived.Test.YtgmlimipejcpgaaGreatDoorPart04
import Derived.KernelRfl
section
set_option maxRecDepth 100000
namespace Go.Proofs.YtgmlimipejcpgaaGreatDoor
open Go.AM
namespace Fx
@[simp] theorem sz1 : szOf Tryz.prog 1 = 1 := by kernel_rfl
@[simp] theorem iu1 : (Tryz.prog.underlying 1).isSome = true := by kernel_rfl
@[simp] theorem ia1 : isAggT Tryz.prog 1 = false := by kernel_rfl
@[simp] theorem iu2 : (Tryz.prog.underlying 2).isSome = true := by kernel_rfl
@[simp] theorem sz2 : szOf Tryz.prog 2 = 1 := by kernel_rfl
@[simp] theorem by2 : bytesOf Tryz.prog 2 = 8 := by kernel_rfl
@[simp] theorem zo2 : (zeroOf Tryz.prog 2).isSome = true := by kernel_rfl
@[simp] theorem zd2 : zeroD Tryz.prog 2 = [(.int .i64 0)] := by kernel_rfl
@[simp] theorem ia2 : isAggT Tryz.prog 2 = false := by kernel_rfl
@[simp] theorem ik2 : intKindT Tryz.prog 2 = some .i64 := by kernel_rfl
@[simp] theorem iu3 : (Tryz.prog.underlying 3).isSome = true := by kernel_rfl
@[simp] theorem sz3 : szOf Tryz.prog 3 = 1 := by kernel_rfl
@[simp] theorem by3 : bytesOf Tryz.prog 3 = 8 := by kernel_rfl
@[simp] theorem zo3 : (zeroOf Tryz.prog 3).isSome = true := by kernel_rfl
@[simp] theorem zd3 : zeroD Tryz.prog 3 = [(.int .i64 0)] := by kernel_rfl
@[simp] theorem ia3 : isAggT Tryz.prog 3 = false := by kernel_rfl
@[simp] theorem ik3 : intKindT Tryz.prog 3 = some .i64 := by kernel_rfl
@[simp] theorem iu4 : (Tryz.prog.underlying 4).isSome = true := by kernel_rfl
@[simp] theorem sz4 : szOf Tryz.prog 4 = 1 := by kernel_rfl
@[simp] theorem by4 : bytesOf Tryz.prog 4 = 1 := by kernel_rfl
@[simp] theorem zo4 : (zeroOf Tryz.prog 4).isSome = true := by kernel_rfl
@[simp] theorem zd4 : zeroD Tryz.prog 4 = [(.bool false)] := by kernel_rfl
@[simp] theorem ia4 : isAggT Tryz.prog 4 = false := by kernel_rfl
@[simp] theorem ib4 : isBoolT Tryz.prog 4 = true := by kernel_rfl
@[simp] theorem iu5 : (Tryz.prog.underlying 5).isSome = true := by kernel_rfl
@[simp] theorem sz5 : szOf Tryz.prog 5 = 1 := by kernel_rfl
@[simp] theorem by5 : bytesOf Tryz.prog 5 = 1 := by kernel_rfl
@[simp] theorem zo5 : (zeroOf Tryz.prog 5).isSome = true := by kernel_rfl
@[simp] theorem zd5 : zeroD Tryz.prog 5 = [(.int .u8 0)] := by kernel_rfl
@[simp] theorem ia5 : isAggT Tryz.prog 5 = false := by kernel_rfl
@[simp] theorem ik5 : intKindT Tryz.prog 5 = some .u8 := by kernel_rfl
@[simp] theorem iu6 : (Tryz.prog.underlying 6).isSome = true := by kernel_rfl
@[simp] theorem sz6 : szOf Tryz.prog 6 = 1 := by kernel_rfl
@[simp] theorem by6 : bytesOf Tryz.prog 6 = 1 := by kernel_rfl
@[simp] theorem zo6 : (zeroOf Tryz.prog 6).isSome = true := by kernel_rfl
@[simp] theorem zd6 : zeroD Tryz.prog 6 = [(.int .u8 0)] := by kernel_rfl
@[simp] theorem ia6 : isAggT Tryz.prog 6 = false := by kernel_rfl
@[simp] theorem ik6 : intKindT Tryz.prog 6 = some .u8 := by kernel_rfl
@[simp] theorem iu7 : (Tryz.prog.underlying 7).isSome = true := by kernel_rfl
@[simp] theorem sz7 : szOf Tryz.prog 7 = 4 := by kernel_rfl
@[simp] theorem by7 : bytesOf Tryz.prog 7 = 24 := by kernel_rfl
@[simp] theorem zo7 : (zeroOf Tryz.prog 7).isSome = true := by kernel_rfl
@[simp] theorem zd7 : zeroD Tryz.prog 7 = [(.int .i64 0), (.int .i64 0), (.bool false), (.int .u8 0)] := by kernel_rfl
@[simp] theorem ia7 : isAggT Tryz.prog 7 = true := by kernel_rfl
@[simp] theorem ss7 : isStructT Tryz.prog 7 = true := by kernel_rfl
@[simp] theorem fk7 : fldOk Tryz.prog 7 = true := by kernel_rfl
@[simp] theorem fo7_0 : fieldOff Tryz.prog 7 0 = some 0 := by kernel_rfl
@[simp] theorem fo7_1 : fieldOff Tryz.prog 7 1 = some 1 := by kernel_rfl
@[simp] theorem fo7_2 : fieldOff Tryz.prog 7 2 = some 2 := by kernel_rfl
@[simp] theorem fo7_3 : fieldOff Tryz.prog 7 3 = some 3 := by kernel_rfl
@[simp] theorem fi7_0 : fInfo Tryz.prog 7 0 = some (0, 1) := by kernel_rfl
@[simp] theorem fi7_1 : fInfo Tryz.prog 7 1 = some (1, 1) := by kernel_rfl
@[simp] theorem fi7_2 : fInfo Tryz.prog 7 2 = some (2, 1) := by kernel_rfl
@[simp] theorem fi7_3 : fInfo Tryz.prog 7 3 = some (3, 1) := by kernel_rfl
@[simp] theorem iu8 : (Tryz.prog.underlying 8).isSome = true := by kernel_rfl
@[simp] theorem sz8 : szOf Tryz.prog 8 = 4 := by kernel_rfl
@[simp] theorem by8 : bytesOf Tryz.prog 8 = 24 := by kernel_rfl
@[simp] theorem zo8 : (zeroOf Tryz.prog 8).isSome = true := by kernel_rfl
@[simp] theorem zd8 : zeroD Tryz.prog 8 = [(.int .i64 0), (.int .i64 0), (.bool false), (.int .u8 0)] := by kernel_rfl
@[simp] theorem ia8 : isAggT Tryz.prog 8 = true := by kernel_rfl
@[simp] theorem ss8 : isStructT Tryz.prog 8 = true := by kernel_rfl
@[simp] theorem fk8 : fldOk Tryz.prog 8 = true := by kernel_rfl
@[simp] theorem fo8_0 : fieldOff Tryz.prog 8 0 = some 0 := by kernel_rfl
@[simp] theorem fo8_1 : fieldOff Tryz.prog 8 1 = some 1 := by kernel_rfl
@[simp] theorem fo8_2 : fieldOff Tryz.prog 8 2 = some 2 := by kernel_rfl
@[simp] theorem fo8_3 : fieldOff Tryz.prog 8 3 = some 3 := by kernel_rfl
@[simp] theorem fi8_0 : fInfo Tryz.prog 8 0 = some (0, 1) := by kernel_rfl
@[simp] theorem fi8_1 : fInfo Tryz.prog 8 1 = some (1, 1) := by kernel_rfl
@[simp] theorem fi8_2 : fInfo Tryz.prog 8 2 = some (2, 1) := by kernel_rfl
@[simp] theorem fi8_3 : fInfo Tryz.prog 8 3 = some (3, 1) := by kernel_rfl
@[simp] theorem iu9 : (Tryz.prog.underlying 9).isSome = true := by kernel_rfl
@[simp] theorem sz9 : szOf Tryz.prog 9 = 1 := by kernel_rfl
@[simp] theorem by9 : bytesOf Tryz.prog 9 = 16 := by kernel_rfl
@[simp] theorem zo9 : (zeroOf Tryz.prog 9).isSome = true := by kernel_rfl
@[simp] theorem zd9 : zeroD Tryz.prog 9 = [(.str ⟨#[]⟩)] := by kernel_rfl
@[simp] theorem ia9 : isAggT Tryz.prog 9 = false := by kernel_rfl
@[simp] theorem st9 : isStrT Tryz.prog 9 = true := by kernel_rfl
@[simp] theorem iu10 : (Tryz.prog.underlying 10).isSome = true := by kernel_rfl
@[simp] theorem sz10 : szOf Tryz.prog 10 = 1 := by kernel_rfl
@[simp] theorem by10 : bytesOf Tryz.prog 10 = 16 := by kernel_rfl
@[simp] theorem zo10 : (zeroOf Tryz.prog 10).isSome = true := by kernel_rfl
@[simp] theorem zd10 : zeroD Tryz.prog 10 = [(.str ⟨#[]⟩)] := by kernel_rfl
@[simp] theorem ia10 : isAggT Tryz.prog 10 = false := by kernel_rfl
@[simp] theorem st10 : isStrT Tryz.prog 10 = true := by kernel_rfl
@[simp] theorem iu11 : (Tryz.prog.underlying 11).isSome = true := by kernel_rfl
@[simp] theorem sz11 : szOf Tryz.prog 11 = 1 := by kernel_rfl
@[simp] theorem by11 : bytesOf Tryz.prog 11 = 16 := by kernel_rfl
@[simp] theorem zo11 : (zeroOf Tryz.prog 11).isSome = true := by kernel_rfl
@[simp] theorem zd11 : zeroD Tryz.prog 11 = [(.str ⟨#[]⟩)] := by kernel_rfl
@[simp] theorem ia11 : isAggT Tryz.prog 11 = false := by kernel_rfl
@[simp] theorem st11 : isStrT Tryz.prog 11 = true := by kernel_rfl
@[simp] theorem iu12 : (Tryz.prog.underlying 12).isSome = true := by kernel_rfl
@[simp] theorem sz12 : szOf Tryz.prog 12 = 1 := by kernel_rfl
@[simp] theorem by12 : bytesOf Tryz.prog 12 = 8 := by kernel_rfl
@[simp] theorem zo12 : (zeroOf Tryz.prog 12).isSome = true := by kernel_rfl
@[simp] theorem zd12 : zeroD Tryz.prog 12 = [(.int .u64 0)] := by kernel_rfl
@[simp] theorem ia12 : isAggT Tryz.prog 12 = false := by kernel_rfl
@[simp] theorem ik12 : intKindT Tryz.prog 12 = some .u64 := by kernel_rfl
@[simp] theorem iu13 : (Tryz.prog.underlying 13).isSome = true := by kernel_rfl
@[simp] theorem sz13 : szOf Tryz.prog 13 = 2 := by kernel_rfl
@[simp] theorem by13 : bytesOf Tryz.prog 13 = 24 := by kernel_rfl
@[simp] theorem zo13 : (zeroOf Tryz.prog 13).isSome = true := by kernel_rfl
@[simp] theorem zd13 : zeroD Tryz.prog 13 = [(.str ⟨#[]⟩), (.int .u64 0)] := by kernel_rfl
@[simp] theorem ia13 : isAggT Tryz.prog 13 = true := by kernel_rfl
@[simp] theorem ss13 : isStructT Tryz.prog 13 = true := by kernel_rfl
@[simp] theorem fk13 : fldOk Tryz.prog 13 = true := by kernel_rfl
@[simp] theorem fo13_0 : fieldOff Tryz.prog 13 0 = some 0 := by kernel_rfl
@[simp] theorem fo13_1 : fieldOff Tryz.prog 13 1 = some 1 := by kernel_rfl
@[simp] theorem fi13_0 : fInfo Tryz.prog 13 0 = some (0, 1) := by kernel_rfl
@[simp] theorem fi13_1 : fInfo Tryz.prog 13 1 = some (1, 1) := by kernel_rfl
@[simp] theorem iu14 : (Tryz.prog.underlying 14).isSome = true := by kernel_rfl
@[simp] theorem sz14 : szOf Tryz.prog 14 = 2 := by kernel_rfl
@[simp] theorem by14 : bytesOf Tryz.prog 14 = 24 := by kernel_rfl
@[simp] theorem zo14 : (zeroOf Tryz.prog 14).isSome = true := by kernel_rfl
@[simp] theorem zd14 : zeroD Tryz.prog 14 = [(.str ⟨#[]⟩), (.int .u64 0)] := by kernel_rfl
@[simp] theorem ia14 : isAggT Tryz.prog 14 = true := by kernel_rfl
@[simp] theorem ss14 : isStructT Tryz.prog 14 = true := by kernel_rfl
@[simp] theorem fk14 : fldOk Tryz.prog 14 = true := by kernel_rfl
@[simp] theorem fo14_0 : fieldOff Tryz.prog 14 0 = some 0 := by kernel_rfl
@[simp] theorem fo14_1 : fieldOff Tryz.prog 14 1 = some 1 := by kernel_rfl
@[simp] theorem fi14_0 : fInfo Tryz.prog 14 0 = some (0, 1) := by kernel_rfl
@[simp] theorem fi14_1 : fInfo Tryz.prog 14 1 = some (1, 1) := by kernel_rfl
@[simp] theorem iu22 : (Tryz.prog.underlying 22).isSome = true := by kernel_rfl
@[simp] theorem sz22 : szOf Tryz.prog 22 = 1 := by kernel_rfl
@[simp] theorem by22 : bytesOf Tryz.prog 22 = 24 := by kernel_rfl
@[simp] theorem zo22 : (zeroOf Tryz.prog 22).isSome = true := by kernel_rfl
@[simp] theorem zd22 : zeroD Tryz.prog 22 = [.nils] := by kernel_rfl
@[simp] theorem ia22 : isAggT Tryz.prog 22 = false := by kernel_rfl
@[simp] theorem is22 : isSliceT Tryz.prog 22 = true := by kernel_rfl
@[simp] theorem el22 : Go.AM.elemOf Tryz.prog 22 = 9 := by kernel_rfl
@[simp] theorem es22 : elemSz Tryz.prog 22 = 1 := by kernel_rfl
@[simp] theorem iu23 : (Tryz.prog.underlying 23).isSome = true := by kernel_rfl
@[simp] theorem sz23 : szOf Tryz.prog 23 = 1 := by kernel_rfl
@[simp] theorem by23 : bytesOf Tryz.prog 23 = 24 := by kernel_rfl
@[simp] theorem zo23 : (zeroOf Tryz.prog 23).isSome = true := by kernel_rfl
@[simp] theorem zd23 : zeroD Tryz.prog 23 = [.nils] := by kernel_rfl
@[simp] theorem ia23 : isAggT Tryz.prog 23 = false := by kernel_rfl
@[simp] theorem is23 : isSliceT Tryz.prog 23 = true := by kernel_rfl
@[simp] theorem el23 : Go.AM.elemOf Tryz.prog 23 = 167 := by kernel_rfl
@[simp] theorem es23 : elemSz Tryz.prog 23 = 4 := by kernel_rfl
@[simp] theorem iu24 : (Tryz.prog.underlying 24).isSome = true := by kernel_rfl
@[simp] theorem sz24 : szOf Tryz.prog 24 = 1 := by kernel_rfl
@[simp] theorem by24 : bytesOf Tryz.prog 24 = 24 := by kernel_rfl
@[simp] theorem zo24 : (zeroOf Tryz.prog 24).isSome = true := by kernel_rfl
@[simp] theorem zd24 : zeroD Tryz.prog 24 = [.nils] := by kernel_rfl
@[simp] theorem ia24 : isAggT Tryz.prog 24 = false := by kernel_rfl
@[simp] theorem is24 : isSliceT Tryz.prog 24 = true := by kernel_rfl
@[simp] theorem el24 : Go.AM.elemOf Tryz.prog 24 = 104 := by kernel_rfl
@[simp] theorem es24 : elemSz Tryz.prog 24 = 3 := by kernel_rfl
@[simp] theorem iu25 : (Tryz.prog.underlying 25).isSome = true := by kernel_rfl
@[simp] theorem sz25 : szOf Tryz.prog 25 = 4 := by kernel_rfl
@[simp] theorem by25 : bytesOf Tryz.prog 25 = 96 := by kernel_rfl
@[simp] theorem zo25 : (zeroOf Tryz.prog 25).isSome = true := by kernel_rfl
@[simp] theorem zd25 : zeroD Tryz.prog 25 = [.nils, .nils, .nils, .nils] := by kernel_rfl
@[simp] theorem ia25 : isAggT Tryz.prog 25 = true := by kernel_rfl
@[simp] theorem ss25 : isStructT Tryz.prog 25 = true := by kernel_rfl
@[simp] theorem fk25 : fldOk Tryz.prog 25 = true := by kernel_rfl
@[simp] theorem fo25_0 : fieldOff Tryz.prog 25 0 = some 0 := by kernel_rfl
@[simp] theorem fo25_1 : fieldOff Tryz.prog 25 1 = some 1 := by kernel_rfl
@[simp] theorem fo25_2 : fieldOff Tryz.prog 25 2 = some 2 := by kernel_rfl
@[simp] theorem fo25_3 : fieldOff Tryz.prog 25 3 = some 3 := by kernel_rfl
@[simp] theorem fi25_0 : fInfo Tryz.prog 25 0 = some (0, 1) := by kernel_rfl
@[simp] theorem fi25_1 : fInfo Tryz.prog 25 1 = some (1, 1) := by kernel_rfl
@[simp] theorem fi25_2 : fInfo Tryz.prog 25 2 = some (2, 1) := by kernel_rfl
@[simp] theorem fi25_3 : fInfo Tryz.prog 25 3 = some (3, 1) := by kernel_rfl
@[simp] theorem iu26 : (Tryz.prog.underlying 26).isSome = true := by kernel_rfl
@[simp] theorem sz26 : szOf Tryz.prog 26 = 4 := by kernel_rfl
@[simp] theorem by26 : bytesOf Tryz.prog 26 = 96 := by kernel_rfl
@[simp] theorem zo26 : (zeroOf Tryz.prog 26).isSome = true := by kernel_rfl
@[simp] theorem zd26 : zeroD Tryz.prog 26 = [.nils, .nils, .nils, .nils] := by kernel_rfl
@[simp] theorem ia26 : isAggT Tryz.prog 26 = true := by kernel_rfl
@[simp] theorem ss26 : isStructT Tryz.prog 26 = true := by kernel_rfl
@[simp] theorem fk26 : fldOk Tryz.prog 26 = true := by kernel_rfl
@[simp] theorem fo26_0 : fieldOff Tryz.prog 26 0 = some 0 := by kernel_rfl
@[simp] theorem fo26_1 : fieldOff Tryz.prog 26 1 = some 1 := by kernel_rfl
@[simp] theorem fo26_2 : fieldOff Tryz.prog 26 2 = some 2 := by kernel_rfl
@[simp] theorem fo26_3 : fieldOff Tryz.prog 26 3 = some 3 := by kernel_rfl
@[simp] theorem fi26_0 : fInfo Tryz.prog 26 0 = some (0, 1) := by kernel_rfl
@[simp] theorem fi26_1 : fInfo Tryz.prog 26 1 = some (1, 1) := by kernel_rfl
@[simp] theorem fi26_2 : fInfo Tryz.prog 26 2 = some (2, 1) := by kernel_rfl
@[simp] theorem fi26_3 : fInfo Tryz.prog 26 3 = some (3, 1) := by kernel_rfl
@[simp] theorem iu28 : (Tryz.prog.underlying 28).isSome = true := by kernel_rfl
@[simp] theorem sz28 : szOf Tryz.prog 28 = 3 := by kernel_rfl
@[simp] theorem by28 : bytesOf Tryz.prog 28 = 24 := by kernel_rfl
@[simp] theorem zo28 : (zeroOf Tryz.prog 28).isSome = true := by kernel_rfl
@[simp] theorem zd28 : zeroD Tryz.prog 28 = [(.int .i64 0), (.int .i64 0), (.int .i64 0)] := by kernel_rfl
@[simp] theorem ia28 : isAggT Tryz.prog 28 = true := by kernel_rfl
@[simp] theorem ss28 : isStructT Tryz.prog 28 = true := by kernel_rfl
@[simp] theorem fk28 : fldOk Tryz.prog 28 = true := by kernel_rfl
@[simp] theorem eqk28 : eqKinds Tryz.prog 28 = some [.int, .int, .int] := by kernel_rfl
@[simp] theorem fo28_0 : fieldOff Tryz.prog 28 0 = some 0 := by kernel_rfl
@[simp] theorem fo28_1 : fieldOff Tryz.prog 28 1 = some 1 := by kernel_rfl
@[simp] theorem fo28_2 : fieldOff Tryz.prog 28 2 = some 2 := by kernel_rfl
@[simp] theorem fi28_0 : fInfo Tryz.prog 28 0 = some (0, 1) := by kernel_rfl
@[simp] theorem fi28_1 : fInfo Tryz.prog 28 1 = some (1, 1) := by kernel_rfl
@[simp] theorem fi28_2 : fInfo Tryz.prog 28 2 = some (2, 1) := by kernel_rfl
@[simp] theorem iu29 : (Tryz.prog.underlying 29).isSome = true := by kernel_rfl
@[simp] theorem sz29 : szOf Tryz.prog 29 = 3 := by kernel_rfl
@[simp] theorem by29 : bytesOf Tryz.prog 29 = 24 := by kernel_rfl
@[simp] theorem zo29 : (zeroOf Tryz.prog 29).isSome = true := by kernel_rfl
@[simp] theorem zd29 : zeroD Tryz.prog 29 = [(.int .i64 0), (.int .i64 0), (.int .i64 0)] := by kernel_rfl
@[simp] theorem ia29 : isAggT Tryz.prog 29 = true := by kernel_rfl
@[simp] theorem ss29 : isStructT Tryz.prog 29 = true := by kernel_rfl
@[simp] theorem fk29 : fldOk Tryz.prog 29 = true := by kernel_rfl
@[simp] theorem eqk29 : eqKinds Tryz.prog 29 = some [.int, .int, .int] := by kernel_rfl
@[simp] theorem fo29_0 : fieldOff Tryz.prog 29 0 = some 0 := by kernel_rfl
@[simp] theorem fo29_1 : fieldOff Tryz.prog 29 1 = some 1 := by kernel_rfl
@[simp] theorem fo29_2 : fieldOff Tryz.prog 29 2 = some 2 := by kernel_rfl
@[simp] theorem fi29_0 : fInfo Tryz.prog 29 0 = some (0, 1) := by kernel_rfl
@[simp] theorem fi29_1 : fInfo Tryz.prog 29 1 = some (1, 1) := by kernel_rfl
@[simp] theorem fi29_2 : fInfo Tryz.prog 29 2 = some (2, 1) := by kernel_rfl
@[simp] theorem iu30 : (Tryz.prog.underlying 30).isSome = true := by kernel_rfl
@[simp] theorem sz30 : szOf Tryz.prog 30 = 1 := by kernel_rfl
@[simp] theorem by30 : bytesOf Tryz.prog 30 = 8 := by kernel_rfl
@[simp] theorem zo30 : (zeroOf Tryz.prog 30).isSome = true := by kernel_rfl
@[simp] theorem zd30 : zeroD Tryz.prog 30 = [(.int .i64 0)] := by kernel_rfl
@[simp] theorem ia30 : isAggT Tryz.prog 30 = false := by kernel_rfl
@[simp] theorem ik30 : intKindT Tryz.prog 30 = some .i64 := by kernel_rfl
@[simp] theorem sz37 : szOf Tryz.prog 37 = 1 := by kernel_rfl
@[simp] theorem iu37 : (Tryz.prog.underlying 37).isSome = true := by kernel_rfl
@[simp] theorem ia37 : isAggT Tryz.prog 37 = false := by kernel_rfl
@[simp] theorem iu40 : (Tryz.prog.underlying 40).isSome = true := by kernel_rfl
@[simp] theorem sz40 : szOf Tryz.prog 40 = 1 := by kernel_rfl
@[simp] theorem by40 : bytesOf Tryz.prog 40 = 24 := by kernel_rfl
@[simp] theorem zo40 : (zeroOf Tryz.prog 40).isSome = true := by kernel_rfl
@[simp] theorem zd40 : zeroD Tryz.prog 40 = [.nils] := by kernel_rfl
@[simp] theorem ia40 : isAggT Tryz.prog 40 = false := by kernel_rfl
@[simp] theorem is40 : isSliceT Tryz.prog 40 = true := by kernel_rfl
@[simp] theorem el40 : Go.AM.elemOf Tryz.prog 40 = 130 := by kernel_rfl
@[simp] theorem es40 : elemSz Tryz.prog 40 = 3 := by kernel_rfl
@[simp] theorem iu41 : (Tryz.prog.underlying 41).isSome = true := by kernel_rfl
@[simp] theorem sz41 : szOf Tryz.prog 41 = 1 := by kernel_rfl
@[simp] theorem by41 : bytesOf Tryz.prog 41 = 24 := by kernel_rfl
@[simp] theorem zo41 : (zeroOf Tryz.prog 41).isSome = true := by kernel_rfl
@[simp] theorem zd41 : zeroD Tryz.prog 41 = [.nils] := by kernel_rfl
@[simp] theorem ia41 : isAggT Tryz.prog 41 = false := by kernel_rfl
@[simp] theorem is41 : isSliceT Tryz.prog 41 = true := by kernel_rfl
@[simp] theorem el41 : Go.AM.elemOf Tryz.prog 41 = 130 := by kernel_rfl
@[simp] theorem es41 : elemSz Tryz.prog 41 = 3 := by kernel_rfl
@[simp] theorem iu46 : (Tryz.prog.underlying 46).isSome = true := by kernel_rfl
@[simp] theorem sz46 : szOf Tryz.prog 46 = 1 := by kernel_rfl
@[simp] theorem by46 : bytesOf Tryz.prog 46 = 24 := by kernel_rfl
@[simp] theorem zo46 : (zeroOf Tryz.prog 46).isSome = true := by kernel_rfl
@[simp] theorem zd46 : zeroD Tryz.prog 46 = [.nils] := by kernel_rfl
@[simp] theorem ia46 : isAggT Tryz.prog 46 = false := by kernel_rfl
@[simp] theorem is46 : isSliceT Tryz.prog 46 = true := by kernel_rfl
@[simp] theorem el46 : Go.AM.elemOf Tryz.prog 46 = 41 := by kernel_rfl
@[simp] theorem es46 : elemSz Tryz.prog 46 = 1 := by kernel_rfl
@[simp] theorem iu47 : (Tryz.prog.underlying 47).isSome = true := by kernel_rfl
@[simp] theorem sz47 : szOf Tryz.prog 47 = 1 := by kernel_rfl
@[simp] theorem by47 : bytesOf Tryz.prog 47 = 24 := by kernel_rfl
@[simp] theorem zo47 : (zeroOf Tryz.prog 47).isSome = true := by kernel_rfl
@[simp] theorem zd47 : zeroD Tryz.prog 47 = [.nils] := by kernel_rfl
@[simp] theorem ia47 : isAggT Tryz.prog 47 = false := by kernel_rfl
@[simp] theorem is47 : isSliceT Tryz.prog 47 = true := by kernel_rfl
@[simp] theorem el47 : Go.AM.elemOf Tryz.prog 47 = 3 := by kernel_rfl
@[simp] theorem es47 : elemSz Tryz.prog 47 = 1 := by kernel_rfl
@[simp] theorem iu53 : (Tryz.prog.underlying 53).isSome = true := by kernel_rfl
@[simp] theorem sz53 : szOf Tryz.prog 53 = 1 := by kernel_rfl
@[simp] theorem by53 : bytesOf Tryz.prog 53 = 24 := by kernel_rfl
@[simp] theorem zo53 : (zeroOf Tryz.prog 53).isSome = true := by kernel_rfl
@[simp] theorem zd53 : zeroD Tryz.prog 53 = [.nils] := by kernel_rfl
@[simp] theorem ia53 : isAggT Tryz.prog 53 = false := by kernel_rfl
@[simp] theorem is53 : isSliceT Tryz.prog 53 = true := by kernel_rfl
@[simp] theorem el53 : Go.AM.elemOf Tryz.prog 53 = 22 := by kernel_rfl
@[simp] theorem es53 : elemSz Tryz.prog 53 = 1 := by kernel_rfl
@[simp] theorem iu54 : (Tryz.prog.underlying 54).isSome = true := by kernel_rfl
@[simp] theorem sz54 : szOf Tryz.prog 54 = 1 := by kernel_rfl
@[simp] theorem by54 : bytesOf Tryz.prog 54 = 24 := by kernel_rfl
@[simp] theorem zo54 : (zeroOf Tryz.prog 54).isSome = true := by kernel_rfl
@[simp] theorem zd54 : zeroD Tryz.prog 54 = [.nils] := by kernel_rfl
@[simp] theorem ia54 : isAggT Tryz.prog 54 = false := by kernel_rfl
@[simp] theorem is54 : isSliceT Tryz.prog 54 = true := by kernel_rfl
@[simp] theorem el54 : Go.AM.elemOf Tryz.prog 54 = 47 := by kernel_rfl
@[simp] theorem es54 : elemSz Tryz.prog 54 = 1 := by kernel_rfl
@[simp] theorem iu65 : (Tryz.prog.underlying 65).isSome = true := by kernel_rfl
@[simp] theorem sz65 : szOf Tryz.prog 65 = 1 := by kernel_rfl
@[simp] theorem by65 : bytesOf Tryz.prog 65 = 24 := by kernel_rfl
@[simp] theorem zo65 : (zeroOf Tryz.prog 65).isSome = true := by kernel_rfl
@[simp] theorem zd65 : zeroD Tryz.prog 65 = [.nils] := by kernel_rfl
@[simp] theorem ia65 : isAggT Tryz.prog 65 = false := by kernel_rfl
@[simp] theorem is65 : isSliceT Tryz.prog 65 = true := by kernel_rfl
@[simp] theorem el65 : Go.AM.elemOf Tryz.prog 65 = 144 := by kernel_rfl
@[simp] theorem es65 : elemSz Tryz.prog 65 = 1 := by kernel_rfl
@[simp] theorem iu70 : (Tryz.prog.underlying 70).isSome = true := by kernel_rfl
@[simp] theorem sz70 : szOf Tryz.prog 70 = 2 := by kernel_rfl
@[simp] theorem by70 : bytesOf Tryz.prog 70 = 16 := by kernel_rfl
@[simp] theorem zo70 : (zeroOf Tryz.prog 70).isSome = true := by kernel_rfl
@[simp] theorem zd70 : zeroD Tryz.prog 70 = [(.int .i64 0), (.int .i64 0)] := by kernel_rfl
@[simp] theorem ia70 : isAggT Tryz.prog 70 = true := by kernel_rfl
@[simp] theorem ss70 : isStructT Tryz.prog 70 = true := by kernel_rfl
@[simp] theorem fk70 : fldOk Tryz.prog 70 = true := by kernel_rfl
@[simp] theorem eqk70 : eqKinds Tryz.prog 70 = some [.int, .int] := by kernel_rfl
@[simp] theorem fo70_0 : fieldOff Tryz.prog 70 0 = some 0 := by kernel_rfl
@[simp] theorem fo70_1 : fieldOff Tryz.prog 70 1 = some 1 := by kernel_rfl
@[simp] theorem fi70_0 : fInfo Tryz.prog 70 0 = some (0, 1) := by kernel_rfl
@[simp] theorem fi70_1 : fInfo Tryz.prog 70 1 = some (1, 1) := by kernel_rfl
@[simp] theorem iu80 : (Tryz.prog.underlying 80).isSome = true := by kernel_rfl
@[simp] theorem sz80 : szOf Tryz.prog 80 = 1 := by kernel_rfl
@[simp] theorem by80 : bytesOf Tryz.prog 80 = 24 := by kernel_rfl
@[simp] theorem zo80 : (zeroOf Tryz.prog 80).isSome = true := by kernel_rfl
@[simp] theorem zd80 : zeroD Tryz.prog 80 = [.nils] := by kernel_rfl
@[simp] theorem ia80 : isAggT Tryz.prog 80 = false := by kernel_rfl
@[simp] theorem is80 : isSliceT Tryz.prog 80 = true := by kernel_rfl
@[simp] theorem el80 : Go.AM.elemOf Tryz.prog 80 = 54 := by kernel_rfl
@[simp] theorem es80 : elemSz Tryz.prog 80 = 1 := by kernel_rfl
@[simp] theorem iu81 : (Tryz.prog.underlying 81).isSome = true := by kernel_rfl
@[simp] theorem sz81 : szOf Tryz.prog 81 = 2 := by kernel_rfl
@[simp] theorem by81 : bytesOf Tryz.prog 81 = 48 := by kernel_rfl
@[simp] theorem zo81 : (zeroOf Tryz.prog 81).isSome = true := by kernel_rfl
@[simp] theorem zd81 : zeroD Tryz.prog 81 = [.nils, .nils] := by kernel_rfl
@[simp] theorem ia81 : isAggT Tryz.prog 81 = true := by kernel_rfl
@[simp] theorem ss81 : isStructT Tryz.prog 81 = true := by kernel_rfl
@[simp] theorem fk81 : fldOk Tryz.prog 81 = true := by kernel_rfl
@[simp] theorem fo81_0 : fieldOff Tryz.prog 81 0 = some 0 := by kernel_rfl
@[simp] theorem fo81_1 : fieldOff Tryz.prog 81 1 = some 1 := by kernel_rfl
@[simp] theorem fi81_0 : fInfo Tryz.prog 81 0 = some (0, 1) := by kernel_rfl
@[simp] theorem fi81_1 : fInfo Tryz.prog 81 1 = some (1, 1) := by kernel_rfl
@[simp] theorem iu82 : (Tryz.prog.underlying 82).isSome = true := by kernel_rfl
@[simp] theorem sz82 : szOf Tryz.prog 82 = 2 := by kernel_rfl
@[simp] theorem by82 : bytesOf Tryz.prog 82 = 48 := by kernel_rfl
@[simp] theorem zo82 : (zeroOf Tryz.prog 82).isSome = true := by kernel_rfl
@[simp] theorem zd82 : zeroD Tryz.prog 82 = [.nils, .nils] := by kernel_rfl
@[simp] theorem ia82 : isAggT Tryz.prog 82 = true := by kernel_rfl
@[simp] theorem ss82 : isStructT Tryz.prog 82 = true := by kernel_rfl
@[simp] theorem fk82 : fldOk Tryz.prog 82 = true := by kernel_rfl
@[simp] theorem fo82_0 : fieldOff Tryz.prog 82 0 = some 0 := by kernel_rfl
@[simp] theorem fo82_1 : fieldOff Tryz.prog 82 1 = some 1 := by kernel_rfl
@[simp] theorem fi82_0 : fInfo Tryz.prog 82 0 = some (0, 1) := by kernel_rfl
@[simp] theorem fi82_1 : fInfo Tryz.prog 82 1 = some (1, 1) := by kernel_rfl
@[simp] theorem iu101 : (Tryz.prog.underlying 101).isSome = true := by kernel_rfl
@[simp] theorem sz101 : szOf Tryz.prog 101 = 1 := by kernel_rfl
@[simp] theorem by101 : bytesOf Tryz.prog 101 = 24 := by kernel_rfl
@[simp] theorem zo101 : (zeroOf Tryz.prog 101).isSome = true := by kernel_rfl
@[simp] theorem zd101 : zeroD Tryz.prog 101 = [.nils] := by kernel_rfl
@[simp] theorem ia101 : isAggT Tryz.prog 101 = false := by kernel_rfl
@[simp] theorem is101 : isSliceT Tryz.prog 101 = true := by kernel_rfl
@[simp] theorem el101 : Go.AM.elemOf Tryz.prog 101 = 108 := by kernel_rfl
@[simp] theorem es101 : elemSz Tryz.prog 101 = 3 := by kernel_rfl
@[simp] theorem iu102 : (Tryz.prog.underlying 102).isSome = true := by kernel_rfl
@[simp] theorem sz102 : szOf Tryz.prog 102 = 1 := by kernel_rfl
@[simp] theorem by102 : bytesOf Tryz.prog 102 = 24 := by kernel_rfl
@[simp] theorem zo102 : (zeroOf Tryz.prog 102).isSome = true := by kernel_rfl
@[simp] theorem zd102 : zeroD Tryz.prog 102 = [.nils] := by kernel_rfl
@[simp] theorem ia102 : isAggT Tryz.prog 102 = false := by kernel_rfl
@[simp] theorem is102 : isSliceT Tryz.prog 102 = true := by kernel_rfl
@[simp] theorem el102 : Go.AM.elemOf Tryz.prog 102 = 113 := by kernel_rfl
@[simp] theorem es102 : elemSz Tryz.prog 102 = 7 := by kernel_rfl
@[simp] theorem iu103 : (Tryz.prog.underlying 103).isSome = true := by kernel_rfl
@[simp] theorem sz103 : szOf Tryz.prog 103 = 3 := by kernel_rfl
@[simp] theorem by103 : bytesOf Tryz.prog 103 = 64 := by kernel_rfl
@[simp] theorem zo103 : (zeroOf Tryz.prog 103).isSome = true := by kernel_rfl
@[simp] theorem zd103 : zeroD Tryz.prog 103 = [(.str ⟨#[]⟩), .nils, .nils] := by kernel_rfl
@[simp] theorem ia103 : isAggT Tryz.prog 103 = true := by kernel_rfl
@[simp] theorem ss103 : isStructT Tryz.prog 103 = true := by kernel_rfl
@[simp] theorem fk103 : fldOk Tryz.prog 103 = true := by kernel_rfl
@[simp] theorem fo103_0 : fieldOff Tryz.prog 103 0 = some 0 := by kernel_rfl
@[simp] theorem fo103_1 : fieldOff Tryz.prog 103 1 = some 1 := by kernel_rfl
@[simp] theorem fo103_2 : fieldOff Tryz.prog 103 2 = some 2 := by kernel_rfl
@[simp] theorem fi103_0 : fInfo Tryz.prog 103 0 = some (0, 1) := by kernel_rfl
@[simp] theorem fi103_1 : fInfo Tryz.prog 103 1 = some (1, 1) := by kernel_rfl
@[simp] theorem fi103_2 : fInfo Tryz.prog 103 2 = some (2, 1) := by kernel_rfl
@[simp] theorem iu104 : (Tryz.prog.underlying 104).isSome = true := by kernel_rfl
@[simp] theorem sz104 : szOf Tryz.prog 104 = 3 := by kernel_rfl
@[simp] theorem by104 : bytesOf Tryz.prog 104 = 64 := by kernel_rfl
@[simp] theorem zo104 : (zeroOf Tryz.prog 104).isSome = true := by kernel_rfl
@[simp] theorem zd104 : zeroD Tryz.prog 104 = [(.str ⟨#[]⟩), .nils, .nils] := by kernel_rfl
@[simp] theorem ia104 : isAggT Tryz.prog 104 = true := by kernel_rfl
@[simp] theorem ss104 : isStructT Tryz.prog 104 = true := by kernel_rfl
@[simp] theorem fk104 : fldOk Tryz.prog 104 = true := by kernel_rfl
@[simp] theorem fo104_0 : fieldOff Tryz.prog 104 0 = some 0 := by kernel_rfl
@[simp] theorem fo104_1 : fieldOff Tryz.prog 104 1 = some 1 := by kernel_rfl
@[simp] theorem fo104_2 : fieldOff Tryz.prog 104 2 = some 2 := by kernel_rfl
@[simp] theorem fi104_0 : fInfo Tryz.prog 104 0 = some (0, 1) := by kernel_rfl
@[simp] theorem fi104_1 : fInfo Tryz.prog 104 1 = some (1, 1) := by kernel_rfl
@[simp] theorem fi104_2 : fInfo Tryz.prog 104 2 = some (2, 1) := by kernel_rfl
@[simp] theorem iu105 : (Tryz.prog.underlying 105).isSome = true := by kernel_rfl
@[simp] theorem sz105 : szOf Tryz.prog 105 = 1 := by kernel_rfl
@[simp] theorem by105 : bytesOf Tryz.prog 105 = 1 := by kernel_rfl
@[simp] theorem zo105 : (zeroOf Tryz.prog 105).isSome = true := by kernel_rfl
@[simp] theorem zd105 : zeroD Tryz.prog 105 = [(.int .u8 0)] := by kernel_rfl
@[simp] theorem ia105 : isAggT Tryz.prog 105 = false := by kernel_rfl
@[simp] theorem ik105 : intKindT Tryz.prog 105 = some .u8 := by kernel_rfl
@[simp] theorem iu106 : (Tryz.prog.underlying 106).isSome = true := by kernel_rfl
@[simp] theorem sz106 : szOf Tryz.prog 106 = 1 := by kernel_rfl
@[simp] theorem by106 : bytesOf Tryz.prog 106 = 24 := by kernel_rfl
@[simp] theorem zo106 : (zeroOf Tryz.prog 106).isSome = true := by kernel_rfl
@[simp] theorem zd106 : zeroD Tryz.prog 106 = [.nils] := by kernel_rfl
@[simp] theorem ia106 : isAggT Tryz.prog 106 = false := by kernel_rfl
@[simp] theorem is106 : isSliceT Tryz.prog 106 = true := by kernel_rfl
@[simp] theorem el106 : Go.AM.elemOf Tryz.prog 106 = 127 := by kernel_rfl
@[simp] theorem es106 : elemSz Tryz.prog 106 = 4 := by kernel_rfl
@[simp] theorem iu107 : (Tryz.prog.underlying 107).isSome = true := by kernel_rfl
@[simp] theorem sz107 : szOf Tryz.prog 107 = 3 := by kernel_rfl
@[simp] theorem by107 : bytesOf Tryz.prog 107 = 48 := by kernel_rfl
@[simp] theorem zo107 : (zeroOf Tryz.prog 107).isSome = true := by kernel_rfl
@[simp] theorem zd107 : zeroD Tryz.prog 107 = [(.str ⟨#[]⟩), (.int .u8 0), .nils] := by kernel_rfl
@[simp] theorem ia107 : isAggT Tryz.prog 107 = true := by kernel_rfl
@[simp] theorem ss107 : isStructT Tryz.prog 107 = true := by kernel_rfl
@[simp] theorem fk107 : fldOk Tryz.prog 107 = true := by kernel_rfl
@[simp] theorem fo107_0 : fieldOff Tryz.prog 107 0 = some 0 := by kernel_rfl
@[simp] theorem fo107_1 : fieldOff Tryz.prog 107 1 = some 1 := by kernel_rfl
@[simp] theorem fo107_2 : fieldOff Tryz.prog 107 2 = some 2 := by kernel_rfl
@[simp] theorem fi107_0 : fInfo Tryz.prog 107 0 = some (0, 1) := by kernel_rfl
@[simp] theorem fi107_1 : fInfo Tryz.prog 107 1 = some (1, 1) := by kernel_rfl
@[simp] theorem fi107_2 : fInfo Tryz.prog 107 2 = some (2, 1) := by kernel_rfl
@[simp] theorem iu108 : (Tryz.prog.underlying 108).isSome = true := by kernel_rfl
@[simp] theorem sz108 : szOf Tryz.prog 108 = 3 := by kernel_rfl
@[simp] theorem by108 : bytesOf Tryz.prog 108 = 48 := by kernel_rfl
@[simp] theorem zo108 : (zeroOf Tryz.prog 108).isSome = true := by kernel_rfl
@[simp] theorem zd108 : zeroD Tryz.prog 108 = [(.str ⟨#[]⟩), (.int .u8 0), .nils] := by kernel_rfl
@[simp] theorem ia108 : isAggT Tryz.prog 108 = true := by kernel_rfl
@[simp] theorem ss108 : isStructT Tryz.prog 108 = true := by kernel_rfl
@[simp] theorem fk108 : fldOk Tryz.prog 108 = true := by kernel_rfl
@[simp] theorem fo108_0 : fieldOff Tryz.prog 108 0 = some 0 := by kernel_rfl
@[simp] theorem fo108_1 : fieldOff Tryz.prog 108 1 = some 1 := by kernel_rfl
@[simp] theorem fo108_2 : fieldOff Tryz.prog 108 2 = some 2 := by kernel_rfl
@[simp] theorem fi108_0 : fInfo Tryz.prog 108 0 = some (0, 1) := by kernel_rfl
@[simp] theorem fi108_1 : fInfo Tryz.prog 108 1 = some (1, 1) := by kernel_rfl
@[simp] theorem fi108_2 : fInfo Tryz.prog 108 2 = some (2, 1) := by kernel_rfl
@[simp] theorem iu110 : (Tryz.prog.underlying 110).isSome = true := by kernel_rfl
@[simp] theorem sz110 : szOf Tryz.prog 110 = 1 := by kernel_rfl
@[simp] theorem by110 : bytesOf Tryz.prog 110 = 24 := by kernel_rfl
@[simp] theorem zo110 : (zeroOf Tryz.prog 110).isSome = true := by kernel_rfl
@[simp] theorem zd110 : zeroD Tryz.prog 110 = [.nils] := by kernel_rfl
@[simp] theorem ia110 : isAggT Tryz.prog 110 = false := by kernel_rfl
@[simp] theorem is110 : isSliceT Tryz.prog 110 = true := by kernel_rfl
@[simp] theorem el110 : Go.AM.elemOf Tryz.prog 110 = 164 := by kernel_rfl
@[simp] theorem es110 : elemSz Tryz.prog 110 = 2 := by kernel_rfl
@[simp] theorem iu111 : (Tryz.prog.underlying 111).isSome = true := by kernel_rfl
@[simp] theorem sz111 : szOf Tryz.prog 111 = 1 := by kernel_rfl
@[simp] theorem by111 : bytesOf Tryz.prog 111 = 24 := by kernel_rfl
@[simp] theorem zo111 : (zeroOf Tryz.prog 111).isSome = true := by kernel_rfl
@[simp] theorem zd111 : zeroD Tryz.prog 111 = [.nils] := by kernel_rfl
@[simp] theorem ia111 : isAggT Tryz.prog 111 = false := by kernel_rfl
@[simp] theorem is111 : isSliceT Tryz.prog 111 = true := by kernel_rfl
@[simp] theorem el111 : Go.AM.elemOf Tryz.prog 111 = 116 := by kernel_rfl
@[simp] theorem es111 : elemSz Tryz.prog 111 = 4 := by kernel_rfl
@[simp] theorem iu112 : (Tryz.prog.underlying 112).isSome = true := by kernel_rfl
@[simp] theorem sz112 : szOf Tryz.prog 112 = 7 := by kernel_rfl
@[simp] theorem by112 : bytesOf Tryz.prog 112 = 104 := by kernel_rfl
@[simp] theorem zo112 : (zeroOf Tryz.prog 112).isSome = true := by kernel_rfl
@[simp] theorem zd112 : zeroD Tryz.prog 112 = [(.int .i64 0), (.int .i64 0), .nils, .nils, (.int .i64 0), (.bool false), .nils] := by kernel_rfl
@[simp] theorem ia112 : isAggT Tryz.prog 112 = true := by kernel_rfl
@[simp] theorem ss112 : isStructT Tryz.prog 112 = true := by kernel_rfl
@[simp] theorem fk112 : fldOk Tryz.prog 112 = true := by kernel_rfl
@[simp] theorem fo112_0 : fieldOff Tryz.prog 112 0 = some 0 := by kernel_rfl
@[simp] theorem fo112_1 : fieldOff Tryz.prog 112 1 = some 1 := by kernel_rfl
@[simp] theorem fo112_2 : fieldOff Tryz.prog 112 2 = some 2 := by kernel_rfl
@[simp] theorem fo112_3 : fieldOff Tryz.prog 112 3 = some 3 := by kernel_rfl
@[simp] theorem fo112_4 : fieldOff Tryz.prog 112 4 = some 4 := by kernel_rfl
@[simp] theorem fo112_5 : fieldOff Tryz.prog 112 5 = some 5 := by kernel_rfl
@[simp] theorem fo112_6 : fieldOff Tryz.prog 112 6 = some 6 := by kernel_rfl
@[simp] theorem fi112_0 : fInfo Tryz.prog 112 0 = some (0, 1) := by kernel_rfl
@[simp] theorem fi112_1 : fInfo Tryz.prog 112 1 = some (1, 1) := by kernel_rfl
@[simp] theorem fi112_2 : fInfo Tryz.prog 112 2 = some (2, 1) := by kernel_rfl
@[simp] theorem fi112_3 : fInfo Tryz.prog 112 3 = some (3, 1) := by kernel_rfl
@[simp] theorem fi112_4 : fInfo Tryz.prog 112 4 = some (4, 1) := by kernel_rfl
@[simp] theorem fi112_5 : fInfo Tryz.prog 112 5 = some (5, 1) := by kernel_rfl
@[simp] theorem fi112_6 : fInfo Tryz.prog 112 6 = some (6, 1) := by kernel_rfl
@[simp] theorem iu113 : (Tryz.prog.underlying 113).isSome = true := by kernel_rfl
@[simp] theorem sz113 : szOf Tryz.prog 113 = 7 := by kernel_rfl
@[simp] theorem by113 : bytesOf Tryz.prog 113 = 104 := by kernel_rfl
@[simp] theorem zo113 : (zeroOf Tryz.prog 113).isSome = true := by kernel_rfl
@[simp] theorem zd113 : zeroD Tryz.prog 113 = [(.int .i64 0), (.int .i64 0), .nils, .nils, (.int .i64 0), (.bool false), .nils] := by kernel_rfl
@[simp] theorem ia113 : isAggT Tryz.prog 113 = true := by kernel_rfl
@[simp] theorem ss113 : isStructT Tryz.prog 113 = true := by kernel_rfl
@[simp] theorem fk113 : fldOk Tryz.prog 113 = true := by kernel_rfl
@[simp] theorem fo113_0 : fieldOff Tryz.prog 113 0 = some 0 := by kernel_rfl
@[simp] theorem fo113_1 : fieldOff Tryz.prog 113 1 = some 1 := by kernel_rfl
@[simp] theorem fo113_2 : fieldOff Tryz.prog 113 2 = some 2 := by kernel_rfl
@[simp] theorem fo113_3 : fieldOff Tryz.prog 113 3 = some 3 := by kernel_rfl
@[simp] theorem fo113_4 : fieldOff Tryz.prog 113 4 = some 4 := by kernel_rfl
@[simp] theorem fo113_5 : fieldOff Tryz.prog 113 5 = some 5 := by kernel_rfl
@[simp] theorem fo113_6 : fieldOff Tryz.prog 113 6 = some 6 := by kernel_rfl
@[simp] theorem fi113_0 : fInfo Tryz.prog 113 0 = some (0, 1) := by kernel_rfl
@[simp] theorem fi113_1 : fInfo Tryz.prog 113 1 = some (1, 1) := by kernel_rfl
@[simp] theorem fi113_2 : fInfo Tryz.prog 113 2 = some (2, 1) := by kernel_rfl
@[simp] theorem fi113_3 : fInfo Tryz.prog 113 3 = some (3, 1) := by kernel_rfl
@[simp] theorem fi113_4 : fInfo Tryz.prog 113 4 = some (4, 1) := by kernel_rfl
@[simp] theorem fi113_5 : fInfo Tryz.prog 113 5 = some (5, 1) := by kernel_rfl
@[simp] theorem fi113_6 : fInfo Tryz.prog 113 6 = some (6, 1) := by kernel_rfl
@[simp] theorem iu115 : (Tryz.prog.underlying 115).isSome = true := by kernel_rfl
@[simp] theorem sz115 : szOf Tryz.prog 115 = 4 := by kernel_rfl
@[simp] theorem by115 : bytesOf Tryz.prog 115 = 48 := by kernel_rfl
@[simp] theorem zo115 : (zeroOf Tryz.prog 115).isSome = true := by kernel_rfl
@[simp] theorem zd115 : zeroD Tryz.prog 115 = [(.int .i64 0), (.int .i64 0), (.int .i64 0), .nils] := by kernel_rfl
@[simp] theorem ia115 : isAggT Tryz.prog 115 = true := by kernel_rfl
@[simp] theorem ss115 : isStructT Tryz.prog 115 = true := by kernel_rfl
@[simp] theorem fk115 : fldOk Tryz.prog 115 = true := by kernel_rfl
@[simp] theorem fo115_0 : fieldOff Tryz.prog 115 0 = some 0 := by kernel_rfl
@[simp] theorem fo115_1 : fieldOff Tryz.prog 115 1 = some 1 := by kernel_rfl
@[simp] theorem fo115_2 : fieldOff Tryz.prog 115 2 = some 2 := by kernel_rfl
@[simp] theorem fo115_3 : fieldOff Tryz.prog 115 3 = some 3 := by kernel_rfl
@[simp] theorem fi115_0 : fInfo Tryz.prog 115 0 = some (0, 1) := by kernel_rfl
@[simp] theorem fi115_1 : fInfo Tryz.prog 115 1 = some (1, 1) := by kernel_rfl
@[simp] theorem fi115_2 : fInfo Tryz.prog 115 2 = some (2, 1) := by kernel_rfl
@[simp] theorem fi115_3 : fInfo Tryz.prog 115 3 = some (3, 1) := by kernel_rfl
@[simp] theorem iu116 : (Tryz.prog.underlying 116).isSome = true := by kernel_rfl
@[simp] theorem sz116 : szOf Tryz.prog 116 = 4 := by kernel_rfl
@[simp] theorem by116 : bytesOf Tryz.prog 116 = 48 := by kernel_rfl
@[simp] theorem zo116 : (zeroOf Tryz.prog 116).isSome = true := by kernel_rfl
@[simp] theorem zd116 : zeroD Tryz.prog 116 = [(.int .i64 0), (.int .i64 0), (.int .i64 0), .nils] := by kernel_rfl
@[simp] theorem ia116 : isAggT Tryz.prog 116 = true := by kernel_rfl
@[simp] theorem ss116 : isStructT Tryz.prog 116 = true := by kernel_rfl
@[simp] theorem fk116 : fldOk Tryz.prog 116 = true := by kernel_rfl
@[simp] theorem fo116_0 : fieldOff Tryz.prog 116 0 = some 0 := by kernel_rfl
@[simp] theorem fo116_1 : fieldOff Tryz.prog 116 1 = some 1 := by kernel_rfl
@[simp] theorem fo116_2 : fieldOff Tryz.prog 116 2 = some 2 := by kernel_rfl
@[simp] theorem fo116_3 : fieldOff Tryz.prog 116 3 = some 3 := by kernel_rfl
@[simp] theorem fi116_0 : fInfo Tryz.prog 116 0 = some (0, 1) := by kernel_rfl
@[simp] theorem fi116_1 : fInfo Tryz.prog 116 1 = some (1, 1) := by kernel_rfl
@[simp] theorem fi116_2 : fInfo Tryz.prog 116 2 = some (2, 1) := by kernel_rfl
@[simp] theorem fi116_3 : fInfo Tryz.prog 116 3 = some (3, 1) := by kernel_rfl
@[simp] theorem sz118 : szOf Tryz.prog 118 = 1 := by kernel_rfl
@[simp] theorem iu118 : (Tryz.prog.underlying 118).isSome = true := by kernel_rfl
@[simp] theorem ia118 : isAggT Tryz.prog 118 = false := by kernel_rfl
@[simp] theorem sz119 : szOf Tryz.prog 119 = 1 := by kernel_rfl
@[simp] theorem iu119 : (Tryz.prog.underlying 119).isSome = true := by kernel_rfl
@[simp] theorem ia119 : isAggT Tryz.prog 119 = false := by kernel_rfl
@[simp] theorem sz120 : szOf Tryz.prog 120 = 1 := by kernel_rfl
@[simp] theorem iu120 : (Tryz.prog.underlying 120).isSome = true := by kernel_rfl
@[simp] theorem ia120 : isAggT Tryz.prog 120 = false := by kernel_rfl
@[simp] theorem iu125 : (Tryz.prog.underlying 125).isSome = true := by kernel_rfl
@[simp] theorem sz125 : szOf Tryz.prog 125 = 1 := by kernel_rfl
@[simp] theorem by125 : bytesOf Tryz.prog 125 = 1 := by kernel_rfl
@[simp] theorem zo125 : (zeroOf Tryz.prog 125).isSome = true := by kernel_rfl
@[simp] theorem zd125 : zeroD Tryz.prog 125 = [(.int .u8 0)] := by kernel_rfl
@[simp] theorem ia125 : isAggT Tryz.prog 125 = false := by kernel_rfl
@[simp] theorem ik125 : intKindT Tryz.prog 125 = some .u8 := by kernel_rfl
@[simp] theorem iu126 : (Tryz.prog.underlying 126).isSome = true := by kernel_rfl
@[simp] theorem sz126 : szOf Tryz.prog 126 = 4 := by kernel_rfl
@[simp] theorem by126 : bytesOf Tryz.prog 126 = 32 := by kernel_rfl
@[simp] theorem zo126 : (zeroOf Tryz.prog 126).isSome = true := by kernel_rfl
@[simp] theorem zd126 : zeroD Tryz.prog 126 = [(.int .i64 0), (.int .i64 0), (.int .u8 0), (.int .i64 0)] := by kernel_rfl
@[simp] theorem ia126 : isAggT Tryz.prog 126 = true := by kernel_rfl
@[simp] theorem ss126 : isStructT Tryz.prog 126 = true := by kernel_rfl
@[simp] theorem fk126 : fldOk Tryz.prog 126 = true := by kernel_rfl
@[simp] theorem eqk126 : eqKinds Tryz.prog 126 = some [.int, .int, .int, .int] := by kernel_rfl
@[simp] theorem fo126_0 : fieldOff Tryz.prog 126 0 = some 0 := by kernel_rfl
@[simp] theorem fo126_1 : fieldOff Tryz.prog 126 1 = some 1 := by kernel_rfl
@[simp] theorem fo126_2 : fieldOff Tryz.prog 126 2 = some 2 := by kernel_rfl
@[simp] theorem fo126_3 : fieldOff Tryz.prog 126 3 = some 3 := by kernel_rfl
@[simp] theorem fi126_0 : fInfo Tryz.prog 126 0 = some (0, 1) := by kernel_rfl
@[simp] theorem fi126_1 : fInfo Tryz.prog 126 1 = some (1, 1) := by kernel_rfl
@[simp] theorem fi126_2 : fInfo Tryz.prog 126 2 = some (2, 1) := by kernel_rfl
@[simp] theorem fi126_3 : fInfo Tryz.prog 126 3 = some (3, 1) := by kernel_rfl
@[simp] theorem iu127 : (Tryz.prog.underlying 127).isSome = true := by kernel_rfl
@[simp] theorem sz127 : szOf Tryz.prog 127 = 4 := by kernel_rfl
@[simp] theorem by127 : bytesOf Tryz.prog 127 = 32 := by kernel_rfl
@[simp] theorem zo127 : (zeroOf Tryz.prog 127).isSome = true := by kernel_rfl
@[simp] theorem zd127 : zeroD Tryz.prog 127 = [(.int .i64 0), (.int .i64 0), (.int .u8 0), (.int .i64 0)] := by kernel_rfl
@[simp] theorem ia127 : isAggT Tryz.prog 127 = true := by kernel_rfl
@[simp] theorem ss127 : isStructT Tryz.prog 127 = true := by kernel_rfl
@[simp] theorem fk127 : fldOk Tryz.prog 127 = true := by kernel_rfl
@[simp] theorem eqk127 : eqKinds Tryz.prog 127 = some [.int, .int, .int, .int] := by kernel_rfl
@[simp] theorem fo127_0 : fieldOff Tryz.prog 127 0 = some 0 := by kernel_rfl
@[simp] theorem fo127_1 : fieldOff Tryz.prog 127 1 = some 1 := by kernel_rfl
@[simp] theorem fo127_2 : fieldOff Tryz.prog 127 2 = some 2 := by kernel_rfl
@[simp] theorem fo127_3 : fieldOff Tryz.prog 127 3 = some 3 := by kernel_rfl
@[simp] theorem fi127_0 : fInfo Tryz.prog 127 0 = some (0, 1) := by kernel_rfl
@[simp] theorem fi127_1 : fInfo Tryz.prog 127 1 = some (1, 1) := by kernel_rfl
@[simp] theorem fi127_2 : fInfo Tryz.prog 127 2 = some (2, 1) := by kernel_rfl
@[simp] theorem fi127_3 : fInfo Tryz.prog 127 3 = some (3, 1) := by kernel_rfl
@[simp] theorem iu128 : (Tryz.prog.underlying 128).isSome = true := by kernel_rfl
@[simp] theorem sz128 : szOf Tryz.prog 128 = 1 := by kernel_rfl
@[simp] theorem by128 : bytesOf Tryz.prog 128 = 24 := by kernel_rfl
@[simp] theorem zo128 : (zeroOf Tryz.prog 128).isSome = true := by kernel_rfl
@[simp] theorem zd128 : zeroD Tryz.prog 128 = [.nils] := by kernel_rfl
@[simp] theorem ia128 : isAggT Tryz.prog 128 = false := by kernel_rfl
@[simp] theorem is128 : isSliceT Tryz.prog 128 = true := by kernel_rfl
@[simp] theorem el128 : Go.AM.elemOf Tryz.prog 128 = 171 := by kernel_rfl
@[simp] theorem es128 : elemSz Tryz.prog 128 = 2 := by kernel_rfl
@[simp] theorem iu129 : (Tryz.prog.underlying 129).isSome = true := by kernel_rfl
@[simp] theorem sz129 : szOf Tryz.prog 129 = 3 := by kernel_rfl
@[simp] theorem by129 : bytesOf Tryz.prog 129 = 72 := by kernel_rfl
@[simp] theorem zo129 : (zeroOf Tryz.prog 129).isSome = true := by kernel_rfl
@[simp] theorem zd129 : zeroD Tryz.prog 129 = [.nils, .nils, .nils] := by kernel_rfl
@[simp] theorem ia129 : isAggT Tryz.prog 129 = true := by kernel_rfl
@[simp] theorem ss129 : isStructT Tryz.prog 129 = true := by kernel_rfl
@[simp] theorem fk129 : fldOk Tryz.prog 129 = true := by kernel_rfl
@[simp] theorem fo129_0 : fieldOff Tryz.prog 129 0 = some 0 := by kernel_rfl
@[simp] theorem fo129_1 : fieldOff Tryz.prog 129 1 = some 1 := by kernel_rfl
@[simp] theorem fo129_2 : fieldOff Tryz.prog 129 2 = some 2 := by kernel_rfl
@[simp] theorem fi129_0 : fInfo Tryz.prog 129 0 = some (0, 1) := by kernel_rfl
@[simp] theorem fi129_1 : fInfo Tryz.prog 129 1 = some (1, 1) := by kernel_rfl
@[simp] theorem fi129_2 : fInfo Tryz.prog 129 2 = some (2, 1) := by kernel_rfl
@[simp] theorem iu130 : (Tryz.prog.underlying 130).isSome = true := by kernel_rfl
@[simp] theorem sz130 : szOf Tryz.prog 130 = 3 := by kernel_rfl
@[simp] theorem by130 : bytesOf Tryz.prog 130 = 72 := by kernel_rfl
@[simp] theorem zo130 : (zeroOf Tryz.prog 130).isSome = true := by kernel_rfl
@[simp] theorem zd130 : zeroD Tryz.prog 130 = [.nils, .nils, .nils] := by kernel_rfl
@[simp] theorem ia130 : isAggT Tryz.prog 130 = true := by kernel_rfl
@[simp] theorem ss130 : isStructT Tryz.prog 130 = true := by kernel_rfl
@[simp] theorem fk130 : fldOk Tryz.prog 130 = true := by kernel_rfl
@[simp] theorem fo130_0 : fieldOff Tryz.prog 130 0 = some 0 := by kernel_rfl
@[simp] theorem fo130_1 : fieldOff Tryz.prog 130 1 = some 1 := by kernel_rfl
@[simp] theorem fo130_2 : fieldOff Tryz.prog 130 2 = some 2 := by kernel_rfl
@[simp] theorem fi130_0 : fInfo Tryz.prog 130 0 = some (0, 1) := by kernel_rfl
@[simp] theorem fi130_1 : fInfo Tryz.prog 130 1 = some (1, 1) := by kernel_rfl
@[simp] theorem fi130_2 : fInfo Tryz.prog 130 2 = some (2, 1) := by kernel_rfl
@[simp] theorem iu135 : (Tryz.prog.underlying 135).isSome = true := by kernel_rfl
@[simp] theorem sz135 : szOf Tryz.prog 135 = 1 := by kernel_rfl
@[simp] theorem by135 : bytesOf Tryz.prog 135 = 24 := by kernel_rfl
@[simp] theorem zo135 : (zeroOf Tryz.prog 135).isSome = true := by kernel_rfl
@[simp] theorem zd135 : zeroD Tryz.prog 135 = [.nils] := by kernel_rfl
@[simp] theorem ia135 : isAggT Tryz.prog 135 = false := by kernel_rfl
@[simp] theorem is135 : isSliceT Tryz.prog 135 = true := by kernel_rfl
@[simp] theorem el135 : Go.AM.elemOf Tryz.prog 135 = 118 := by kernel_rfl
@[simp] theorem es135 : elemSz Tryz.prog 135 = 1 := by kernel_rfl
@[simp] theorem iu136 : (Tryz.prog.underlying 136).isSome = true := by kernel_rfl
@[simp] theorem sz136 : szOf Tryz.prog 136 = 1 := by kernel_rfl
@[simp] theorem by136 : bytesOf Tryz.prog 136 = 24 := by kernel_rfl
@[simp] theorem zo136 : (zeroOf Tryz.prog 136).isSome = true := by kernel_rfl
@[simp] theorem zd136 : zeroD Tryz.prog 136 = [.nils] := by kernel_rfl
@[simp] theorem ia136 : isAggT Tryz.prog 136 = false := by kernel_rfl
@[simp] theorem is136 : isSliceT Tryz.prog 136 = true := by kernel_rfl
@[simp] theorem el136 : Go.AM.elemOf Tryz.prog 136 = 30 := by kernel_rfl
@[simp] theorem es136 : elemSz Tryz.prog 136 = 1 := by kernel_rfl
@[simp] theorem sz140 : szOf Tryz.prog 140 = 1 := by kernel_rfl
@[simp] theorem iu140 : (Tryz.prog.underlying 140).isSome = true := by kernel_rfl
@[simp] theorem ia140 : isAggT Tryz.prog 140 = false := by kernel_rfl
@[simp] theorem iu144 : (Tryz.prog.underlying 144).isSome = true := by kernel_rfl
@[simp] theorem sz144 : szOf Tryz.prog 144 = 1 := by kernel_rfl
@[simp] theorem by144 : bytesOf Tryz.prog 144 = 24 := by kernel_rfl
@[simp] theorem zo144 : (zeroOf Tryz.prog 144).isSome = true := by kernel_rfl
@[simp] theorem zd144 : zeroD Tryz.prog 144 = [.nils] := by kernel_rfl
@[simp] theorem ia144 : isAggT Tryz.prog 144 = false := by kernel_rfl
@[simp] theorem is144 : isSliceT Tryz.prog 144 = true := by kernel_rfl
@[simp] theorem el144 : Go.AM.elemOf Tryz.prog 144 = 4 := by kernel_rfl
@[simp] theorem es144 : elemSz Tryz.prog 144 = 1 := by kernel_rfl
@[simp] theorem iu145 : (Tryz.prog.underlying 145).isSome = true := by kernel_rfl
@[simp] theorem sz145 : szOf Tryz.prog 145 = 1 := by kernel_rfl
@[simp] theorem by145 : bytesOf Tryz.prog 145 = 24 := by kernel_rfl
@[simp] theorem zo145 : (zeroOf Tryz.prog 145).isSome = true := by kernel_rfl
@[simp] theorem zd145 : zeroD Tryz.prog 145 = [.nils] := by kernel_rfl
@[simp] theorem ia145 : isAggT Tryz.prog 145 = false := by kernel_rfl
@[simp] theorem is145 : isSliceT Tryz.prog 145 = true := by kernel_rfl
@[simp] theorem el145 : Go.AM.elemOf Tryz.prog 145 = 144 := by kernel_rfl
@[simp] theorem es145 : elemSz Tryz.prog 145 = 1 := by kernel_rfl
@[simp] theorem sz146 : szOf Tryz.prog 146 = 1 := by kernel_rfl
@[simp] theorem iu146 : (Tryz.prog.underlying 146).isSome = true := by kernel_rfl
@[simp] theorem ia146 : isAggT Tryz.prog 146 = false := by kernel_rfl
@[simp] theorem sz147 : szOf Tryz.prog 147 = 1 := by kernel_rfl
@[simp] theorem iu147 : (Tryz.prog.underlying 147).isSome = true := by kernel_rfl
@[simp] theorem ia147 : isAggT Tryz.prog 147 = false := by kernel_rfl
@[simp] theorem iu148 : (Tryz.prog.underlying 148).isSome = true := by kernel_rfl
@[simp] theorem sz148 : szOf Tryz.prog 148 = 1 := by kernel_rfl
@[simp] theorem by148 : bytesOf Tryz.prog 148 = 24 := by kernel_rfl
@[simp] theorem zo148 : (zeroOf Tryz.prog 148).isSome = true := by kernel_rfl
@[simp] theorem zd148 : zeroD Tryz.prog 148 = [.nils] := by kernel_rfl
@[simp] theorem ia148 : isAggT Tryz.prog 148 = false := by kernel_rfl
@[simp] theorem is148 : isSliceT Tryz.prog 148 = true := by kernel_rfl
@[simp] theorem el148 : Go.AM.elemOf Tryz.prog 148 = 47 := by kernel_rfl
@[simp] theorem es148 : elemSz Tryz.prog 148 = 1 := by kernel_rfl
@[simp] theorem sz151 : szOf Tryz.prog 151 = 1 := by kernel_rfl
@[simp] theorem iu151 : (Tryz.prog.underlying 151).isSome = true := by kernel_rfl
@[simp] theorem ia151 : isAggT Tryz.prog 151 = false := by kernel_rfl
@[simp] theorem sz157 : szOf Tryz.prog 157 = 1 := by kernel_rfl
@[simp] theorem iu157 : (Tryz.prog.underlying 157).isSome = true := by kernel_rfl
@[simp] theorem ia157 : isAggT Tryz.prog 157 = false := by kernel_rfl
@[simp] theorem sz158 : szOf Tryz.prog 158 = 1 := by kernel_rfl
@[simp] theorem iu158 : (Tryz.prog.underlying 158).isSome = true := by kernel_rfl
@[simp] theorem ia158 : isAggT Tryz.prog 158 = false := by kernel_rfl
@[simp] theorem sz159 : szOf Tryz.prog 159 = 1 := by kernel_rfl
@[simp] theorem iu159 : (Tryz.prog.underlying 159).isSome = true := by kernel_rfl
@[simp] theorem ia159 : isAggT Tryz.prog 159 = false := by kernel_rfl
@[simp] theorem iu162 : (Tryz.prog.underlying 162).isSome = true := by kernel_rfl
@[simp] theorem sz162 : szOf Tryz.prog 162 = 1 := by kernel_rfl
@[simp] theorem by162 : bytesOf Tryz.prog 162 = 1 := by kernel_rfl
@[simp] theorem zo162 : (zeroOf Tryz.prog 162).isSome = true := by kernel_rfl
@[simp] theorem zd162 : zeroD Tryz.prog 162 = [(.int .u8 0)] := by kernel_rfl
@[simp] theorem ia162 : isAggT Tryz.prog 162 = false := by kernel_rfl
@[simp] theorem ik162 : intKindT Tryz.prog 162 = some .u8 := by kernel_rfl
@[simp] theorem iu163 : (Tryz.prog.underlying 163).isSome = true := by kernel_rfl
@[simp] theorem sz163 : szOf Tryz.prog 163 = 2 := by kernel_rfl
@[simp] theorem by163 : bytesOf Tryz.prog 163 = 16 := by kernel_rfl
@[simp] theorem zo163 : (zeroOf Tryz.prog 163).isSome = true := by kernel_rfl
@[simp] theorem zd163 : zeroD Tryz.prog 163 = [(.int .u8 0), (.int .i64 0)] := by kernel_rfl
@[simp] theorem ia163 : isAggT Tryz.prog 163 = true := by kernel_rfl
@[simp] theorem ss163 : isStructT Tryz.prog 163 = true := by kernel_rfl
@[simp] theorem fk163 : fldOk Tryz.prog 163 = true := by kernel_rfl
@[simp] theorem eqk163 : eqKinds Tryz.prog 163 = some [.int, .int] := by kernel_rfl
@[simp] theorem fo163_0 : fieldOff Tryz.prog 163 0 = some 0 := by kernel_rfl
@[simp] theorem fo163_1 : fieldOff Tryz.prog 163 1 = some 1 := by kernel_rfl
@[simp] theorem fi163_0 : fInfo Tryz.prog 163 0 = some (0, 1) := by kernel_rfl
@[simp] theorem fi163_1 : fInfo Tryz.prog 163 1 = some (1, 1) := by kernel_rfl
@[simp] theorem iu164 : (Tryz.prog.underlying 164).isSome = true := by kernel_rfl
@[simp] theorem sz164 : szOf Tryz.prog 164 = 2 := by kernel_rfl
@[simp] theorem by164 : bytesOf Tryz.prog 164 = 16 := by kernel_rfl
@[simp] theorem zo164 : (zeroOf Tryz.prog 164).isSome = true := by kernel_rfl
@[simp] theorem zd164 : zeroD Tryz.prog 164 = [(.int .u8 0), (.int .i64 0)] := by kernel_rfl
@[simp] theorem ia164 : isAggT Tryz.prog 164 = true := by kernel_rfl
@[simp] theorem ss164 : isStructT Tryz.prog 164 = true := by kernel_rfl
@[simp] theorem fk164 : fldOk Tryz.prog 164 = true := by kernel_rfl
@[simp] theorem eqk164 : eqKinds Tryz.prog 164 = some [.int, .int] := by kernel_rfl
@[simp] theorem fo164_0 : fieldOff Tryz.prog 164 0 = some 0 := by kernel_rfl
@[simp] theorem fo164_1 : fieldOff Tryz.prog 164 1 = some 1 := by kernel_rfl
@[simp] theorem fi164_0 : fInfo Tryz.prog 164 0 = some (0, 1) := by kernel_rfl
@[simp] theorem fi164_1 : fInfo Tryz.prog 164 1 = some (1, 1) := by kernel_rfl
@[simp] theorem iu165 : (Tryz.prog.underlying 165).isSome = true := by kernel_rfl
@[simp] theorem sz165 : szOf Tryz.prog 165 = 1 := by kernel_rfl
@[simp] theorem by165 : bytesOf Tryz.prog 165 = 24 := by kernel_rfl
@[simp] theorem zo165 : (zeroOf Tryz.prog 165).isSome = true := by kernel_rfl
@[simp] theorem zd165 : zeroD Tryz.prog 165 = [.nils] := by kernel_rfl
@[simp] theorem ia165 : isAggT Tryz.prog 165 = false := by kernel_rfl
@[simp] theorem is165 : isSliceT Tryz.prog 165 = true := by kernel_rfl
@[simp] theorem el165 : Go.AM.elemOf Tryz.prog 165 = 37 := by kernel_rfl
@[simp] theorem es165 : elemSz Tryz.prog 165 = 1 := by kernel_rfl
@[simp] theorem iu166 : (Tryz.prog.underlying 166).isSome = true := by kernel_rfl
@[simp] theorem sz166 : szOf Tryz.prog 166 = 4 := by kernel_rfl
@[simp] theorem by166 : bytesOf Tryz.prog 166 = 40 := by kernel_rfl
@[simp] theorem zo166 : (zeroOf Tryz.prog 166).isSome = true := by kernel_rfl
@[simp] theorem zd166 : zeroD Tryz.prog 166 = [(.str ⟨#[]⟩), (.int .i64 0), (.int .i64 0), (.int .i64 0)] := by kernel_rfl
@[simp] theorem ia166 : isAggT Tryz.prog 166 = true := by kernel_rfl
@[simp] theorem ss166 : isStructT Tryz.prog 166 = true := by kernel_rfl
@[simp] theorem fk166 : fldOk Tryz.prog 166 = true := by kernel_rfl
@[simp] theorem eqk166 : eqKinds Tryz.prog 166 = some [.str, .int, .int, .int] := by kernel_rfl
@[simp] theorem fo166_0 : fieldOff Tryz.prog 166 0 = some 0 := by kernel_rfl
@[simp] theorem fo166_1 : fieldOff Tryz.prog 166 1 = some 1 := by kernel_rfl
@[simp] theorem fo166_2 : fieldOff Tryz.prog 166 2 = some 2 := by kernel_rfl
@[simp] theorem fo166_3 : fieldOff Tryz.prog 166 3 = some 3 := by kernel_rfl
@[simp] theorem fi166_0 : fInfo Tryz.prog 166 0 = some (0, 1) := by kernel_rfl
@[simp] theorem fi166_1 : fInfo Tryz.prog 166 1 = some (1, 1) := by kernel_rfl
@[simp] theorem fi166_2 : fInfo Tryz.prog 166 2 = some (2, 1) := by kernel_rfl
@[simp] theorem fi166_3 : fInfo Tryz.prog 166 3 = some (3, 1) := by kernel_rfl
@[simp] theorem iu167 : (Tryz.prog.underlying 167).isSome = true := by kernel_rfl
@[simp] theorem sz167 : szOf Tryz.prog 167 = 4 := by kernel_rfl
@[simp] theorem by167 : bytesOf Tryz.prog 167 = 40 := by kernel_rfl
@[simp] theorem zo167 : (zeroOf Tryz.prog 167).isSome = true := by kernel_rfl
@[simp] theorem zd167 : zeroD Tryz.prog 167 = [(.str ⟨#[]⟩), (.int .i64 0), (.int .i64 0), (.int .i64 0)] := by kernel_rfl
@[simp] theorem ia167 : isAggT Tryz.prog 167 = true := by kernel_rfl
@[simp] theorem ss167 : isStructT Tryz.prog 167 = true := by kernel_rfl
@[simp] theorem fk167 : fldOk Tryz.prog 167 = true := by kernel_rfl
@[simp] theorem eqk167 : eqKinds Tryz.prog 167 = some [.str, .int, .int, .int] := by kernel_rfl
@[simp] theorem fo167_0 : fieldOff Tryz.prog 167 0 = some 0 := by kernel_rfl
@[simp] theorem fo167_1 : fieldOff Tryz.prog 167 1 = some 1 := by kernel_rfl
@[simp] theorem fo167_2 : fieldOff Tryz.prog 167 2 = some 2 := by kernel_rfl
@[simp] theorem fo167_3 : fieldOff Tryz.prog 167 3 = some 3 := by kernel_rfl
@[simp] theorem fi167_0 : fInfo Tryz.prog 167 0 = some (0, 1) := by kernel_rfl
@[simp] theorem fi167_1 : fInfo Tryz.prog 167 1 = some (1, 1) := by kernel_rfl
@[simp] theorem fi167_2 : fInfo Tryz.prog 167 2 = some (2, 1) := by kernel_rfl
@[simp] theorem fi167_3 : fInfo Tryz.prog 167 3 = some (3, 1) := by kernel_rfl
@[simp] theorem sz168 : szOf Tryz.prog 168 = 1 := by kernel_rfl
@[simp] theorem iu168 : (Tryz.prog.underlying 168).isSome = true := by kernel_rfl
@[simp] theorem ia168 : isAggT Tryz.prog 168 = false := by kernel_rfl
@[simp] theorem iu171 : (Tryz.prog.underlying 171).isSome = true := by kernel_rfl
@[simp] theorem sz171 : szOf Tryz.prog 171 = 2 := by kernel_rfl
@[simp] theorem by171 : bytesOf Tryz.prog 171 = 16 := by kernel_rfl
@[simp] theorem zo171 : (zeroOf Tryz.prog 171).isSome = true := by kernel_rfl
@[simp] theorem zd171 : zeroD Tryz.prog 171 = [(.int .i64 0), (.int .i64 0)] := by kernel_rfl
@[simp] theorem ia171 : isAggT Tryz.prog 171 = true := by kernel_rfl
@[simp] theorem ss171 : isStructT Tryz.prog 171 = true := by kernel_rfl
@[simp] theorem fk171 : fldOk Tryz.prog 171 = true := by kernel_rfl
@[simp] theorem eqk171 : eqKinds Tryz.prog 171 = some [.int, .int] := by kernel_rfl
@[simp] theorem fo171_0 : fieldOff Tryz.prog 171 0 = some 0 := by kernel_rfl
@[simp] theorem fo171_1 : fieldOff Tryz.prog 171 1 = some 1 := by kernel_rfl
@[simp] theorem fi171_0 : fInfo Tryz.prog 171 0 = some (0, 1) := by kernel_rfl
@[simp] theorem fi171_1 : fInfo Tryz.prog 171 1 = some (1, 1) := by kernel_rfl
@[simp] theorem sz172 : szOf Tryz.prog 172 = 1 := by kernel_rfl
@[simp] theorem iu172 : (Tryz.prog.underlying 172).isSome = true := by kernel_rfl
@[simp] theorem ia172 : isAggT Tryz.prog 172 = false := by kernel_rfl
@[simp] theorem iu175 : (Tryz.prog.underlying 175).isSome = true := by kernel_rfl
@[simp] theorem sz175 : szOf Tryz.prog 175 = 1 := by kernel_rfl
@[simp] theorem by175 : bytesOf Tryz.prog 175 = 24 := by kernel_rfl
@[simp] theorem zo175 : (zeroOf Tryz.prog 175).isSome = true := by kernel_rfl
@[simp] theorem zd175 : zeroD Tryz.prog 175 = [.nils] := by kernel_rfl
@[simp] theorem ia175 : isAggT Tryz.prog 175 = false := by kernel_rfl
@[simp] theorem is175 : isSliceT Tryz.prog 175 = true := by kernel_rfl
@[simp] theorem el175 : Go.AM.elemOf Tryz.prog 175 = 172 := by kernel_rfl
@[simp] theorem es175 : elemSz Tryz.prog 175 = 1 := by kernel_rfl
@[simp] theorem sz179 : szOf Tryz.prog 179 = 1 := by kernel_rfl
@[simp] theorem iu179 : (Tryz.prog.underlying 179).isSome = true := by kernel_rfl
@[simp] theorem ia179 : isAggT Tryz.prog 179 = false := by kernel_rfl
@[simp] theorem iu181 : (Tryz.prog.underlying 181).isSome = true := by kernel_rfl
@[simp] theorem sz181 : szOf Tryz.prog 181 = 1 := by kernel_rfl
@[simp] theorem by181 : bytesOf Tryz.prog 181 = 24 := by kernel_rfl
@[simp] theorem zo181 : (zeroOf Tryz.prog 181).isSome = true := by kernel_rfl
@[simp] theorem zd181 : zeroD Tryz.prog 181 = [.nils] := by kernel_rfl
@[simp] theorem ia181 : isAggT Tryz.prog 181 = false := by kernel_rfl
@[simp] theorem is181 : isSliceT Tryz.prog 181 = true := by kernel_rfl
@[simp] theorem el181 : Go.AM.elemOf Tryz.prog 181 = 2 := by kernel_rfl
@[simp] theorem es181 : elemSz Tryz.prog 181 = 1 := by kernel_rfl
@[simp] theorem iu190 : (Tryz.prog.underlying 190).isSome = true := by kernel_rfl
@[simp] theorem sz190 : szOf Tryz.prog 190 = 1 := by kernel_rfl
@[simp] theorem by190 : bytesOf Tryz.prog 190 = 24 := by kernel_rfl
@[simp] theorem zo190 : (zeroOf Tryz.prog 190).isSome = true := by kernel_rfl
@[simp] theorem zd190 : zeroD Tryz.prog 190 = [.nils] := by kernel_rfl
@[simp] theorem ia190 : isAggT Tryz.prog 190 = false := by kernel_rfl
@[simp] theorem is190 : isSliceT Tryz.prog 190 = true := by kernel_rfl
@[simp] theorem el190 : Go.AM.elemOf Tryz.prog 190 = 192 := by kernel_rfl
@[simp] theorem es190 : elemSz Tryz.prog 190 = 4 := by kernel_rfl
@[simp] theorem iu191 : (Tryz.prog.underlying 191).isSome = true := by kernel_rfl
@[simp] theorem sz191 : szOf Tryz.prog 191 = 4 := by kernel_rfl
@[simp] theorem by191 : bytesOf Tryz.prog 191 = 32 := by kernel_rfl
@[simp] theorem zo191 : (zeroOf Tryz.prog 191).isSome = true := by kernel_rfl
@[simp] theorem zd191 : zeroD Tryz.prog 191 = [(.int .i64 0), (.int .i64 0), (.int .i64 0), (.int .i64 0)] := by kernel_rfl
@[simp] theorem ia191 : isAggT Tryz.prog 191 = true := by kernel_rfl
@[simp] theorem ss191 : isStructT Tryz.prog 191 = true := by kernel_rfl
@[simp] theorem fk191 : fldOk Tryz.prog 191 = true := by kernel_rfl
@[simp] theorem eqk191 : eqKinds Tryz.prog 191 = some [.int, .int, .int, .int] := by kernel_rfl
@[simp] theorem fo191_0 : fieldOff Tryz.prog 191 0 = some 0 := by kernel_rfl
@[simp] theorem fo191_1 : fieldOff Tryz.prog 191 1 = some 1 := by kernel_rfl
@[simp] theorem fo191_2 : fieldOff Tryz.prog 191 2 = some 2 := by kernel_rfl
@[simp] theorem fo191_3 : fieldOff Tryz.prog 191 3 = some 3 := by kernel_rfl
@[simp] theorem fi191_0 : fInfo Tryz.prog 191 0 = some (0, 1) := by kernel_rfl
@[simp] theorem fi191_1 : fInfo Tryz.prog 191 1 = some (1, 1) := by kernel_rfl
@[simp] theorem fi191_2 : fInfo Tryz.prog 191 2 = some (2, 1) := by kernel_rfl
@[simp] theorem fi191_3 : fInfo Tryz.prog 191 3 = some (3, 1) := by kernel_rfl
@[simp] theorem iu192 : (Tryz.prog.underlying 192).isSome = true := by kernel_rfl
@[simp] theorem sz192 : szOf Tryz.prog 192 = 4 := by kernel_rfl
@[simp] theorem by192 : bytesOf Tryz.prog 192 = 32 := by kernel_rfl
@[simp] theorem zo192 : (zeroOf Tryz.prog 192).isSome = true := by kernel_rfl
@[simp] theorem zd192 : zeroD Tryz.prog 192 = [(.int .i64 0), (.int .i64 0), (.int .i64 0), (.int .i64 0)] := by kernel_rfl
@[simp] theorem ia192 : isAggT Tryz.prog 192 = true := by kernel_rfl
@[simp] theorem ss192 : isStructT Tryz.prog 192 = true := by kernel_rfl
@[simp] theorem fk192 : fldOk Tryz.prog 192 = true := by kernel_rfl
@[simp] theorem eqk192 : eqKinds Tryz.prog 192 = some [.int, .int, .int, .int] := by kernel_rfl
@[simp] theorem fo192_0 : fieldOff Tryz.prog 192 0 = some 0 := by kernel_rfl
@[simp] theorem fo192_1 : fieldOff Tryz.prog 192 1 = some 1 := by kernel_rfl
@[simp] theorem fo192_2 : fieldOff Tryz.prog 192 2 = some 2 := by kernel_rfl
@[simp] theorem fo192_3 : fieldOff Tryz.prog 192 3 = some 3 := by kernel_rfl
@[simp] theorem fi192_0 : fInfo Tryz.prog 192 0 = some (0, 1) := by kernel_rfl
@[simp] theorem fi192_1 : fInfo Tryz.prog 192 1 = some (1, 1) := by kernel_rfl
@[simp] theorem fi192_2 : fInfo Tryz.prog 192 2 = some (2, 1) := by kernel_rfl
@[simp] theorem fi192_3 : fInfo Tryz.prog 192 3 = some (3, 1) := by kernel_rfl
@[simp] theorem sz199 : szOf Tryz.prog 199 = 1 := by kernel_rfl
@[simp] theorem iu199 : (Tryz.prog.underlying 199).isSome = true := by kernel_rfl
@[simp] theorem ia199 : isAggT Tryz.prog 199 = false := by kernel_rfl
@[simp] theorem sz209 : szOf Tryz.prog 209 = 1 := by kernel_rfl
@[simp] theorem iu209 : (Tryz.prog.underlying 209).isSome = true := by kernel_rfl
@[simp] theorem ia209 : isAggT Tryz.prog 209 = false := by kernel_rfl
@[simp] theorem sz210 : szOf Tryz.prog 210 = 1 := by kernel_rfl
@[simp] theorem iu210 : (Tryz.prog.underlying 210).isSome = true := by kernel_rfl
@[simp] theorem ia210 : isAggT Tryz.prog 210 = false := by kernel_rfl
@[simp] theorem sz211 : szOf Tryz.prog 211 = 1 := by kernel_rfl
@[simp] theorem iu211 : (Tryz.prog.underlying 211).isSome = true := by kernel_rfl
@[simp] theorem ia211 : isAggT Tryz.prog 211 = false := by kernel_rfl
@[simp] theorem iu225 : (Tryz.prog.underlying 225).isSome = true := by kernel_rfl
@[simp] theorem sz225 : szOf Tryz.prog 225 = 1 := by kernel_rfl
@[simp] theorem by225 : bytesOf Tryz.prog 225 = 8 := by kernel_rfl
@[simp] theorem zo225 : (zeroOf Tryz.prog 225).isSome = true := by kernel_rfl
@[simp] theorem zd225 : zeroD Tryz.prog 225 = [.nilm] := by kernel_rfl
@[simp] theorem ia225 : isAggT Tryz.prog 225 = false := by kernel_rfl
@[simp] theorem iu227 : (Tryz.prog.underlying 227).isSome = true := by kernel_rfl
@[simp] theorem sz227 : szOf Tryz.prog 227 = 1 := by kernel_rfl
@[simp] theorem by227 : bytesOf Tryz.prog 227 = 8 := by kernel_rfl
@[simp] theorem zo227 : (zeroOf Tryz.prog 227).isSome = true := by kernel_rfl
@[simp] theorem zd227 : zeroD Tryz.prog 227 = [(.int .u64 0)] := by kernel_rfl
@[simp] theorem ia227 : isAggT Tryz.prog 227 = false := by kernel_rfl
@[simp] theorem ik227 : intKindT Tryz.prog 227 = some .u64 := by kernel_rfl
@[simp] theorem sz231 : szOf Tryz.prog 231 = 1 := by kernel_rfl
@[simp] theorem iu231 : (Tryz.prog.underlying 231).isSome = true := by kernel_rfl
@[simp] theorem ia231 : isAggT Tryz.prog 231 = false := by kernel_rfl
@[simp] theorem iu238 : (Tryz.prog.underlying 238).isSome = true := by kernel_rfl
@[simp] theorem sz238 : szOf Tryz.prog 238 = 1 := by kernel_rfl
@[simp] theorem by238 : bytesOf Tryz.prog 238 = 8 := by kernel_rfl
@[simp] theorem zo238 : (zeroOf Tryz.prog 238).isSome = true := by kernel_rfl
@[simp] theorem zd238 : zeroD Tryz.prog 238 = [.nilm] := by kernel_rfl
@[simp] theorem ia238 : isAggT Tryz.prog 238 = false := by kernel_rfl
@[simp] theorem iu242 : (Tryz.prog.underlying 242).isSome = true := by kernel_rfl
@[simp] theorem sz242 : szOf Tryz.prog 242 = 5 := by kernel_rfl
@[simp] theorem by242 : bytesOf Tryz.prog 242 = 40 := by kernel_rfl
@[simp] theorem zo242 : (zeroOf Tryz.prog 242).isSome = true := by kernel_rfl
@[simp] theorem zd242 : zeroD Tryz.prog 242 = [(.int .i64 0), (.bool false), (.bool false), (.str ⟨#[]⟩), (.int .i64 0)] := by kernel_rfl
@[simp] theorem ia242 : isAggT Tryz.prog 242 = true := by kernel_rfl
@[simp] theorem ss242 : isStructT Tryz.prog 242 = true := by kernel_rfl
@[simp] theorem fk242 : fldOk Tryz.prog 242 = true := by kernel_rfl
@[simp] theorem eqk242 : eqKinds Tryz.prog 242 = some [.int, .bool, .bool, .str, .int] := by kernel_rfl
@[simp] theorem fo242_0 : fieldOff Tryz.prog 242 0 = some 0 := by kernel_rfl
@[simp] theorem fo242_1 : fieldOff Tryz.prog 242 1 = some 1 := by kernel_rfl
@[simp] theorem fo242_2 : fieldOff Tryz.prog 242 2 = some 2 := by kernel_rfl
@[simp] theorem fo242_3 : fieldOff Tryz.prog 242 3 = some 3 := by kernel_rfl
@[simp] theorem fo242_4 : fieldOff Tryz.prog 242 4 = some 4 := by kernel_rfl
@[simp] theorem fi242_0 : fInfo Tryz.prog 242 0 = some (0, 1) := by kernel_rfl
@[simp] theorem fi242_1 : fInfo Tryz.prog 242 1 = some (1, 1) := by kernel_rfl
@[simp] theorem fi242_2 : fInfo Tryz.prog 242 2 = some (2, 1) := by kernel_rfl
@[simp] theorem fi242_3 : fInfo Tryz.prog 242 3 = some (3, 1) := by kernel_rfl
@[simp] theorem fi242_4 : fInfo Tryz.prog 242 4 = some (4, 1) := by kernel_rfl
@[simp] theorem iu243 : (Tryz.prog.underlying 243).isSome = true := by kernel_rfl
@[simp] theorem sz243 : szOf Tryz.prog 243 = 5 := by kernel_rfl
@[simp] theorem by243 : bytesOf Tryz.prog 243 = 40 := by kernel_rfl
@[simp] theorem zo243 : (zeroOf Tryz.prog 243).isSome = true := by kernel_rfl
@[simp] theorem zd243 : zeroD Tryz.prog 243 = [(.int .i64 0), (.bool false), (.bool false), (.str ⟨#[]⟩), (.int .i64 0)] := by kernel_rfl
@[simp] theorem ia243 : isAggT Tryz.prog 243 = true := by kernel_rfl
@[simp] theorem ss243 : isStructT Tryz.prog 243 = true := by kernel_rfl
@[simp] theorem fk243 : fldOk Tryz.prog 243 = true := by kernel_rfl
@[simp] theorem eqk243 : eqKinds Tryz.prog 243 = some [.int, .bool, .bool, .str, .int] := by kernel_rfl
@[simp] theorem fo243_0 : fieldOff Tryz.prog 243 0 = some 0 := by kernel_rfl
@[simp] theorem fo243_1 : fieldOff Tryz.prog 243 1 = some 1 := by kernel_rfl
@[simp] theorem fo243_2 : fieldOff Tryz.prog 243 2 = some 2 := by kernel_rfl
@[simp] theorem fo243_3 : fieldOff Tryz.prog 243 3 = some 3 := by kernel_rfl
@[simp] theorem fo243_4 : fieldOff Tryz.prog 243 4 = some 4 := by kernel_rfl
@[simp] theorem fi243_0 : fInfo Tryz.prog 243 0 = some (0, 1) := by kernel_rfl
@[simp] theorem fi243_1 : fInfo Tryz.prog 243 1 = some (1, 1) := by kernel_rfl
@[simp] theorem fi243_2 : fInfo Tryz.prog 243 2 = some (2, 1) := by kernel_rfl
@[simp] theorem fi243_3 : fInfo Tryz.prog 243 3 = some (3, 1) := by kernel_rfl
@[simp] theorem fi243_4 : fInfo Tryz.prog 243 4 = some (4, 1) := by kernel_rfl
@[simp] theorem iu248 : (Tryz.prog.underlying 248).isSome = true := by kernel_rfl
@[simp] theorem sz248 : szOf Tryz.prog 248 = 1 := by kernel_rfl
@[simp] theorem by248 : bytesOf Tryz.prog 248 = 4 := by kernel_rfl
@[simp] theorem zo248 : (zeroOf Tryz.prog 248).isSome = true := by kernel_rfl
@[simp] theorem zd248 : zeroD Tryz.prog 248 = [(.int .u32 0)] := by kernel_rfl
@[simp] theorem ia248 : isAggT Tryz.prog 248 = false := by kernel_rfl
@[simp] theorem ik248 : intKindT Tryz.prog 248 = some .u32 := by kernel_rfl
@[simp] theorem iu251 : (Tryz.prog.underlying 251).isSome = true := by kernel_rfl
@[simp] theorem sz251 : szOf Tryz.prog 251 = 1 := by kernel_rfl
@[simp] theorem by251 : bytesOf Tryz.prog 251 = 8 := by kernel_rfl
@[simp] theorem zo251 : (zeroOf Tryz.prog 251).isSome = true := by kernel_rfl
@[simp] theorem zd251 : zeroD Tryz.prog 251 = [(.int .u64 0)] := by kernel_rfl
@[simp] theorem ia251 : isAggT Tryz.prog 251 = false := by kernel_rfl
@[simp] theorem ik251 : intKindT Tryz.prog 251 = some .u64 := by kernel_rfl
@[simp] theorem iu255 : (Tryz.prog.underlying 255).isSome = true := by kernel_rfl
@[simp] theorem sz255 : szOf Tryz.prog 255 = 1 := by kernel_rfl
@[simp] theorem by255 : bytesOf Tryz.prog 255 = 1 := by kernel_rfl
@[simp] theorem zo255 : (zeroOf Tryz.prog 255).isSome = true := by kernel_rfl
@[simp] theorem zd255 : zeroD Tryz.prog 255 = [(.int .u8 0)] := by kernel_rfl
@[simp] theorem ia255 : isAggT Tryz.prog 255 = false := by kernel_rfl
@[simp] theorem ik255 : intKindT Tryz.prog 255 = some .u8 := by kernel_rfl
@[simp] theorem iu259 : (Tryz.prog.underlying 259).isSome = true := by kernel_rfl
@[simp] theorem sz259 : szOf Tryz.prog 259 = 16 := by kernel_rfl
@[simp] theorem by259 : bytesOf Tryz.prog 259 = 256 := by kernel_rfl
@[simp] theorem zo259 : (zeroOf Tryz.prog 259).isSome = true := by kernel_rfl
@[simp] theorem zd259 : zeroD Tryz.prog 259 = [(.str ⟨#[]⟩), (.str ⟨#[]⟩), (.str ⟨#[]⟩), (.str ⟨#[]⟩), (.str ⟨#[]⟩), (.str ⟨#[]⟩), (.str ⟨#[]⟩), (.str ⟨#[]⟩), (.str ⟨#[]⟩), (.str ⟨#[]⟩), (.str ⟨#[]⟩), (.str ⟨#[]⟩), (.str ⟨#[]⟩), (.str ⟨#[]⟩), (.str ⟨#[]⟩), (.str ⟨#[]⟩)] := by kernel_rfl
@[simp] theorem ia259 : isAggT Tryz.prog 259 = true := by kernel_rfl
@[simp] theorem es259 : elemSz Tryz.prog 259 = 1 := by kernel_rfl
@[simp] theorem al259 : arrLen Tryz.prog 259 = some 16 := by kernel_rfl
@[simp] theorem is259 : isSliceT Tryz.prog 259 = false := by kernel_rfl
@[simp] theorem ss259 : isStructT Tryz.prog 259 = true := by kernel_rfl
@[simp] theorem fk259 : fldOk Tryz.prog 259 = true := by kernel_rfl
@[simp] theorem fi259_0 : fInfo Tryz.prog 259 0 = some (0, 1) := by kernel_rfl
@[simp] theorem fi259_1 : fInfo Tryz.prog 259 1 = some (1, 1) := by kernel_rfl
@[simp] theorem fi259_2 : fInfo Tryz.prog 259 2 = some (2, 1) := by kernel_rfl
@[simp] theorem fi259_3 : fInfo Tryz.prog 259 3 = some (3, 1) := by kernel_rfl
@[simp] theorem fi259_4 : fInfo Tryz.prog 259 4 = some (4, 1) := by kernel_rfl
@[simp] theorem fi259_5 : fInfo Tryz.prog 259 5 = some (5, 1) := by kernel_rfl
@[simp] theorem fi259_6 : fInfo Tryz.prog 259 6 = some (6, 1) := by kernel_rfl
@[simp] theorem fi259_7 : fInfo Tryz.prog 259 7 = some (7, 1) := by kernel_rfl
@[simp] theorem fi259_8 : fInfo Tryz.prog 259 8 = some (8, 1) := by kernel_rfl
@[simp] theorem fi259_9 : fInfo Tryz.prog 259 9 = some (9, 1) := by kernel_rfl
@[simp] theorem fi259_10 : fInfo Tryz.prog 259 10 = some (10, 1) := by kernel_rfl
@[simp] theorem fi259_11 : fInfo Tryz.prog 259 11 = some (11, 1) := by kernel_rfl
@[simp] theorem fi259_12 : fInfo Tryz.prog 259 12 = some (12, 1) := by kernel_rfl
@[simp] theorem fi259_13 : fInfo Tryz.prog 259 13 = some (13, 1) := by kernel_rfl
@[simp] theorem fi259_14 : fInfo Tryz.prog 259 14 = some (14, 1) := by kernel_rfl
@[simp] theorem fi259_15 : fInfo Tryz.prog 259 15 = some (15, 1) := by kernel_rfl
@[simp] theorem iu261 : (Tryz.prog.underlying 261).isSome = true := by kernel_rfl
@[simp] theorem sz261 : szOf Tryz.prog 261 = 75 := by kernel_rfl
@[simp] theorem by261 : bytesOf Tryz.prog 261 = 600 := by kernel_rfl
@[simp] theorem zo261 : (zeroOf Tryz.prog 261).isSome = true := by kernel_rfl
@[simp] theorem zd261 : zeroD Tryz.prog 261 = [(.int .i64 0), (.bool false), (.bool false), (.str ⟨#[]⟩), (.int .i64 0), (.int .i64 0), (.bool false), (.bool false), (.str ⟨#[]⟩), (.int .i64 0), (.int .i64 0), (.bool false), (.bool false), (.str ⟨#[]⟩), (.int .i64 0), (.int .i64 0), (.bool false), (.bool false), (.str ⟨#[]⟩), (.int .i64 0), (.int .i64 0), (.bool false), (.bool false), (.str ⟨#[]⟩), (.int .i64 0), (.int .i64 0), (.bool false), (.bool false), (.str ⟨#[]⟩), (.int .i64 0), (.int .i64 0), (.bool false), (.bool false), (.str ⟨#[]⟩), (.int .i64 0), (.int .i64 0), (.bool false), (.bool false), (.str ⟨#[]⟩), (.int .i64 0), (.int .i64 0), (.bool false), (.bool false), (.str ⟨#[]⟩), (.int .i64 0), (.int .i64 0), (.bool false), (.bool false), (.str ⟨#[]⟩), (.int .i64 0), (.int .i64 0), (.bool false), (.bool false), (.str ⟨#[]⟩), (.int .i64 0), (.int .i64 0), (.bool false), (.bool false), (.str ⟨#[]⟩), (.int .i64 0), (.int .i64 0), (.bool false), (.bool false), (.str ⟨#[]⟩), (.int .i64 0), (.int .i64 0), (.bool false), (.bool false), (.str ⟨#[]⟩), (.int .i64 0), (.int .i64 0), (.bool false), (.bool false), (.str ⟨#[]⟩), (.int .i64 0)] := by kernel_rfl
@[simp] theorem ia261 : isAggT Tryz.prog 261 = true := by kernel_rfl
@[simp] theorem es261 : elemSz Tryz.prog 261 = 5 := by kernel_rfl
@[simp] theorem al261 : arrLen Tryz.prog 261 = some 15 := by kernel_rfl
@[simp] theorem is261 : isSliceT Tryz.prog 261 = false := by kernel_rfl
@[simp] theorem ss261 : isStructT Tryz.prog 261 = true := by kernel_rfl
@[simp] theorem fk261 : fldOk Tryz.prog 261 = true := by kernel_rfl
@[simp] theorem fi261_0 : fInfo Tryz.prog 261 0 = some (0, 5) := by kernel_rfl
@[simp] theorem fi261_1 : fInfo Tryz.prog 261 1 = some (5, 5) := by kernel_rfl
@[simp] theorem fi261_2 : fInfo Tryz.prog 261 2 = some (10, 5) := by kernel_rfl
@[simp] theorem fi261_3 : fInfo Tryz.prog 261 3 = some (15, 5) := by kernel_rfl
@[simp] theorem fi261_4 : fInfo Tryz.prog 261 4 = some (20, 5) := by kernel_rfl
@[simp] theorem fi261_5 : fInfo Tryz.prog 261 5 = some (25, 5) := by kernel_rfl
@[simp] theorem fi261_6 : fInfo Tryz.prog 261 6 = some (30, 5) := by kernel_rfl
@[simp] theorem fi261_7 : fInfo Tryz.prog 261 7 = some (35, 5) := by kernel_rfl
@[simp] theorem fi261_8 : fInfo Tryz.prog 261 8 = some (40, 5) := by kernel_rfl
@[simp] theorem fi261_9 : fInfo Tryz.prog 261 9 = some (45, 5) := by kernel_rfl
@[simp] theorem fi261_10 : fInfo Tryz.prog 261 10 = some (50, 5) := by kernel_rfl
@[simp] theorem fi261_11 : fInfo Tryz.prog 261 11 = some (55, 5) := by kernel_rfl
@[simp] theorem fi261_12 : fInfo Tryz.prog 261 12 = some (60, 5) := by kernel_rfl
@[simp] theorem fi261_13 : fInfo Tryz.prog 261 13 = some (65, 5) := by kernel_rfl
@[simp] theorem fi261_14 : fInfo Tryz.prog 261 14 = some (70, 5) := by kernel_rfl
@[simp] theorem iu263 : (Tryz.prog.underlying 263).isSome = true := by kernel_rfl
@[simp] theorem sz263 : szOf Tryz.prog 263 = 15 := by kernel_rfl
@[simp] theorem by263 : bytesOf Tryz.prog 263 = 240 := by kernel_rfl
@[simp] theorem zo263 : (zeroOf Tryz.prog 263).isSome = true := by kernel_rfl
@[simp] theorem zd263 : zeroD Tryz.prog 263 = [(.str ⟨#[]⟩), (.str ⟨#[]⟩), (.str ⟨#[]⟩), (.str ⟨#[]⟩), (.str ⟨#[]⟩), (.str ⟨#[]⟩), (.str ⟨#[]⟩), (.str ⟨#[]⟩), (.str ⟨#[]⟩), (.str ⟨#[]⟩), (.str ⟨#[]⟩), (.str ⟨#[]⟩), (.str ⟨#[]⟩), (.str ⟨#[]⟩), (.str ⟨#[]⟩)] := by kernel_rfl
@[simp] theorem ia263 : isAggT Tryz.prog 263 = true := by kernel_rfl
@[simp] theorem es263 : elemSz Tryz.prog 263 = 1 := by kernel_rfl
@[simp] theorem al263 : arrLen Tryz.prog 263 = some 15 := by kernel_rfl
@[simp] theorem is263 : isSliceT Tryz.prog 263 = false := by kernel_rfl
@[simp] theorem ss263 : isStructT Tryz.prog 263 = true := by kernel_rfl
@[simp] theorem fk263 : fldOk Tryz.prog 263 = true := by kernel_rfl
@[simp] theorem fi263_0 : fInfo Tryz.prog 263 0 = some (0, 1) := by kernel_rfl
@[simp] theorem fi263_1 : fInfo Tryz.prog 263 1 = some (1, 1) := by kernel_rfl
@[simp] theorem fi263_2 : fInfo Tryz.prog 263 2 = some (2, 1) := by kernel_rfl
@[simp] theorem fi263_3 : fInfo Tryz.prog 263 3 = some (3, 1) := by kernel_rfl
@[simp] theorem fi263_4 : fInfo Tryz.prog 263 4 = some (4, 1) := by kernel_rfl
@[simp] theorem fi263_5 : fInfo Tryz.prog 263 5 = some (5, 1) := by kernel_rfl
@[simp] theorem fi263_6 : fInfo Tryz.prog 263 6 = some (6, 1) := by kernel_rfl
@[simp] theorem fi263_7 : fInfo Tryz.prog 263 7 = some (7, 1) := by kernel_rfl
@[simp] theorem fi263_8 : fInfo Tryz.prog 263 8 = some (8, 1) := by kernel_rfl
@[simp] theorem fi263_9 : fInfo Tryz.prog 263 9 = some (9, 1) := by kernel_rfl
@[simp] theorem fi263_10 : fInfo Tryz.prog 263 10 = some (10, 1) := by kernel_rfl
@[simp] theorem fi263_11 : fInfo Tryz.prog 263 11 = some (11, 1) := by kernel_rfl
@[simp] theorem fi263_12 : fInfo Tryz.prog 263 12 = some (12, 1) := by kernel_rfl
@[simp] theorem fi263_13 : fInfo Tryz.prog 263 13 = some (13, 1) := by kernel_rfl
@[simp] theorem fi263_14 : fInfo Tryz.prog 263 14 = some (14, 1) := by kernel_rfl
@[simp] theorem iu264 : (Tryz.prog.underlying 264).isSome = true := by kernel_rfl
@[simp] theorem sz264 : szOf Tryz.prog 264 = 4 := by kernel_rfl
@[simp] theorem by264 : bytesOf Tryz.prog 264 = 40 := by kernel_rfl
@[simp] theorem zo264 : (zeroOf Tryz.prog 264).isSome = true := by kernel_rfl
@[simp] theorem zd264 : zeroD Tryz.prog 264 = [(.int .i64 0), (.str ⟨#[]⟩), (.int .i64 0), (.int .i64 0)] := by kernel_rfl
@[simp] theorem ia264 : isAggT Tryz.prog 264 = true := by kernel_rfl
@[simp] theorem ss264 : isStructT Tryz.prog 264 = true := by kernel_rfl
@[simp] theorem fk264 : fldOk Tryz.prog 264 = true := by kernel_rfl
@[simp] theorem eqk264 : eqKinds Tryz.prog 264 = some [.int, .str, .int, .int] := by kernel_rfl
@[simp] theorem fo264_0 : fieldOff Tryz.prog 264 0 = some 0 := by kernel_rfl
@[simp] theorem fo264_1 : fieldOff Tryz.prog 264 1 = some 1 := by kernel_rfl
@[simp] theorem fo264_2 : fieldOff Tryz.prog 264 2 = some 2 := by kernel_rfl
@[simp] theorem fo264_3 : fieldOff Tryz.prog 264 3 = some 3 := by kernel_rfl
@[simp] theorem fi264_0 : fInfo Tryz.prog 264 0 = some (0, 1) := by kernel_rfl
@[simp] theorem fi264_1 : fInfo Tryz.prog 264 1 = some (1, 1) := by kernel_rfl
@[simp] theorem fi264_2 : fInfo Tryz.prog 264 2 = some (2, 1) := by kernel_rfl
@[simp] theorem fi264_3 : fInfo Tryz.prog 264 3 = some (3, 1) := by kernel_rfl
@[simp] theorem iu265 : (Tryz.prog.underlying 265).isSome = true := by kernel_rfl
@[simp] theorem sz265 : szOf Tryz.prog 265 = 4 := by kernel_rfl
@[simp] theorem by265 : bytesOf Tryz.prog 265 = 40 := by kernel_rfl
@[simp] theorem zo265 : (zeroOf Tryz.prog 265).isSome = true := by kernel_rfl
@[simp] theorem zd265 : zeroD Tryz.prog 265 = [(.int .i64 0), (.str ⟨#[]⟩), (.int .i64 0), (.int .i64 0)] := by kernel_rfl
@[simp] theorem ia265 : isAggT Tryz.prog 265 = true := by kernel_rfl
@[simp] theorem ss265 : isStructT Tryz.prog 265 = true := by kernel_rfl
@[simp] theorem fk265 : fldOk Tryz.prog 265 = true := by kernel_rfl
@[simp] theorem eqk265 : eqKinds Tryz.prog 265 = some [.int, .str, .int, .int] := by kernel_rfl
@[simp] theorem fo265_0 : fieldOff Tryz.prog 265 0 = some 0 := by kernel_rfl
@[simp] theorem fo265_1 : fieldOff Tryz.prog 265 1 = some 1 := by kernel_rfl
@[simp] theorem fo265_2 : fieldOff Tryz.prog 265 2 = some 2 := by kernel_rfl
@[simp] theorem fo265_3 : fieldOff Tryz.prog 265 3 = some 3 := by kernel_rfl
@[simp] theorem fi265_0 : fInfo Tryz.prog 265 0 = some (0, 1) := by kernel_rfl
@[simp] theorem fi265_1 : fInfo Tryz.prog 265 1 = some (1, 1) := by kernel_rfl
@[simp] theorem fi265_2 : fInfo Tryz.prog 265 2 = some (2, 1) := by kernel_rfl
@[simp] theorem fi265_3 : fInfo Tryz.prog 265 3 = some (3, 1) := by kernel_rfl
@[simp] theorem iu270 : (Tryz.prog.underlying 270).isSome = true := by kernel_rfl
@[simp] theorem sz270 : szOf Tryz.prog 270 = 11 := by kernel_rfl
@[simp] theorem by270 : bytesOf Tryz.prog 270 = 176 := by kernel_rfl
@[simp] theorem zo270 : (zeroOf Tryz.prog 270).isSome = true := by kernel_rfl
@[simp] theorem zd270 : zeroD Tryz.prog 270 = [(.str ⟨#[]⟩), (.str ⟨#[]⟩), (.str ⟨#[]⟩), (.str ⟨#[]⟩), (.str ⟨#[]⟩), (.str ⟨#[]⟩), (.str ⟨#[]⟩), (.str ⟨#[]⟩), (.str ⟨#[]⟩), (.str ⟨#[]⟩), (.str ⟨#[]⟩)] := by kernel_rfl
@[simp] theorem ia270 : isAggT Tryz.prog 270 = true := by kernel_rfl
@[simp] theorem es270 : elemSz Tryz.prog 270 = 1 := by kernel_rfl
@[simp] theorem al270 : arrLen Tryz.prog 270 = some 11 := by kernel_rfl
@[simp] theorem is270 : isSliceT Tryz.prog 270 = false := by kernel_rfl
@[simp] theorem ss270 : isStructT Tryz.prog 270 = true := by kernel_rfl
@[simp] theorem fk270 : fldOk Tryz.prog 270 = true := by kernel_rfl
@[simp] theorem fi270_0 : fInfo Tryz.prog 270 0 = some (0, 1) := by kernel_rfl
@[simp] theorem fi270_1 : fInfo Tryz.prog 270 1 = some (1, 1) := by kernel_rfl
@[simp] theorem fi270_2 : fInfo Tryz.prog 270 2 = some (2, 1) := by kernel_rfl
@[simp] theorem fi270_3 : fInfo Tryz.prog 270 3 = some (3, 1) := by kernel_rfl
@[simp] theorem fi270_4 : fInfo Tryz.prog 270 4 = some (4, 1) := by kernel_rfl
@[simp] theorem fi270_5 : fInfo Tryz.prog 270 5 = some (5, 1) := by kernel_rfl
@[simp] theorem fi270_6 : fInfo Tryz.prog 270 6 = some (6, 1) := by kernel_rfl
@[simp] theorem fi270_7 : fInfo Tryz.prog 270 7 = some (7, 1) := by kernel_rfl
@[simp] theorem fi270_8 : fInfo Tryz.prog 270 8 = some (8, 1) := by kernel_rfl
@[simp] theorem fi270_9 : fInfo Tryz.prog 270 9 = some (9, 1) := by kernel_rfl
@[simp] theorem fi270_10 : fInfo Tryz.prog 270 10 = some (10, 1) := by kernel_rfl
end Fx
end Go.Proofs.YtgmlimipejcpgaaGreatDoor
end
