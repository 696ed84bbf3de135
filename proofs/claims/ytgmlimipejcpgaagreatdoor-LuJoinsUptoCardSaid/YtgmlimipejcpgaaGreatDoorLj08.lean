/-
  YtgmlimipejcpgaaGreatDoorLj08: steps of the proof of a law of the program: what these texts prove holds under the hypotheses that their theorems name, and no others.
-/
import Derived.Test.YtgmlimipejcpgaaGreatDoorProg
import Derived.Test.YtgmlimipejcpgaaGreatDoorLj07
import Derived.KernelRfl
section
set_option maxRecDepth 100000
namespace Go.Proofs.YtgmlimipejcpgaaGreatDoor
open Go.AM
namespace Fx
@[simp] theorem by2 : bytesOf Tryz.prog 2 = 8 := by kernel_rfl
@[simp] theorem sz3 : szOf Tryz.prog 3 = 1 := by kernel_rfl
@[simp] theorem by3 : bytesOf Tryz.prog 3 = 8 := by kernel_rfl
@[simp] theorem zo3 : (zeroOf Tryz.prog 3).isSome = true := by kernel_rfl
@[simp] theorem zd3 : zeroD Tryz.prog 3 = [(.int .i64 0)] := by kernel_rfl
@[simp] theorem ia3 : isAggT Tryz.prog 3 = false := by kernel_rfl
@[simp] theorem ik3 : intKindT Tryz.prog 3 = some .i64 := by kernel_rfl
@[simp] theorem ia4 : isAggT Tryz.prog 4 = false := by kernel_rfl
@[simp] theorem ib4 : isBoolT Tryz.prog 4 = true := by kernel_rfl
@[simp] theorem sz9 : szOf Tryz.prog 9 = 1 := by kernel_rfl
@[simp] theorem by9 : bytesOf Tryz.prog 9 = 16 := by kernel_rfl
@[simp] theorem zo9 : (zeroOf Tryz.prog 9).isSome = true := by kernel_rfl
@[simp] theorem zd9 : zeroD Tryz.prog 9 = [(.str ⟨#[]⟩)] := by kernel_rfl
@[simp] theorem ia9 : isAggT Tryz.prog 9 = false := by kernel_rfl
@[simp] theorem st9 : isStrT Tryz.prog 9 = true := by kernel_rfl
@[simp] theorem sz22 : szOf Tryz.prog 22 = 1 := by kernel_rfl
@[simp] theorem zo22 : (zeroOf Tryz.prog 22).isSome = true := by kernel_rfl
@[simp] theorem zd22 : zeroD Tryz.prog 22 = [.nils] := by kernel_rfl
@[simp] theorem ia22 : isAggT Tryz.prog 22 = false := by kernel_rfl
@[simp] theorem is22 : isSliceT Tryz.prog 22 = true := by kernel_rfl
@[simp] theorem el22 : Go.AM.elemOf Tryz.prog 22 = 9 := by kernel_rfl
@[simp] theorem es22 : elemSz Tryz.prog 22 = 1 := by kernel_rfl
@[simp] theorem ia23 : isAggT Tryz.prog 23 = false := by kernel_rfl
@[simp] theorem is23 : isSliceT Tryz.prog 23 = true := by kernel_rfl
@[simp] theorem es23 : elemSz Tryz.prog 23 = 4 := by kernel_rfl
@[simp] theorem ia24 : isAggT Tryz.prog 24 = false := by kernel_rfl
@[simp] theorem is24 : isSliceT Tryz.prog 24 = true := by kernel_rfl
@[simp] theorem el24 : Go.AM.elemOf Tryz.prog 24 = 104 := by kernel_rfl
@[simp] theorem es24 : elemSz Tryz.prog 24 = 3 := by kernel_rfl
@[simp] theorem sz26 : szOf Tryz.prog 26 = 4 := by kernel_rfl
@[simp] theorem zo26 : (zeroOf Tryz.prog 26).isSome = true := by kernel_rfl
@[simp] theorem zd26 : zeroD Tryz.prog 26 = [.nils, .nils, .nils, .nils] := by kernel_rfl
@[simp] theorem ia26 : isAggT Tryz.prog 26 = true := by kernel_rfl
@[simp] theorem ss26 : isStructT Tryz.prog 26 = true := by kernel_rfl
@[simp] theorem fk26 : fldOk Tryz.prog 26 = true := by kernel_rfl
@[simp] theorem fo26_0 : fieldOff Tryz.prog 26 0 = some 0 := by kernel_rfl
@[simp] theorem fo26_1 : fieldOff Tryz.prog 26 1 = some 1 := by kernel_rfl
@[simp] theorem fo26_2 : fieldOff Tryz.prog 26 2 = some 2 := by kernel_rfl
@[simp] theorem fo26_3 : fieldOff Tryz.prog 26 3 = some 3 := by kernel_rfl
@[simp] theorem fi26_0 : fInfo Tryz.prog 26 0 = some (0, 1) := by kernel_rfl
@[simp] theorem fi26_3 : fInfo Tryz.prog 26 3 = some (3, 1) := by kernel_rfl
@[simp] theorem sz29 : szOf Tryz.prog 29 = 3 := by kernel_rfl
@[simp] theorem zo29 : (zeroOf Tryz.prog 29).isSome = true := by kernel_rfl
@[simp] theorem zd29 : zeroD Tryz.prog 29 = [(.int .i64 0), (.int .i64 0), (.int .i64 0)] := by kernel_rfl
@[simp] theorem ia29 : isAggT Tryz.prog 29 = true := by kernel_rfl
@[simp] theorem ss29 : isStructT Tryz.prog 29 = true := by kernel_rfl
@[simp] theorem fk29 : fldOk Tryz.prog 29 = true := by kernel_rfl
@[simp] theorem fi29_0 : fInfo Tryz.prog 29 0 = some (0, 1) := by kernel_rfl
@[simp] theorem fi29_1 : fInfo Tryz.prog 29 1 = some (1, 1) := by kernel_rfl
@[simp] theorem fi29_2 : fInfo Tryz.prog 29 2 = some (2, 1) := by kernel_rfl
@[simp] theorem sz30 : szOf Tryz.prog 30 = 1 := by kernel_rfl
@[simp] theorem zo30 : (zeroOf Tryz.prog 30).isSome = true := by kernel_rfl
@[simp] theorem zd30 : zeroD Tryz.prog 30 = [(.int .i64 0)] := by kernel_rfl
@[simp] theorem ia30 : isAggT Tryz.prog 30 = false := by kernel_rfl
@[simp] theorem sz37 : szOf Tryz.prog 37 = 1 := by kernel_rfl
@[simp] theorem ia37 : isAggT Tryz.prog 37 = false := by kernel_rfl
@[simp] theorem ia41 : isAggT Tryz.prog 41 = false := by kernel_rfl
@[simp] theorem is41 : isSliceT Tryz.prog 41 = true := by kernel_rfl
@[simp] theorem es41 : elemSz Tryz.prog 41 = 3 := by kernel_rfl
@[simp] theorem is46 : isSliceT Tryz.prog 46 = true := by kernel_rfl
@[simp] theorem es46 : elemSz Tryz.prog 46 = 1 := by kernel_rfl
@[simp] theorem sz47 : szOf Tryz.prog 47 = 1 := by kernel_rfl
@[simp] theorem by47 : bytesOf Tryz.prog 47 = 24 := by kernel_rfl
@[simp] theorem zo47 : (zeroOf Tryz.prog 47).isSome = true := by kernel_rfl
@[simp] theorem zd47 : zeroD Tryz.prog 47 = [.nils] := by kernel_rfl
@[simp] theorem ia47 : isAggT Tryz.prog 47 = false := by kernel_rfl
@[simp] theorem is47 : isSliceT Tryz.prog 47 = true := by kernel_rfl
@[simp] theorem el47 : Go.AM.elemOf Tryz.prog 47 = 3 := by kernel_rfl
@[simp] theorem es47 : elemSz Tryz.prog 47 = 1 := by kernel_rfl
@[simp] theorem ia52 : isAggT Tryz.prog 52 = false := by kernel_rfl
@[simp] theorem is52 : isSliceT Tryz.prog 52 = true := by kernel_rfl
@[simp] theorem ia53 : isAggT Tryz.prog 53 = false := by kernel_rfl
@[simp] theorem is53 : isSliceT Tryz.prog 53 = true := by kernel_rfl
@[simp] theorem el53 : Go.AM.elemOf Tryz.prog 53 = 22 := by kernel_rfl
@[simp] theorem es53 : elemSz Tryz.prog 53 = 1 := by kernel_rfl
@[simp] theorem sz54 : szOf Tryz.prog 54 = 1 := by kernel_rfl
@[simp] theorem by54 : bytesOf Tryz.prog 54 = 24 := by kernel_rfl
@[simp] theorem zo54 : (zeroOf Tryz.prog 54).isSome = true := by kernel_rfl
@[simp] theorem zd54 : zeroD Tryz.prog 54 = [.nils] := by kernel_rfl
@[simp] theorem ia54 : isAggT Tryz.prog 54 = false := by kernel_rfl
@[simp] theorem is54 : isSliceT Tryz.prog 54 = true := by kernel_rfl
@[simp] theorem el54 : Go.AM.elemOf Tryz.prog 54 = 47 := by kernel_rfl
@[simp] theorem es54 : elemSz Tryz.prog 54 = 1 := by kernel_rfl
@[simp] theorem ia55 : isAggT Tryz.prog 55 = false := by kernel_rfl
@[simp] theorem is55 : isSliceT Tryz.prog 55 = true := by kernel_rfl
@[simp] theorem ia56 : isAggT Tryz.prog 56 = false := by kernel_rfl
@[simp] theorem is56 : isSliceT Tryz.prog 56 = true := by kernel_rfl
@[simp] theorem ia57 : isAggT Tryz.prog 57 = false := by kernel_rfl
@[simp] theorem is57 : isSliceT Tryz.prog 57 = true := by kernel_rfl
@[simp] theorem ia58 : isAggT Tryz.prog 58 = false := by kernel_rfl
@[simp] theorem is58 : isSliceT Tryz.prog 58 = true := by kernel_rfl
@[simp] theorem ia59 : isAggT Tryz.prog 59 = false := by kernel_rfl
@[simp] theorem is59 : isSliceT Tryz.prog 59 = true := by kernel_rfl
@[simp] theorem ia60 : isAggT Tryz.prog 60 = false := by kernel_rfl
@[simp] theorem is60 : isSliceT Tryz.prog 60 = true := by kernel_rfl
@[simp] theorem ia61 : isAggT Tryz.prog 61 = false := by kernel_rfl
@[simp] theorem is61 : isSliceT Tryz.prog 61 = true := by kernel_rfl
@[simp] theorem ia62 : isAggT Tryz.prog 62 = false := by kernel_rfl
@[simp] theorem is62 : isSliceT Tryz.prog 62 = true := by kernel_rfl
@[simp] theorem ia63 : isAggT Tryz.prog 63 = false := by kernel_rfl
@[simp] theorem is63 : isSliceT Tryz.prog 63 = true := by kernel_rfl
@[simp] theorem ia64 : isAggT Tryz.prog 64 = false := by kernel_rfl
@[simp] theorem is64 : isSliceT Tryz.prog 64 = true := by kernel_rfl
@[simp] theorem ia65 : isAggT Tryz.prog 65 = false := by kernel_rfl
@[simp] theorem is65 : isSliceT Tryz.prog 65 = true := by kernel_rfl
@[simp] theorem sz67 : szOf Tryz.prog 67 = 14 := by kernel_rfl
@[simp] theorem zo67 : (zeroOf Tryz.prog 67).isSome = true := by kernel_rfl
@[simp] theorem zd67 : zeroD Tryz.prog 67 = [.nils, .nils, .nils, .nils, .nils, .nils, .nils, .nils, .nils, .nils, .nils, .nils, .nils, .nils] := by kernel_rfl
@[simp] theorem ss67 : isStructT Tryz.prog 67 = true := by kernel_rfl
@[simp] theorem fk67 : fldOk Tryz.prog 67 = true := by kernel_rfl
@[simp] theorem fo67_0 : fieldOff Tryz.prog 67 0 = some 0 := by kernel_rfl
@[simp] theorem fo67_1 : fieldOff Tryz.prog 67 1 = some 1 := by kernel_rfl
@[simp] theorem fo67_2 : fieldOff Tryz.prog 67 2 = some 2 := by kernel_rfl
@[simp] theorem fo67_3 : fieldOff Tryz.prog 67 3 = some 3 := by kernel_rfl
@[simp] theorem fo67_4 : fieldOff Tryz.prog 67 4 = some 4 := by kernel_rfl
@[simp] theorem fo67_5 : fieldOff Tryz.prog 67 5 = some 5 := by kernel_rfl
@[simp] theorem fo67_6 : fieldOff Tryz.prog 67 6 = some 6 := by kernel_rfl
@[simp] theorem fo67_7 : fieldOff Tryz.prog 67 7 = some 7 := by kernel_rfl
@[simp] theorem fo67_8 : fieldOff Tryz.prog 67 8 = some 8 := by kernel_rfl
@[simp] theorem fo67_9 : fieldOff Tryz.prog 67 9 = some 9 := by kernel_rfl
@[simp] theorem fo67_10 : fieldOff Tryz.prog 67 10 = some 10 := by kernel_rfl
@[simp] theorem fo67_11 : fieldOff Tryz.prog 67 11 = some 11 := by kernel_rfl
@[simp] theorem fo67_12 : fieldOff Tryz.prog 67 12 = some 12 := by kernel_rfl
@[simp] theorem fo67_13 : fieldOff Tryz.prog 67 13 = some 13 := by kernel_rfl
@[simp] theorem sz80 : szOf Tryz.prog 80 = 1 := by kernel_rfl
@[simp] theorem ia80 : isAggT Tryz.prog 80 = false := by kernel_rfl
@[simp] theorem is80 : isSliceT Tryz.prog 80 = true := by kernel_rfl
@[simp] theorem el80 : Go.AM.elemOf Tryz.prog 80 = 54 := by kernel_rfl
@[simp] theorem es80 : elemSz Tryz.prog 80 = 1 := by kernel_rfl
@[simp] theorem sz82 : szOf Tryz.prog 82 = 2 := by kernel_rfl
@[simp] theorem by82 : bytesOf Tryz.prog 82 = 48 := by kernel_rfl
@[simp] theorem zo82 : (zeroOf Tryz.prog 82).isSome = true := by kernel_rfl
@[simp] theorem zd82 : zeroD Tryz.prog 82 = [.nils, .nils] := by kernel_rfl
@[simp] theorem ia82 : isAggT Tryz.prog 82 = true := by kernel_rfl
@[simp] theorem ss82 : isStructT Tryz.prog 82 = true := by kernel_rfl
@[simp] theorem fk82 : fldOk Tryz.prog 82 = true := by kernel_rfl
@[simp] theorem fo82_0 : fieldOff Tryz.prog 82 0 = some 0 := by kernel_rfl
@[simp] theorem fo82_1 : fieldOff Tryz.prog 82 1 = some 1 := by kernel_rfl
@[simp] theorem fi82_0 : fInfo Tryz.prog 82 0 = some (0, 1) := by kernel_rfl
@[simp] theorem fi82_1 : fInfo Tryz.prog 82 1 = some (1, 1) := by kernel_rfl
@[simp] theorem is94 : isSliceT Tryz.prog 94 = true := by kernel_rfl
@[simp] theorem el94 : Go.AM.elemOf Tryz.prog 94 = 82 := by kernel_rfl
@[simp] theorem es94 : elemSz Tryz.prog 94 = 2 := by kernel_rfl
@[simp] theorem ia101 : isAggT Tryz.prog 101 = false := by kernel_rfl
@[simp] theorem is101 : isSliceT Tryz.prog 101 = true := by kernel_rfl
@[simp] theorem el101 : Go.AM.elemOf Tryz.prog 101 = 108 := by kernel_rfl
@[simp] theorem es101 : elemSz Tryz.prog 101 = 3 := by kernel_rfl
@[simp] theorem ia102 : isAggT Tryz.prog 102 = false := by kernel_rfl
@[simp] theorem is102 : isSliceT Tryz.prog 102 = true := by kernel_rfl
@[simp] theorem el102 : Go.AM.elemOf Tryz.prog 102 = 113 := by kernel_rfl
@[simp] theorem es102 : elemSz Tryz.prog 102 = 7 := by kernel_rfl
@[simp] theorem sz104 : szOf Tryz.prog 104 = 3 := by kernel_rfl
@[simp] theorem zo104 : (zeroOf Tryz.prog 104).isSome = true := by kernel_rfl
@[simp] theorem zd104 : zeroD Tryz.prog 104 = [(.str ⟨#[]⟩), .nils, .nils] := by kernel_rfl
@[simp] theorem ia104 : isAggT Tryz.prog 104 = true := by kernel_rfl
@[simp] theorem ss104 : isStructT Tryz.prog 104 = true := by kernel_rfl
@[simp] theorem fk104 : fldOk Tryz.prog 104 = true := by kernel_rfl
@[simp] theorem fo104_0 : fieldOff Tryz.prog 104 0 = some 0 := by kernel_rfl
@[simp] theorem fo104_1 : fieldOff Tryz.prog 104 1 = some 1 := by kernel_rfl
@[simp] theorem fo104_2 : fieldOff Tryz.prog 104 2 = some 2 := by kernel_rfl
@[simp] theorem fi104_0 : fInfo Tryz.prog 104 0 = some (0, 1) := by kernel_rfl
@[simp] theorem fi104_1 : fInfo Tryz.prog 104 1 = some (1, 1) := by kernel_rfl
@[simp] theorem fi104_2 : fInfo Tryz.prog 104 2 = some (2, 1) := by kernel_rfl
@[simp] theorem ia105 : isAggT Tryz.prog 105 = false := by kernel_rfl
@[simp] theorem ia106 : isAggT Tryz.prog 106 = false := by kernel_rfl
@[simp] theorem is106 : isSliceT Tryz.prog 106 = true := by kernel_rfl
@[simp] theorem el106 : Go.AM.elemOf Tryz.prog 106 = 127 := by kernel_rfl
@[simp] theorem es106 : elemSz Tryz.prog 106 = 4 := by kernel_rfl
@[simp] theorem sz108 : szOf Tryz.prog 108 = 3 := by kernel_rfl
@[simp] theorem zo108 : (zeroOf Tryz.prog 108).isSome = true := by kernel_rfl
@[simp] theorem zd108 : zeroD Tryz.prog 108 = [(.str ⟨#[]⟩), (.int .u8 0), .nils] := by kernel_rfl
@[simp] theorem ia108 : isAggT Tryz.prog 108 = true := by kernel_rfl
@[simp] theorem ss108 : isStructT Tryz.prog 108 = true := by kernel_rfl
@[simp] theorem fk108 : fldOk Tryz.prog 108 = true := by kernel_rfl
@[simp] theorem fo108_0 : fieldOff Tryz.prog 108 0 = some 0 := by kernel_rfl
@[simp] theorem fo108_1 : fieldOff Tryz.prog 108 1 = some 1 := by kernel_rfl
@[simp] theorem fo108_2 : fieldOff Tryz.prog 108 2 = some 2 := by kernel_rfl
@[simp] theorem fi108_0 : fInfo Tryz.prog 108 0 = some (0, 1) := by kernel_rfl
@[simp] theorem fi108_2 : fInfo Tryz.prog 108 2 = some (2, 1) := by kernel_rfl
@[simp] theorem ia110 : isAggT Tryz.prog 110 = false := by kernel_rfl
@[simp] theorem is110 : isSliceT Tryz.prog 110 = true := by kernel_rfl
@[simp] theorem es110 : elemSz Tryz.prog 110 = 2 := by kernel_rfl
@[simp] theorem ia111 : isAggT Tryz.prog 111 = false := by kernel_rfl
@[simp] theorem is111 : isSliceT Tryz.prog 111 = true := by kernel_rfl
@[simp] theorem el111 : Go.AM.elemOf Tryz.prog 111 = 116 := by kernel_rfl
@[simp] theorem es111 : elemSz Tryz.prog 111 = 4 := by kernel_rfl
@[simp] theorem sz113 : szOf Tryz.prog 113 = 7 := by kernel_rfl
@[simp] theorem zo113 : (zeroOf Tryz.prog 113).isSome = true := by kernel_rfl
@[simp] theorem zd113 : zeroD Tryz.prog 113 = [(.int .i64 0), (.int .i64 0), .nils, .nils, (.int .i64 0), (.bool false), .nils] := by kernel_rfl
@[simp] theorem ia113 : isAggT Tryz.prog 113 = true := by kernel_rfl
@[simp] theorem ss113 : isStructT Tryz.prog 113 = true := by kernel_rfl
@[simp] theorem fk113 : fldOk Tryz.prog 113 = true := by kernel_rfl
@[simp] theorem fo113_0 : fieldOff Tryz.prog 113 0 = some 0 := by kernel_rfl
@[simp] theorem fo113_1 : fieldOff Tryz.prog 113 1 = some 1 := by kernel_rfl
@[simp] theorem fo113_2 : fieldOff Tryz.prog 113 2 = some 2 := by kernel_rfl
@[simp] theorem fo113_3 : fieldOff Tryz.prog 113 3 = some 3 := by kernel_rfl
@[simp] theorem fo113_4 : fieldOff Tryz.prog 113 4 = some 4 := by kernel_rfl
@[simp] theorem fo113_5 : fieldOff Tryz.prog 113 5 = some 5 := by kernel_rfl
@[simp] theorem fo113_6 : fieldOff Tryz.prog 113 6 = some 6 := by kernel_rfl
@[simp] theorem fi113_1 : fInfo Tryz.prog 113 1 = some (1, 1) := by kernel_rfl
@[simp] theorem fi113_2 : fInfo Tryz.prog 113 2 = some (2, 1) := by kernel_rfl
@[simp] theorem fi113_6 : fInfo Tryz.prog 113 6 = some (6, 1) := by kernel_rfl
@[simp] theorem sz116 : szOf Tryz.prog 116 = 4 := by kernel_rfl
@[simp] theorem by116 : bytesOf Tryz.prog 116 = 48 := by kernel_rfl
@[simp] theorem zo116 : (zeroOf Tryz.prog 116).isSome = true := by kernel_rfl
@[simp] theorem zd116 : zeroD Tryz.prog 116 = [(.int .i64 0), (.int .i64 0), (.int .i64 0), .nils] := by kernel_rfl
@[simp] theorem ia116 : isAggT Tryz.prog 116 = true := by kernel_rfl
@[simp] theorem ss116 : isStructT Tryz.prog 116 = true := by kernel_rfl
@[simp] theorem fk116 : fldOk Tryz.prog 116 = true := by kernel_rfl
@[simp] theorem fo116_0 : fieldOff Tryz.prog 116 0 = some 0 := by kernel_rfl
@[simp] theorem fo116_1 : fieldOff Tryz.prog 116 1 = some 1 := by kernel_rfl
@[simp] theorem fo116_2 : fieldOff Tryz.prog 116 2 = some 2 := by kernel_rfl
@[simp] theorem fo116_3 : fieldOff Tryz.prog 116 3 = some 3 := by kernel_rfl
@[simp] theorem fi116_0 : fInfo Tryz.prog 116 0 = some (0, 1) := by kernel_rfl
@[simp] theorem sz118 : szOf Tryz.prog 118 = 1 := by kernel_rfl
@[simp] theorem ia118 : isAggT Tryz.prog 118 = false := by kernel_rfl
@[simp] theorem ia125 : isAggT Tryz.prog 125 = false := by kernel_rfl
@[simp] theorem sz127 : szOf Tryz.prog 127 = 4 := by kernel_rfl
@[simp] theorem by127 : bytesOf Tryz.prog 127 = 32 := by kernel_rfl
@[simp] theorem zo127 : (zeroOf Tryz.prog 127).isSome = true := by kernel_rfl
@[simp] theorem zd127 : zeroD Tryz.prog 127 = [(.int .i64 0), (.int .i64 0), (.int .u8 0), (.int .i64 0)] := by kernel_rfl
@[simp] theorem ia127 : isAggT Tryz.prog 127 = true := by kernel_rfl
@[simp] theorem ss127 : isStructT Tryz.prog 127 = true := by kernel_rfl
@[simp] theorem fk127 : fldOk Tryz.prog 127 = true := by kernel_rfl
@[simp] theorem fo127_0 : fieldOff Tryz.prog 127 0 = some 0 := by kernel_rfl
@[simp] theorem fo127_1 : fieldOff Tryz.prog 127 1 = some 1 := by kernel_rfl
@[simp] theorem fo127_2 : fieldOff Tryz.prog 127 2 = some 2 := by kernel_rfl
@[simp] theorem fo127_3 : fieldOff Tryz.prog 127 3 = some 3 := by kernel_rfl
@[simp] theorem fi127_0 : fInfo Tryz.prog 127 0 = some (0, 1) := by kernel_rfl
@[simp] theorem fi127_2 : fInfo Tryz.prog 127 2 = some (2, 1) := by kernel_rfl
@[simp] theorem fi127_3 : fInfo Tryz.prog 127 3 = some (3, 1) := by kernel_rfl
@[simp] theorem ia128 : isAggT Tryz.prog 128 = false := by kernel_rfl
@[simp] theorem is128 : isSliceT Tryz.prog 128 = true := by kernel_rfl
@[simp] theorem es128 : elemSz Tryz.prog 128 = 2 := by kernel_rfl
@[simp] theorem sz130 : szOf Tryz.prog 130 = 3 := by kernel_rfl
@[simp] theorem zo130 : (zeroOf Tryz.prog 130).isSome = true := by kernel_rfl
@[simp] theorem zd130 : zeroD Tryz.prog 130 = [.nils, .nils, .nils] := by kernel_rfl
@[simp] theorem ia130 : isAggT Tryz.prog 130 = true := by kernel_rfl
@[simp] theorem fo130_0 : fieldOff Tryz.prog 130 0 = some 0 := by kernel_rfl
@[simp] theorem fo130_1 : fieldOff Tryz.prog 130 1 = some 1 := by kernel_rfl
@[simp] theorem fo130_2 : fieldOff Tryz.prog 130 2 = some 2 := by kernel_rfl
@[simp] theorem is135 : isSliceT Tryz.prog 135 = true := by kernel_rfl
@[simp] theorem el135 : Go.AM.elemOf Tryz.prog 135 = 118 := by kernel_rfl
@[simp] theorem es135 : elemSz Tryz.prog 135 = 1 := by kernel_rfl
@[simp] theorem is136 : isSliceT Tryz.prog 136 = true := by kernel_rfl
@[simp] theorem el136 : Go.AM.elemOf Tryz.prog 136 = 30 := by kernel_rfl
@[simp] theorem es136 : elemSz Tryz.prog 136 = 1 := by kernel_rfl
@[simp] theorem is148 : isSliceT Tryz.prog 148 = true := by kernel_rfl
@[simp] theorem el148 : Go.AM.elemOf Tryz.prog 148 = 47 := by kernel_rfl
@[simp] theorem es148 : elemSz Tryz.prog 148 = 1 := by kernel_rfl
@[simp] theorem ia162 : isAggT Tryz.prog 162 = false := by kernel_rfl
@[simp] theorem sz164 : szOf Tryz.prog 164 = 2 := by kernel_rfl
@[simp] theorem zo164 : (zeroOf Tryz.prog 164).isSome = true := by kernel_rfl
@[simp] theorem zd164 : zeroD Tryz.prog 164 = [(.int .u8 0), (.int .i64 0)] := by kernel_rfl
@[simp] theorem ia164 : isAggT Tryz.prog 164 = true := by kernel_rfl
@[simp] theorem fo164_0 : fieldOff Tryz.prog 164 0 = some 0 := by kernel_rfl
@[simp] theorem fo164_1 : fieldOff Tryz.prog 164 1 = some 1 := by kernel_rfl
@[simp] theorem is165 : isSliceT Tryz.prog 165 = true := by kernel_rfl
@[simp] theorem el165 : Go.AM.elemOf Tryz.prog 165 = 37 := by kernel_rfl
@[simp] theorem es165 : elemSz Tryz.prog 165 = 1 := by kernel_rfl
@[simp] theorem sz167 : szOf Tryz.prog 167 = 4 := by kernel_rfl
@[simp] theorem zo167 : (zeroOf Tryz.prog 167).isSome = true := by kernel_rfl
@[simp] theorem zd167 : zeroD Tryz.prog 167 = [(.str ⟨#[]⟩), (.int .i64 0), (.int .i64 0), (.int .i64 0)] := by kernel_rfl
@[simp] theorem ia167 : isAggT Tryz.prog 167 = true := by kernel_rfl
@[simp] theorem fo167_0 : fieldOff Tryz.prog 167 0 = some 0 := by kernel_rfl
@[simp] theorem fo167_1 : fieldOff Tryz.prog 167 1 = some 1 := by kernel_rfl
@[simp] theorem fo167_2 : fieldOff Tryz.prog 167 2 = some 2 := by kernel_rfl
@[simp] theorem fo167_3 : fieldOff Tryz.prog 167 3 = some 3 := by kernel_rfl
@[simp] theorem sz171 : szOf Tryz.prog 171 = 2 := by kernel_rfl
@[simp] theorem zo171 : (zeroOf Tryz.prog 171).isSome = true := by kernel_rfl
@[simp] theorem zd171 : zeroD Tryz.prog 171 = [(.int .i64 0), (.int .i64 0)] := by kernel_rfl
@[simp] theorem ia171 : isAggT Tryz.prog 171 = true := by kernel_rfl
@[simp] theorem fo171_0 : fieldOff Tryz.prog 171 0 = some 0 := by kernel_rfl
@[simp] theorem fo171_1 : fieldOff Tryz.prog 171 1 = some 1 := by kernel_rfl
@[simp] theorem sz172 : szOf Tryz.prog 172 = 1 := by kernel_rfl
@[simp] theorem ia172 : isAggT Tryz.prog 172 = false := by kernel_rfl
@[simp] theorem is175 : isSliceT Tryz.prog 175 = true := by kernel_rfl
@[simp] theorem el175 : Go.AM.elemOf Tryz.prog 175 = 172 := by kernel_rfl
@[simp] theorem es175 : elemSz Tryz.prog 175 = 1 := by kernel_rfl
@[simp] theorem ik227 : intKindT Tryz.prog 227 = some .u64 := by kernel_rfl
@[simp] theorem sz243 : szOf Tryz.prog 243 = 5 := by kernel_rfl
@[simp] theorem zo243 : (zeroOf Tryz.prog 243).isSome = true := by kernel_rfl
@[simp] theorem zd243 : zeroD Tryz.prog 243 = [(.int .i64 0), (.bool false), (.bool false), (.str ⟨#[]⟩), (.int .i64 0)] := by kernel_rfl
@[simp] theorem ia243 : isAggT Tryz.prog 243 = true := by kernel_rfl
@[simp] theorem ss243 : isStructT Tryz.prog 243 = true := by kernel_rfl
@[simp] theorem fk243 : fldOk Tryz.prog 243 = true := by kernel_rfl
@[simp] theorem fo243_0 : fieldOff Tryz.prog 243 0 = some 0 := by kernel_rfl
@[simp] theorem fo243_1 : fieldOff Tryz.prog 243 1 = some 1 := by kernel_rfl
@[simp] theorem fo243_2 : fieldOff Tryz.prog 243 2 = some 2 := by kernel_rfl
@[simp] theorem es259 : elemSz Tryz.prog 259 = 1 := by kernel_rfl
@[simp] theorem al259 : arrLen Tryz.prog 259 = some 16 := by kernel_rfl
@[simp] theorem es261 : elemSz Tryz.prog 261 = 5 := by kernel_rfl
@[simp] theorem al261 : arrLen Tryz.prog 261 = some 15 := by kernel_rfl
@[simp] theorem sz263 : szOf Tryz.prog 263 = 15 := by kernel_rfl
@[simp] theorem zo263 : (zeroOf Tryz.prog 263).isSome = true := by kernel_rfl
@[simp] theorem zd263 : zeroD Tryz.prog 263 = [(.str ⟨#[]⟩), (.str ⟨#[]⟩), (.str ⟨#[]⟩), (.str ⟨#[]⟩), (.str ⟨#[]⟩), (.str ⟨#[]⟩), (.str ⟨#[]⟩), (.str ⟨#[]⟩), (.str ⟨#[]⟩), (.str ⟨#[]⟩), (.str ⟨#[]⟩), (.str ⟨#[]⟩), (.str ⟨#[]⟩), (.str ⟨#[]⟩), (.str ⟨#[]⟩)] := by kernel_rfl
@[simp] theorem es263 : elemSz Tryz.prog 263 = 1 := by kernel_rfl
@[simp] theorem al263 : arrLen Tryz.prog 263 = some 15 := by kernel_rfl
@[simp] theorem ss263 : isStructT Tryz.prog 263 = true := by kernel_rfl
@[simp] theorem fk263 : fldOk Tryz.prog 263 = true := by kernel_rfl
@[simp] theorem fi263_0 : fInfo Tryz.prog 263 0 = some (0, 1) := by kernel_rfl
@[simp] theorem fi263_1 : fInfo Tryz.prog 263 1 = some (1, 1) := by kernel_rfl
@[simp] theorem fi263_2 : fInfo Tryz.prog 263 2 = some (2, 1) := by kernel_rfl
@[simp] theorem fi263_3 : fInfo Tryz.prog 263 3 = some (3, 1) := by kernel_rfl
@[simp] theorem fi263_4 : fInfo Tryz.prog 263 4 = some (4, 1) := by kernel_rfl
@[simp] theorem fi263_5 : fInfo Tryz.prog 263 5 = some (5, 1) := by kernel_rfl
@[simp] theorem fi263_6 : fInfo Tryz.prog 263 6 = some (6, 1) := by kernel_rfl
@[simp] theorem fi263_7 : fInfo Tryz.prog 263 7 = some (7, 1) := by kernel_rfl
@[simp] theorem fi263_8 : fInfo Tryz.prog 263 8 = some (8, 1) := by kernel_rfl
@[simp] theorem fi263_9 : fInfo Tryz.prog 263 9 = some (9, 1) := by kernel_rfl
@[simp] theorem fi263_10 : fInfo Tryz.prog 263 10 = some (10, 1) := by kernel_rfl
@[simp] theorem fi263_11 : fInfo Tryz.prog 263 11 = some (11, 1) := by kernel_rfl
@[simp] theorem fi263_12 : fInfo Tryz.prog 263 12 = some (12, 1) := by kernel_rfl
@[simp] theorem fi263_13 : fInfo Tryz.prog 263 13 = some (13, 1) := by kernel_rfl
@[simp] theorem fi263_14 : fInfo Tryz.prog 263 14 = some (14, 1) := by kernel_rfl
@[simp] theorem sz265 : szOf Tryz.prog 265 = 4 := by kernel_rfl
@[simp] theorem zo265 : (zeroOf Tryz.prog 265).isSome = true := by kernel_rfl
@[simp] theorem zd265 : zeroD Tryz.prog 265 = [(.int .i64 0), (.str ⟨#[]⟩), (.int .i64 0), (.int .i64 0)] := by kernel_rfl
@[simp] theorem ia265 : isAggT Tryz.prog 265 = true := by kernel_rfl
@[simp] theorem ss265 : isStructT Tryz.prog 265 = true := by kernel_rfl
@[simp] theorem fk265 : fldOk Tryz.prog 265 = true := by kernel_rfl
@[simp] theorem fo265_0 : fieldOff Tryz.prog 265 0 = some 0 := by kernel_rfl
@[simp] theorem fo265_3 : fieldOff Tryz.prog 265 3 = some 3 := by kernel_rfl
@[simp] theorem fi265_0 : fInfo Tryz.prog 265 0 = some (0, 1) := by kernel_rfl
@[simp] theorem fi265_1 : fInfo Tryz.prog 265 1 = some (1, 1) := by kernel_rfl
@[simp] theorem fi265_2 : fInfo Tryz.prog 265 2 = some (2, 1) := by kernel_rfl
@[simp] theorem fi265_3 : fInfo Tryz.prog 265 3 = some (3, 1) := by kernel_rfl
@[simp] theorem sz270 : szOf Tryz.prog 270 = 11 := by kernel_rfl
@[simp] theorem zo270 : (zeroOf Tryz.prog 270).isSome = true := by kernel_rfl
@[simp] theorem zd270 : zeroD Tryz.prog 270 = [(.str ⟨#[]⟩), (.str ⟨#[]⟩), (.str ⟨#[]⟩), (.str ⟨#[]⟩), (.str ⟨#[]⟩), (.str ⟨#[]⟩), (.str ⟨#[]⟩), (.str ⟨#[]⟩), (.str ⟨#[]⟩), (.str ⟨#[]⟩), (.str ⟨#[]⟩)] := by kernel_rfl
@[simp] theorem es270 : elemSz Tryz.prog 270 = 1 := by kernel_rfl
@[simp] theorem al270 : arrLen Tryz.prog 270 = some 11 := by kernel_rfl
@[simp] theorem ss270 : isStructT Tryz.prog 270 = true := by kernel_rfl
@[simp] theorem fk270 : fldOk Tryz.prog 270 = true := by kernel_rfl
@[simp] theorem fi270_0 : fInfo Tryz.prog 270 0 = some (0, 1) := by kernel_rfl
@[simp] theorem fi270_1 : fInfo Tryz.prog 270 1 = some (1, 1) := by kernel_rfl
@[simp] theorem fi270_2 : fInfo Tryz.prog 270 2 = some (2, 1) := by kernel_rfl
@[simp] theorem fi270_3 : fInfo Tryz.prog 270 3 = some (3, 1) := by kernel_rfl
@[simp] theorem fi270_4 : fInfo Tryz.prog 270 4 = some (4, 1) := by kernel_rfl
@[simp] theorem fi270_5 : fInfo Tryz.prog 270 5 = some (5, 1) := by kernel_rfl
@[simp] theorem fi270_6 : fInfo Tryz.prog 270 6 = some (6, 1) := by kernel_rfl
@[simp] theorem fi270_7 : fInfo Tryz.prog 270 7 = some (7, 1) := by kernel_rfl
@[simp] theorem fi270_8 : fInfo Tryz.prog 270 8 = some (8, 1) := by kernel_rfl
@[simp] theorem fi270_9 : fInfo Tryz.prog 270 9 = some (9, 1) := by kernel_rfl
@[simp] theorem fi270_10 : fInfo Tryz.prog 270 10 = some (10, 1) := by kernel_rfl
end Fx
end Go.Proofs.YtgmlimipejcpgaaGreatDoor
end
section
set_option linter.unusedVariables false
set_option linter.unusedSimpArgs false
namespace Go.AM
section
variable {P : Program} {ge : GEnv} {st : St} {Q : Exit → St → Prop} {ops : Array Oper}
variable {d : Option Tmp} {t : TypeId} {p : String} {af : Array Edge} {g : Option (Nat × Bool)}
theorem OpS_newVec {o : Oper} {T : TypeId} {xs : List (List V)} {len : Nat} (h0 : 0 < szOf P T) (hlen : len ≤ xs.length)
    (H : ∀ G a w, Rep P ge G st a w → ∃ (arr : Array Value) (cap : Nat), (execOp a.eval o).run P w = .ok (.value (.slice (some ⟨w.heap.size, 0, none⟩) len cap)) (w.alloc (.cells arr T)) ∧
      arr.size = cap * szOf P T ∧ xs.length ≤ cap ∧ cap ≤ maxLen ∧ RowR G w true (szOf P T) xs arr) :
    OpS P ge st o (.vec xs len) st.h := by
  intro G a w hr
  obtain ⟨arr, cap, h1, h2, h3, h4, h5, h6⟩ := H G a w hr
  have hle : ∀ j, G.fz j ≤ (if j = w.heap.size then arr.size else G.fz j) := fun j => by
    split
    · rename_i h; rw [h, hr.rh.fzlt _ (Nat.le_refl _)]; exact Nat.zero_le _
    · exact Nat.le_refl _
  have hh : (w.alloc (.cells arr T)).heap[w.heap.size]? = some (.cells arr T (0, 0)) := heap_alloc_new w _
  have kept : Kept G w (G.withFz fun j => if j = w.heap.size then arr.size else G.fz j) (w.alloc (.cells arr T)) := by
    refine ⟨.alloc w _, fun j hj => ?_, fun j hj => ?_⟩
    · show (if j = w.heap.size then arr.size else G.fz j) = G.fz j
      rw [if_neg (by omega)]
    · show (if j = w.heap.size then arr.size else G.fz j) = 0
      have hs : w.heap.size < (w.alloc (.cells arr T)).heap.size := by
        rcases Nat.lt_or_ge w.heap.size (w.alloc (.cells arr T)).heap.size with h | h
        · exact h
        · rw [Array.getElem?_eq_none h] at hh; cases hh
      rw [if_neg (by omega)]
      exact hr.rh.fzlt j (by omega)
  obtain ⟨rh, ext⟩ := kept.rh hr.rh
  have le := ext.le
  refine ⟨_, _, _, .inl h1, rh, ?_, ext⟩
  have hlt : ∀ (i : Nat) (x : List V) (j : Nat) (v : V), xs[i]? = some x → x[j]? = some v → i * szOf P T + j < arr.size := fun i x j v hx hv => by
    have k1 := h5 i x hx
    have k2 : i < xs.length := (List.getElem?_eq_some_iff.1 hx).1
    have k3 : j < x.length := (List.getElem?_eq_some_iff.1 hv).1
    have k4 : (i + 1) * szOf P T ≤ cap * szOf P T := Nat.mul_le_mul_right _ (by omega)
    rw [h2]; rw [Nat.add_mul] at k4; omega
  have hcd : ∀ (o : Nat), o < arr.size → (w.alloc (.cells arr T)).cell? ⟨w.heap.size, o, none⟩ = some (arr.getD o undef) := fun o ho => arr_cell hh ho
  have hd : ∀ (o : Nat), o < arr.size → cellD (w.alloc (.cells arr T)) w.heap.size o = arr.getD o undef := fun o ho => by unfold cellD; rw [hcd o ho]; rfl
  refine R.vec (sz := szOf P T) hlen h3 h4 h5 (fun i x j v hx hv => ?_) (fun i x j v hx hv => ?_) (fun i x j v hx hv => ?_)
  · have := hlt i x j v hx hv
    rw [Nat.zero_add]
    refine ⟨by rw [hcd _ this]; rfl, ?_⟩
    show _ < if w.heap.size = w.heap.size then arr.size else G.fz w.heap.size
    rw [if_pos rfl]; exact this
  · rw [Nat.zero_add, hd _ (hlt i x j v hx hv)]; exact (h6 i x j v hx hv).1
  · rw [Nat.zero_add, hd _ (hlt i x j v hx hv)]
    exact ((h6 i x j v hx hv).2).monoT le.fz (fun k o ho => le.cells k o ho) rfl
theorem S_buildVec {T e : TypeId} {len : Nat} {parts : Array (Nat × Operand)} {zs : List V} (hu : P.underlying T = some (.slice e)) (hz : zeroOf P e = some zs) (hsz : szOf P e = zs.length) (h0 : 0 < zs.length) (hl0 : 0 < len) (hl : len * zs.length ≤ 16777216)
    (hok : rowsOk zs.length len (parts.toList.map fun x => (x.1, ev ge st.tm x.2)) = true) (hf : partsF (parts.toList.map fun x => (x.1, ev ge st.tm x.2)) = true) :
    OpS P ge st ⟨d, .buildSlice T len parts, t, p, af, g⟩ (.vec (rowsV (List.replicate len zs) (parts.toList.map fun x => (x.1, ev ge st.tm x.2))) len) st.h := by
  have hlen : ∀ (ps : List (Nat × V)) (xs : List (List V)), (rowsV xs ps).length = xs.length := by
    intro ps
    induction ps with
    | nil => intro xs; rfl
    | cons a r ih => intro xs; simp only [rowsV]; rw [ih, List.length_set]
  refine OpS_newVec (T := e) (by omega) (by rw [hlen]; simp) fun G a w hr => ?_
  obtain ⟨z, h1, _, h2, _, h3⟩ := run_zeroValue hz
  have hrow := RowR_zeros (G := G) (w := w) (T := e) h2 h3 len true
  obtain ⟨arr', e1, e2, e3⟩ := fillRows (fun x => hr.ev x) parts.toList _ _ hrow (by simp [h2]) (by simpa using hok) (fun _ => hf)
  have hpm : (parts.map fun (x : Nat × Operand) => (x.1, a.eval x.2)).toList = parts.toList.map fun x => (x.1, a.eval x.2) := by simp
  have h24 : ¬ (len * zs.length > 2 ^ 24) := by omega
  refine ⟨arr', len, ?_, by rw [e2, hsz]; simp, by rw [hlen]; simp, ?_, by rw [hsz]; exact e3⟩
  · simp only [execOp, Instr.buildSlice, Sem.run_bind, run_underlying hu, Result.andThen_ok, run_sizeOf hsz h0, h24, if_false]
    have hzero : ¬ len * zs.length = 0 := by
      intro q; rcases Nat.mul_eq_zero.1 q with q | q <;> omega
    have e1' : Instr.fill (fun i => some (i * zs.length, zs.length)) ((Array.range (len * zs.length)).map fun k => z.cells[k % z.cells.size]!) (parts.map fun (x : Nat × Operand) => (x.1, a.eval x.2)).toList = some arr' := by
      rw [hpm, ← h2]; rw [← h2] at e1; exact e1
    simp only [hzero, if_false, Sem.run_bind, h1, Result.andThen_ok, Sem.run_pure, e1']
    simp [newRow]
  · have : len ≤ len * zs.length := Nat.le_mul_of_pos_right _ h0
    unfold maxLen; omega
def bsOk (P : Program) (ge : GEnv) (st : St) (T : TypeId) (len : Nat) (parts : Array (Nat × Operand)) : Prop :=
  isSliceT P T = true ∧ (zeroOf P (elemOf P T)).isSome = true ∧ szOf P (elemOf P T) = (zeroD P (elemOf P T)).length ∧ 0 < (zeroD P (elemOf P T)).length ∧ 0 < len ∧ len * (zeroD P (elemOf P T)).length ≤ 16777216 ∧
    rowsOk (zeroD P (elemOf P T)).length len (partsV ge st.tm parts.toList) = true ∧ partsF (partsV ge st.tm parts.toList) = true
theorem S_bsOk {T : TypeId} {len : Nat} {parts : Array (Nat × Operand)} (h : bsOk P ge st T len parts) :
    OpS P ge st ⟨d, .buildSlice T len parts, t, p, af, g⟩ (.vec (rowsV (List.replicate len (zeroD P (elemOf P T))) (partsV ge st.tm parts.toList)) len) st.h := by
  obtain ⟨h1, h2, h3, h4, h5, h6, h7, h8⟩ := h
  obtain ⟨e, hu, _⟩ := isSliceT_spec h1
  have he : elemOf P T = e := by unfold elemOf; rw [hu]
  rw [he] at h2 h3 h4 h6 h7 ⊢
  rw [partsV_eq] at h7 h8 ⊢
  exact S_buildVec hu (getD_some h2) h3 h4 h5 h6 h7 h8
end
attribute [simp] bsOk
end Go.AM
end
section
set_option linter.unusedVariables false
set_option linter.unusedSimpArgs false
namespace Go.AM
section
variable {P : Program} {ge : GEnv} {st : St} {Q : Exit → St → Prop} {G : Gh} {w : World}
variable {d : Option Tmp} {t : TypeId} {p : String} {af : Array Edge}
/-- A value as a reader sees it. -/
def seenV (h : List B) : V → V
  | .ref b g off len => match h[b]? with
    | some (.row _ g' _ true xs) => if g = g' ∧ off + len ≤ xs.length then .vec (xs.drop off) len else .ref b g off len
    | _ => .ref b g off len
  | v => v
def V.scal : V → Bool
  | .bool _ | .int _ _ | .str _ => true
  | _ => false
def cellsAt (w : World) (k : Nat) : Nat := match w.heap[k]? with
  | some (.cells arr _ _) => arr.size
  | _ => 0
def Gh.all (G : Gh) (w : World) : Gh := G.withFz fun k => max (G.fz k) (cellsAt w k)
theorem all_fz (k : Nat) : G.fz k ≤ (G.all w).fz k := Nat.le_max_left _ _
theorem seen_spec {h : List B} (rh : RH P ge G h w) {u : V} {c : Value} (hu : R G w false u c) (hf : (seenV h u).isF = true) : R (G.all w) w true (seenV h u) c := by
  have keep : u.isF = true → R (G.all w) w true u c := fun h => (hu.frozen h).monoT all_fz (fun _ _ _ => rfl) rfl
  cases u
  case ref b g off len =>
    unfold seenV at hf ⊢
    cases hx : h[b]? with
    | none => simp [hx, V.isF] at hf
    | some x =>
    cases x with
    | dead => simp [hx, V.isF] at hf
    | var cs => simp [hx, V.isF] at hf
    | map es => simp [hx, V.isF] at hf
    | row T g' fzn fl xs =>
    cases fl with
    | false => simp [hx, V.isF] at hf
    | true =>
      simp only [hx] at hf ⊢
      by_cases hc : g = g' ∧ off + len ≤ xs.length
      · rw [if_pos hc]
        obtain ⟨rfl, hlen⟩ := hc
        clear hf
        obtain ⟨h00, hfx, ⟨hsz0, hszT⟩, hrow⟩ := rh.bl b _ hx
        cases hu with
        | ref hb hg hm hle =>
          rename_i k
          rcases hrow with ⟨hn, rfl⟩ | ⟨k', arr, hm', hh, hfzk, hs', hl', hcm, hlen', hcells⟩
          · rw [hm] at hn; cases hn
          · rw [hm] at hm'; cases hm'
            have idx : ∀ (i : Nat) (x : List V) (j : Nat) (v : V), (xs.drop off)[i]? = some x → x[j]? = some v → xs[off + i]? = some x ∧ off * G.sz b + (i * G.sz b + j) = (off + i) * G.sz b + j ∧ (off + i) * G.sz b + j < arr.size := fun i x j v hx hv => by
              have hx' : xs[off + i]? = some x := by rw [List.getElem?_drop] at hx; exact hx
              refine ⟨hx', by rw [Nat.add_mul]; omega, ?_⟩
              have h2 : off + i < xs.length := (List.getElem?_eq_some_iff.1 hx').1
              have h3 : (off + i + 1) * G.sz b ≤ G.cap b g * G.sz b := Nat.mul_le_mul_right _ (by omega)
              have h4 : j < G.sz b := by rw [← hlen' _ x hx']; exact (List.getElem?_eq_some_iff.1 hv).1
              rw [hs', Nat.add_mul (off + i) 1] at *; omega
            have hD : ∀ q, q < arr.size → w.cell? ⟨k, q, none⟩ = some (arr.getD q undef) := fun q hq => arr_cell hh hq
            refine .vec (sz := G.sz b) (by rw [List.length_drop]; omega) (by rw [List.length_drop]; omega) (by omega) (fun i x hx => hlen' (off + i) x (by rw [List.getElem?_drop] at hx; exact hx)) (fun i x j v hx hv => ?_) (fun i x j v hx hv => ?_) (fun i x j v hx hv => ?_)
            · obtain ⟨e1, e2, e3⟩ := idx i x j v hx hv
              rw [e2, hD _ e3]
              refine ⟨rfl, Nat.lt_of_lt_of_le e3 ?_⟩
              have : cellsAt w k = arr.size := by unfold cellsAt; rw [hh]
              show arr.size ≤ max (G.fz k) (cellsAt w k)
              rw [this]; exact Nat.le_max_right _ _
            · obtain ⟨e1, e2, e3⟩ := idx i x j v hx hv
              unfold cellD; rw [e2, hD _ e3]; exact (hcells _ x j v e1 hv).1
            · obtain ⟨e1, e2, e3⟩ := idx i x j v hx hv
              unfold cellD; rw [e2, hD _ e3]; exact (hcells _ x j v e1 hv).2.monoT all_fz (fun _ _ _ => rfl) rfl
        | refn hb hg hm =>
          rcases hrow with ⟨hn, rfl⟩ | ⟨k', arr, hm', _⟩
          · exact .emp (Nat.zero_le _)
          · rw [hm] at hm'; cases hm'
      · rw [if_neg hc] at hf; cases hf
  all_goals exact keep hf
theorem scal_R {r : V} {c : Value} (h : r.scal = true) {G G' : Gh} {w w' : World} {fr fr' : Bool} (hr : R G w fr r c) : R G' w' fr' r c := by
  cases r <;> first | (simp [V.scal] at h; done) | (cases hr; constructor; done)
theorem GCall_seen {f : Nat} {args args' : List V} {r : V} {h : List B} (hc : PCall P ge f args' r) (hs : args.map (seenV h) = args') (hf : V.isFs args' = true) (hp : r.scal = true) :
    GCall P ge f args h fun v h' => v = r ∧ h' = h := by
  refine ⟨hc.1, fun G w cargs ha hr => ?_⟩
  have ha' : ArgsR (G.all w) w true args' cargs := by
    subst hs
    refine ⟨by rw [ha.1, List.length_map], fun i v hv => ?_⟩
    have hvf := V.isFs_get hf i v hv
    rw [List.getElem?_map] at hv
    obtain ⟨u, hu, rfl⟩ := Option.map_eq_some_iff.1 hv
    exact seen_spec hr (ha.2 i u hu) hvf
  have hge : GE ge (G.all w) w := ⟨fun k hk => by
    show max (G.fz k) (cellsAt w k) = 0
    have : cellsAt w k = 0 := by unfold cellsAt; rw [Array.getElem?_eq_none hk]
    rw [this, hr.fzlt k hk]; rfl, fun g cs hg => (hr.ge g cs hg).monoT all_fz (fun _ _ _ => rfl) rfl⟩
  refine (hc.2 (G.all w) w cargs ha' hge).mono ?_
  rintro e w' ⟨c, G', rfl, kept, ro⟩
  have k0 : Kept G w G w' := ⟨kept.grow, fun _ _ => rfl, fun k hk => hr.fzlt k (Nat.le_trans kept.grow.size hk)⟩
  obtain ⟨h1, h2⟩ := k0.rh hr
  have hpl : r.plain = true := by cases r <;> first | rfl | cases hp
  exact ⟨c, _, r, h, rfl, ⟨rfl, rfl⟩, h1, scal_R hp (ro.plain hpl), h2⟩
theorem seen_ext {h : List B} {v : V} (e : List B) (hl : v.lt h.length = true) : seenV (h ++ e) v = seenV h v := by
  cases v <;> try rfl
  rename_i b g off len
  have hb : b < h.length := by simpa [V.lt] using hl
  unfold seenV
  simp only [List.getElem?_append_left hb]
/-- A call of a function on values as they are seen. -/
def SeenStep (P : Program) (ge : GEnv) (st : St) (op : Op) (v : V) : Prop :=
  ∃ x xs ts f args', op = .call { callee := .value x, args := xs, argTypes := ts } ∧ ev ge st.tm x = .fn (.func f) [] [] ∧ PCall P ge f args' v ∧ (xs.toList.map (ev ge st.tm)).map (seenV st.h) = args' ∧ V.isFs args' = true ∧ v.scal = true
/-- All references of a heap that is there lead into it. -/
theorem RH.closed {G : Gh} {h : List B} {w : World} (rh : RH P ge G h w) : ∀ y ∈ h, y.lt h.length := fun y hy => by
  obtain ⟨b, hb⟩ := List.getElem?_of_mem hy
  exact rh.blt hb
theorem GCall_closed {f : Nat} {args : List V} {h : List B} {Q : V → List B → Prop} (hf : Callable P f) (hc : (∀ y ∈ h, y.lt h.length) → GCall P ge f args h Q) : GCall P ge f args h Q :=
  ⟨hf, fun G w cargs ha hr => (hc hr.closed).2 G w cargs ha hr⟩
/-- A call that leaves the heap as it is, however much stands behind it, and tells no row. -/
def GStep (P : Program) (ge : GEnv) (st : St) (op : Op) (v : V) : Prop :=
  ∃ x xs ts f, op = .call { callee := .value x, args := xs, argTypes := ts } ∧ ev ge st.tm x = .fn (.func f) [] [] ∧ (∀ e : List B, GCall P ge f (xs.toList.map (ev ge st.tm)) (st.h ++ e) fun v' h' => v' = v ∧ h' = st.h ++ e) ∧ v.scal = true
theorem AS_scall {ops : Array Oper} {rest : List Oper} {x : Operand} {xs : Array Operand} {ts : Array TypeId} {f : Nat} {A C : List V} {args' : List V} {r : V}
    (hx : ev ge st.tm x = .fn (.func f) A C) (hd : dstOk st.n d = true) (hc : PCall P ge f args' r) (hs : (A ++ xs.toList.map (ev ge st.tm) ++ C).map (seenV st.h) = args') (hf : V.isFs args' = true) (hp : r.scal = true)
    (h : AS P ge ops rest Q { st with tm := putD d r st.tm }) :
    AS P ge ops (⟨d, .call { callee := .value x, args := xs, argTypes := ts }, t, p, af, none⟩ :: rest) Q st :=
  AS_gcall hx hd (GCall_seen hc hs hf hp) (by rintro v h' ⟨rfl, rfl⟩; exact h)
end
end Go.AM
end
