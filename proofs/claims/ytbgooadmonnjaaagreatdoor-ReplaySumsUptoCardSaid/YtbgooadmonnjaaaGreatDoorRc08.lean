/-
  YtbgooadmonnjaaaGreatDoorRc08: steps of the proof of a law of the program: what these texts prove holds under the hypotheses that their theorems name, and no others.
-/
import Derived.Test.YtbgooadmonnjaaaGreatDoorProg
import Derived.Test.YtbgooadmonnjaaaGreatDoorRc07
import Derived.KernelRfl
section
set_option maxRecDepth 100000
namespace Go.Proofs.YtbgooadmonnjaaaGreatDoor
open Go.AM
namespace Fx
@[simp] theorem by2 : bytesOf Tryz.prog 2 = 8 := by kernel_rfl
@[simp] theorem ia2 : isAggT Tryz.prog 2 = false := by kernel_rfl
@[simp] theorem ik2 : intKindT Tryz.prog 2 = some .i64 := by kernel_rfl
@[simp] theorem sz3 : szOf Tryz.prog 3 = 1 := by kernel_rfl
@[simp] theorem by3 : bytesOf Tryz.prog 3 = 8 := by kernel_rfl
@[simp] theorem zo3 : (zeroOf Tryz.prog 3).isSome = true := by kernel_rfl
@[simp] theorem zd3 : zeroD Tryz.prog 3 = [(.int .i64 0)] := by kernel_rfl
@[simp] theorem ia3 : isAggT Tryz.prog 3 = false := by kernel_rfl
@[simp] theorem ik3 : intKindT Tryz.prog 3 = some .i64 := by kernel_rfl
@[simp] theorem sz4 : szOf Tryz.prog 4 = 1 := by kernel_rfl
@[simp] theorem ia4 : isAggT Tryz.prog 4 = false := by kernel_rfl
@[simp] theorem ib4 : isBoolT Tryz.prog 4 = true := by kernel_rfl
@[simp] theorem sz9 : szOf Tryz.prog 9 = 1 := by kernel_rfl
@[simp] theorem by9 : bytesOf Tryz.prog 9 = 16 := by kernel_rfl
@[simp] theorem zo9 : (zeroOf Tryz.prog 9).isSome = true := by kernel_rfl
@[simp] theorem zd9 : zeroD Tryz.prog 9 = [(.str ⟨#[]⟩)] := by kernel_rfl
@[simp] theorem ia9 : isAggT Tryz.prog 9 = false := by kernel_rfl
@[simp] theorem st9 : isStrT Tryz.prog 9 = true := by kernel_rfl
@[simp] theorem sz22 : szOf Tryz.prog 22 = 1 := by kernel_rfl
@[simp] theorem zo22 : (zeroOf Tryz.prog 22).isSome = true := by kernel_rfl
@[simp] theorem zd22 : zeroD Tryz.prog 22 = [.nils] := by kernel_rfl
@[simp] theorem ia22 : isAggT Tryz.prog 22 = false := by kernel_rfl
@[simp] theorem is22 : isSliceT Tryz.prog 22 = true := by kernel_rfl
@[simp] theorem el22 : Go.AM.elemOf Tryz.prog 22 = 9 := by kernel_rfl
@[simp] theorem es22 : elemSz Tryz.prog 22 = 1 := by kernel_rfl
@[simp] theorem ia23 : isAggT Tryz.prog 23 = false := by kernel_rfl
@[simp] theorem is23 : isSliceT Tryz.prog 23 = true := by kernel_rfl
@[simp] theorem es23 : elemSz Tryz.prog 23 = 4 := by kernel_rfl
@[simp] theorem ia24 : isAggT Tryz.prog 24 = false := by kernel_rfl
@[simp] theorem is24 : isSliceT Tryz.prog 24 = true := by kernel_rfl
@[simp] theorem el24 : Go.AM.elemOf Tryz.prog 24 = 204 := by kernel_rfl
@[simp] theorem es24 : elemSz Tryz.prog 24 = 3 := by kernel_rfl
@[simp] theorem sz26 : szOf Tryz.prog 26 = 4 := by kernel_rfl
@[simp] theorem zo26 : (zeroOf Tryz.prog 26).isSome = true := by kernel_rfl
@[simp] theorem zd26 : zeroD Tryz.prog 26 = [.nils, .nils, .nils, .nils] := by kernel_rfl
@[simp] theorem ia26 : isAggT Tryz.prog 26 = true := by kernel_rfl
@[simp] theorem ss26 : isStructT Tryz.prog 26 = true := by kernel_rfl
@[simp] theorem fk26 : fldOk Tryz.prog 26 = true := by kernel_rfl
@[simp] theorem fo26_0 : fieldOff Tryz.prog 26 0 = some 0 := by kernel_rfl
@[simp] theorem fo26_1 : fieldOff Tryz.prog 26 1 = some 1 := by kernel_rfl
@[simp] theorem fo26_2 : fieldOff Tryz.prog 26 2 = some 2 := by kernel_rfl
@[simp] theorem fo26_3 : fieldOff Tryz.prog 26 3 = some 3 := by kernel_rfl
@[simp] theorem fi26_0 : fInfo Tryz.prog 26 0 = some (0, 1) := by kernel_rfl
@[simp] theorem fi26_3 : fInfo Tryz.prog 26 3 = some (3, 1) := by kernel_rfl
@[simp] theorem ia28 : isAggT Tryz.prog 28 = false := by kernel_rfl
@[simp] theorem is28 : isSliceT Tryz.prog 28 = true := by kernel_rfl
@[simp] theorem el28 : Go.AM.elemOf Tryz.prog 28 = 115 := by kernel_rfl
@[simp] theorem es28 : elemSz Tryz.prog 28 = 2 := by kernel_rfl
@[simp] theorem ia29 : isAggT Tryz.prog 29 = false := by kernel_rfl
@[simp] theorem is29 : isSliceT Tryz.prog 29 = true := by kernel_rfl
@[simp] theorem el29 : Go.AM.elemOf Tryz.prog 29 = 154 := by kernel_rfl
@[simp] theorem es29 : elemSz Tryz.prog 29 = 4 := by kernel_rfl
@[simp] theorem ia30 : isAggT Tryz.prog 30 = false := by kernel_rfl
@[simp] theorem is30 : isSliceT Tryz.prog 30 = true := by kernel_rfl
@[simp] theorem es30 : elemSz Tryz.prog 30 = 2 := by kernel_rfl
@[simp] theorem sz32 : szOf Tryz.prog 32 = 3 := by kernel_rfl
@[simp] theorem zo32 : (zeroOf Tryz.prog 32).isSome = true := by kernel_rfl
@[simp] theorem zd32 : zeroD Tryz.prog 32 = [.nils, .nils, .nils] := by kernel_rfl
@[simp] theorem ia32 : isAggT Tryz.prog 32 = true := by kernel_rfl
@[simp] theorem ss32 : isStructT Tryz.prog 32 = true := by kernel_rfl
@[simp] theorem fk32 : fldOk Tryz.prog 32 = true := by kernel_rfl
@[simp] theorem fo32_0 : fieldOff Tryz.prog 32 0 = some 0 := by kernel_rfl
@[simp] theorem fo32_1 : fieldOff Tryz.prog 32 1 = some 1 := by kernel_rfl
@[simp] theorem fo32_2 : fieldOff Tryz.prog 32 2 = some 2 := by kernel_rfl
@[simp] theorem fi32_0 : fInfo Tryz.prog 32 0 = some (0, 1) := by kernel_rfl
@[simp] theorem sz33 : szOf Tryz.prog 33 = 1 := by kernel_rfl
@[simp] theorem ia33 : isAggT Tryz.prog 33 = false := by kernel_rfl
@[simp] theorem is33 : isSliceT Tryz.prog 33 = true := by kernel_rfl
@[simp] theorem el33 : Go.AM.elemOf Tryz.prog 33 = 38 := by kernel_rfl
@[simp] theorem es33 : elemSz Tryz.prog 33 = 2 := by kernel_rfl
@[simp] theorem ia36 : isAggT Tryz.prog 36 = false := by kernel_rfl
@[simp] theorem is36 : isSliceT Tryz.prog 36 = true := by kernel_rfl
@[simp] theorem el36 : Go.AM.elemOf Tryz.prog 36 = 51 := by kernel_rfl
@[simp] theorem es36 : elemSz Tryz.prog 36 = 6 := by kernel_rfl
@[simp] theorem sz38 : szOf Tryz.prog 38 = 2 := by kernel_rfl
@[simp] theorem by38 : bytesOf Tryz.prog 38 = 16 := by kernel_rfl
@[simp] theorem zo38 : (zeroOf Tryz.prog 38).isSome = true := by kernel_rfl
@[simp] theorem zd38 : zeroD Tryz.prog 38 = [(.int .i64 0), (.int .i64 0)] := by kernel_rfl
@[simp] theorem ia38 : isAggT Tryz.prog 38 = true := by kernel_rfl
@[simp] theorem ss38 : isStructT Tryz.prog 38 = true := by kernel_rfl
@[simp] theorem fk38 : fldOk Tryz.prog 38 = true := by kernel_rfl
@[simp] theorem eqk38 : eqKinds Tryz.prog 38 = some [.int, .int] := by kernel_rfl
@[simp] theorem fo38_0 : fieldOff Tryz.prog 38 0 = some 0 := by kernel_rfl
@[simp] theorem fo38_1 : fieldOff Tryz.prog 38 1 = some 1 := by kernel_rfl
@[simp] theorem fi38_0 : fInfo Tryz.prog 38 0 = some (0, 1) := by kernel_rfl
@[simp] theorem fi38_1 : fInfo Tryz.prog 38 1 = some (1, 1) := by kernel_rfl
@[simp] theorem sz40 : szOf Tryz.prog 40 = 3 := by kernel_rfl
@[simp] theorem zo40 : (zeroOf Tryz.prog 40).isSome = true := by kernel_rfl
@[simp] theorem zd40 : zeroD Tryz.prog 40 = [.nils, (.int .i64 0), (.int .i64 0)] := by kernel_rfl
@[simp] theorem ia40 : isAggT Tryz.prog 40 = true := by kernel_rfl
@[simp] theorem ss40 : isStructT Tryz.prog 40 = true := by kernel_rfl
@[simp] theorem fk40 : fldOk Tryz.prog 40 = true := by kernel_rfl
@[simp] theorem fo40_0 : fieldOff Tryz.prog 40 0 = some 0 := by kernel_rfl
@[simp] theorem fo40_1 : fieldOff Tryz.prog 40 1 = some 1 := by kernel_rfl
@[simp] theorem fi40_0 : fInfo Tryz.prog 40 0 = some (0, 1) := by kernel_rfl
@[simp] theorem fi40_1 : fInfo Tryz.prog 40 1 = some (1, 2) := by kernel_rfl
@[simp] theorem ia41 : isAggT Tryz.prog 41 = false := by kernel_rfl
@[simp] theorem ia47 : isAggT Tryz.prog 47 = false := by kernel_rfl
@[simp] theorem is47 : isSliceT Tryz.prog 47 = true := by kernel_rfl
@[simp] theorem el47 : Go.AM.elemOf Tryz.prog 47 = 32 := by kernel_rfl
@[simp] theorem es47 : elemSz Tryz.prog 47 = 3 := by kernel_rfl
@[simp] theorem sz49 : szOf Tryz.prog 49 = 4 := by kernel_rfl
@[simp] theorem ia49 : isAggT Tryz.prog 49 = true := by kernel_rfl
@[simp] theorem fo49_0 : fieldOff Tryz.prog 49 0 = some 0 := by kernel_rfl
@[simp] theorem fo49_1 : fieldOff Tryz.prog 49 1 = some 1 := by kernel_rfl
@[simp] theorem fo49_2 : fieldOff Tryz.prog 49 2 = some 2 := by kernel_rfl
@[simp] theorem fo49_3 : fieldOff Tryz.prog 49 3 = some 3 := by kernel_rfl
@[simp] theorem sz51 : szOf Tryz.prog 51 = 6 := by kernel_rfl
@[simp] theorem zo51 : (zeroOf Tryz.prog 51).isSome = true := by kernel_rfl
@[simp] theorem zd51 : zeroD Tryz.prog 51 = [(.int .i64 0), (.int .i64 0), (.int .i64 0), (.int .i64 0), (.int .i64 0), (.int .i64 0)] := by kernel_rfl
@[simp] theorem ia51 : isAggT Tryz.prog 51 = true := by kernel_rfl
@[simp] theorem ss51 : isStructT Tryz.prog 51 = true := by kernel_rfl
@[simp] theorem fk51 : fldOk Tryz.prog 51 = true := by kernel_rfl
@[simp] theorem fo51_0 : fieldOff Tryz.prog 51 0 = some 0 := by kernel_rfl
@[simp] theorem fo51_1 : fieldOff Tryz.prog 51 1 = some 2 := by kernel_rfl
@[simp] theorem fi51_0 : fInfo Tryz.prog 51 0 = some (0, 2) := by kernel_rfl
@[simp] theorem ia52 : isAggT Tryz.prog 52 = false := by kernel_rfl
@[simp] theorem is54 : isSliceT Tryz.prog 54 = true := by kernel_rfl
@[simp] theorem el54 : Go.AM.elemOf Tryz.prog 54 = 67 := by kernel_rfl
@[simp] theorem es54 : elemSz Tryz.prog 54 = 3 := by kernel_rfl
@[simp] theorem sz61 : szOf Tryz.prog 61 = 1 := by kernel_rfl
@[simp] theorem ia61 : isAggT Tryz.prog 61 = false := by kernel_rfl
@[simp] theorem is61 : isSliceT Tryz.prog 61 = true := by kernel_rfl
@[simp] theorem el61 : Go.AM.elemOf Tryz.prog 61 = 3 := by kernel_rfl
@[simp] theorem es61 : elemSz Tryz.prog 61 = 1 := by kernel_rfl
@[simp] theorem sz63 : szOf Tryz.prog 63 = 2 := by kernel_rfl
@[simp] theorem zo63 : (zeroOf Tryz.prog 63).isSome = true := by kernel_rfl
@[simp] theorem zd63 : zeroD Tryz.prog 63 = [.nils, .nils] := by kernel_rfl
@[simp] theorem ia63 : isAggT Tryz.prog 63 = true := by kernel_rfl
@[simp] theorem ss63 : isStructT Tryz.prog 63 = true := by kernel_rfl
@[simp] theorem fk63 : fldOk Tryz.prog 63 = true := by kernel_rfl
@[simp] theorem fo63_0 : fieldOff Tryz.prog 63 0 = some 0 := by kernel_rfl
@[simp] theorem fo63_1 : fieldOff Tryz.prog 63 1 = some 1 := by kernel_rfl
@[simp] theorem fi63_0 : fInfo Tryz.prog 63 0 = some (0, 1) := by kernel_rfl
@[simp] theorem fi63_1 : fInfo Tryz.prog 63 1 = some (1, 1) := by kernel_rfl
@[simp] theorem sz65 : szOf Tryz.prog 65 = 3 := by kernel_rfl
@[simp] theorem zo65 : (zeroOf Tryz.prog 65).isSome = true := by kernel_rfl
@[simp] theorem zd65 : zeroD Tryz.prog 65 = [.nils, .nils, .nils] := by kernel_rfl
@[simp] theorem ia65 : isAggT Tryz.prog 65 = true := by kernel_rfl
@[simp] theorem ss65 : isStructT Tryz.prog 65 = true := by kernel_rfl
@[simp] theorem fk65 : fldOk Tryz.prog 65 = true := by kernel_rfl
@[simp] theorem fo65_0 : fieldOff Tryz.prog 65 0 = some 0 := by kernel_rfl
@[simp] theorem fo65_1 : fieldOff Tryz.prog 65 1 = some 2 := by kernel_rfl
@[simp] theorem fi65_0 : fInfo Tryz.prog 65 0 = some (0, 2) := by kernel_rfl
@[simp] theorem fi65_1 : fInfo Tryz.prog 65 1 = some (2, 1) := by kernel_rfl
@[simp] theorem sz67 : szOf Tryz.prog 67 = 3 := by kernel_rfl
@[simp] theorem by67 : bytesOf Tryz.prog 67 = 72 := by kernel_rfl
@[simp] theorem zo67 : (zeroOf Tryz.prog 67).isSome = true := by kernel_rfl
@[simp] theorem zd67 : zeroD Tryz.prog 67 = [.nils, .nils, .nils] := by kernel_rfl
@[simp] theorem ia67 : isAggT Tryz.prog 67 = true := by kernel_rfl
@[simp] theorem ss67 : isStructT Tryz.prog 67 = true := by kernel_rfl
@[simp] theorem fk67 : fldOk Tryz.prog 67 = true := by kernel_rfl
@[simp] theorem fo67_0 : fieldOff Tryz.prog 67 0 = some 0 := by kernel_rfl
@[simp] theorem fo67_1 : fieldOff Tryz.prog 67 1 = some 2 := by kernel_rfl
@[simp] theorem fi67_0 : fInfo Tryz.prog 67 0 = some (0, 2) := by kernel_rfl
@[simp] theorem fi67_1 : fInfo Tryz.prog 67 1 = some (2, 1) := by kernel_rfl
@[simp] theorem ik78 : intKindT Tryz.prog 78 = some .u64 := by kernel_rfl
@[simp] theorem sz104 : szOf Tryz.prog 104 = 1 := by kernel_rfl
@[simp] theorem ia104 : isAggT Tryz.prog 104 = false := by kernel_rfl
@[simp] theorem sz111 : szOf Tryz.prog 111 = 1 := by kernel_rfl
@[simp] theorem ia111 : isAggT Tryz.prog 111 = false := by kernel_rfl
@[simp] theorem ik111 : intKindT Tryz.prog 111 = some .i32 := by kernel_rfl
@[simp] theorem sz115 : szOf Tryz.prog 115 = 2 := by kernel_rfl
@[simp] theorem zo115 : (zeroOf Tryz.prog 115).isSome = true := by kernel_rfl
@[simp] theorem zd115 : zeroD Tryz.prog 115 = [(.int .i64 0), (.int .i64 0)] := by kernel_rfl
@[simp] theorem ia115 : isAggT Tryz.prog 115 = true := by kernel_rfl
@[simp] theorem ss115 : isStructT Tryz.prog 115 = true := by kernel_rfl
@[simp] theorem fk115 : fldOk Tryz.prog 115 = true := by kernel_rfl
@[simp] theorem fo115_0 : fieldOff Tryz.prog 115 0 = some 0 := by kernel_rfl
@[simp] theorem fo115_1 : fieldOff Tryz.prog 115 1 = some 1 := by kernel_rfl
@[simp] theorem fi115_1 : fInfo Tryz.prog 115 1 = some (1, 1) := by kernel_rfl
@[simp] theorem sz121 : szOf Tryz.prog 121 = 1 := by kernel_rfl
@[simp] theorem ia121 : isAggT Tryz.prog 121 = false := by kernel_rfl
@[simp] theorem ia139 : isAggT Tryz.prog 139 = false := by kernel_rfl
@[simp] theorem is139 : isSliceT Tryz.prog 139 = true := by kernel_rfl
@[simp] theorem el139 : Go.AM.elemOf Tryz.prog 139 = 143 := by kernel_rfl
@[simp] theorem es139 : elemSz Tryz.prog 139 = 4 := by kernel_rfl
@[simp] theorem sz143 : szOf Tryz.prog 143 = 4 := by kernel_rfl
@[simp] theorem by143 : bytesOf Tryz.prog 143 = 48 := by kernel_rfl
@[simp] theorem zo143 : (zeroOf Tryz.prog 143).isSome = true := by kernel_rfl
@[simp] theorem zd143 : zeroD Tryz.prog 143 = [(.int .i64 0), (.int .i64 0), (.int .i64 0), .nils] := by kernel_rfl
@[simp] theorem ia143 : isAggT Tryz.prog 143 = true := by kernel_rfl
@[simp] theorem ss143 : isStructT Tryz.prog 143 = true := by kernel_rfl
@[simp] theorem fk143 : fldOk Tryz.prog 143 = true := by kernel_rfl
@[simp] theorem fo143_0 : fieldOff Tryz.prog 143 0 = some 0 := by kernel_rfl
@[simp] theorem fo143_1 : fieldOff Tryz.prog 143 1 = some 1 := by kernel_rfl
@[simp] theorem fo143_2 : fieldOff Tryz.prog 143 2 = some 2 := by kernel_rfl
@[simp] theorem fo143_3 : fieldOff Tryz.prog 143 3 = some 3 := by kernel_rfl
@[simp] theorem fi143_0 : fInfo Tryz.prog 143 0 = some (0, 1) := by kernel_rfl
@[simp] theorem ia152 : isAggT Tryz.prog 152 = false := by kernel_rfl
@[simp] theorem sz154 : szOf Tryz.prog 154 = 4 := by kernel_rfl
@[simp] theorem by154 : bytesOf Tryz.prog 154 = 32 := by kernel_rfl
@[simp] theorem zo154 : (zeroOf Tryz.prog 154).isSome = true := by kernel_rfl
@[simp] theorem zd154 : zeroD Tryz.prog 154 = [(.int .i64 0), (.int .i64 0), (.int .u8 0), (.int .i64 0)] := by kernel_rfl
@[simp] theorem ia154 : isAggT Tryz.prog 154 = true := by kernel_rfl
@[simp] theorem ss154 : isStructT Tryz.prog 154 = true := by kernel_rfl
@[simp] theorem fk154 : fldOk Tryz.prog 154 = true := by kernel_rfl
@[simp] theorem fo154_0 : fieldOff Tryz.prog 154 0 = some 0 := by kernel_rfl
@[simp] theorem fo154_1 : fieldOff Tryz.prog 154 1 = some 1 := by kernel_rfl
@[simp] theorem fo154_2 : fieldOff Tryz.prog 154 2 = some 2 := by kernel_rfl
@[simp] theorem fo154_3 : fieldOff Tryz.prog 154 3 = some 3 := by kernel_rfl
@[simp] theorem fi154_0 : fInfo Tryz.prog 154 0 = some (0, 1) := by kernel_rfl
@[simp] theorem fi154_2 : fInfo Tryz.prog 154 2 = some (2, 1) := by kernel_rfl
@[simp] theorem fi154_3 : fInfo Tryz.prog 154 3 = some (3, 1) := by kernel_rfl
@[simp] theorem sz155 : szOf Tryz.prog 155 = 1 := by kernel_rfl
@[simp] theorem ia155 : isAggT Tryz.prog 155 = false := by kernel_rfl
@[simp] theorem ik155 : intKindT Tryz.prog 155 = some .u64 := by kernel_rfl
@[simp] theorem sz179 : szOf Tryz.prog 179 = 2 := by kernel_rfl
@[simp] theorem zo179 : (zeroOf Tryz.prog 179).isSome = true := by kernel_rfl
@[simp] theorem zd179 : zeroD Tryz.prog 179 = [(.int .u64 0), (.int .u64 0)] := by kernel_rfl
@[simp] theorem ia179 : isAggT Tryz.prog 179 = true := by kernel_rfl
@[simp] theorem ss179 : isStructT Tryz.prog 179 = true := by kernel_rfl
@[simp] theorem fk179 : fldOk Tryz.prog 179 = true := by kernel_rfl
@[simp] theorem fo179_0 : fieldOff Tryz.prog 179 0 = some 0 := by kernel_rfl
@[simp] theorem fo179_1 : fieldOff Tryz.prog 179 1 = some 1 := by kernel_rfl
@[simp] theorem fi179_0 : fInfo Tryz.prog 179 0 = some (0, 1) := by kernel_rfl
@[simp] theorem fi179_1 : fInfo Tryz.prog 179 1 = some (1, 1) := by kernel_rfl
@[simp] theorem sz181 : szOf Tryz.prog 181 = 3 := by kernel_rfl
@[simp] theorem zo181 : (zeroOf Tryz.prog 181).isSome = true := by kernel_rfl
@[simp] theorem zd181 : zeroD Tryz.prog 181 = [(.int .u64 0), (.int .u64 0), (.bool false)] := by kernel_rfl
@[simp] theorem ia181 : isAggT Tryz.prog 181 = true := by kernel_rfl
@[simp] theorem ss181 : isStructT Tryz.prog 181 = true := by kernel_rfl
@[simp] theorem fk181 : fldOk Tryz.prog 181 = true := by kernel_rfl
@[simp] theorem fo181_0 : fieldOff Tryz.prog 181 0 = some 0 := by kernel_rfl
@[simp] theorem fo181_1 : fieldOff Tryz.prog 181 1 = some 2 := by kernel_rfl
@[simp] theorem fi181_0 : fInfo Tryz.prog 181 0 = some (0, 2) := by kernel_rfl
@[simp] theorem fi181_1 : fInfo Tryz.prog 181 1 = some (2, 1) := by kernel_rfl
@[simp] theorem sz194 : szOf Tryz.prog 194 = 1 := by kernel_rfl
@[simp] theorem ia194 : isAggT Tryz.prog 194 = false := by kernel_rfl
@[simp] theorem is195 : isSliceT Tryz.prog 195 = true := by kernel_rfl
@[simp] theorem el195 : Go.AM.elemOf Tryz.prog 195 = 194 := by kernel_rfl
@[simp] theorem es195 : elemSz Tryz.prog 195 = 1 := by kernel_rfl
@[simp] theorem ia196 : isAggT Tryz.prog 196 = false := by kernel_rfl
@[simp] theorem sz198 : szOf Tryz.prog 198 = 3 := by kernel_rfl
@[simp] theorem zo198 : (zeroOf Tryz.prog 198).isSome = true := by kernel_rfl
@[simp] theorem zd198 : zeroD Tryz.prog 198 = [(.str ⟨#[]⟩), (.int .u8 0), .nils] := by kernel_rfl
@[simp] theorem ia198 : isAggT Tryz.prog 198 = true := by kernel_rfl
@[simp] theorem ss198 : isStructT Tryz.prog 198 = true := by kernel_rfl
@[simp] theorem fk198 : fldOk Tryz.prog 198 = true := by kernel_rfl
@[simp] theorem fo198_0 : fieldOff Tryz.prog 198 0 = some 0 := by kernel_rfl
@[simp] theorem fo198_1 : fieldOff Tryz.prog 198 1 = some 1 := by kernel_rfl
@[simp] theorem fo198_2 : fieldOff Tryz.prog 198 2 = some 2 := by kernel_rfl
@[simp] theorem fi198_0 : fInfo Tryz.prog 198 0 = some (0, 1) := by kernel_rfl
@[simp] theorem fi198_2 : fInfo Tryz.prog 198 2 = some (2, 1) := by kernel_rfl
@[simp] theorem ia199 : isAggT Tryz.prog 199 = false := by kernel_rfl
@[simp] theorem is199 : isSliceT Tryz.prog 199 = true := by kernel_rfl
@[simp] theorem el199 : Go.AM.elemOf Tryz.prog 199 = 198 := by kernel_rfl
@[simp] theorem es199 : elemSz Tryz.prog 199 = 3 := by kernel_rfl
@[simp] theorem sz201 : szOf Tryz.prog 201 = 7 := by kernel_rfl
@[simp] theorem zo201 : (zeroOf Tryz.prog 201).isSome = true := by kernel_rfl
@[simp] theorem zd201 : zeroD Tryz.prog 201 = [(.int .i64 0), (.int .i64 0), .nils, .nils, (.int .i64 0), (.bool false), .nils] := by kernel_rfl
@[simp] theorem ia201 : isAggT Tryz.prog 201 = true := by kernel_rfl
@[simp] theorem ss201 : isStructT Tryz.prog 201 = true := by kernel_rfl
@[simp] theorem fk201 : fldOk Tryz.prog 201 = true := by kernel_rfl
@[simp] theorem fo201_0 : fieldOff Tryz.prog 201 0 = some 0 := by kernel_rfl
@[simp] theorem fo201_1 : fieldOff Tryz.prog 201 1 = some 1 := by kernel_rfl
@[simp] theorem fo201_2 : fieldOff Tryz.prog 201 2 = some 2 := by kernel_rfl
@[simp] theorem fo201_3 : fieldOff Tryz.prog 201 3 = some 3 := by kernel_rfl
@[simp] theorem fo201_4 : fieldOff Tryz.prog 201 4 = some 4 := by kernel_rfl
@[simp] theorem fo201_5 : fieldOff Tryz.prog 201 5 = some 5 := by kernel_rfl
@[simp] theorem fo201_6 : fieldOff Tryz.prog 201 6 = some 6 := by kernel_rfl
@[simp] theorem fi201_1 : fInfo Tryz.prog 201 1 = some (1, 1) := by kernel_rfl
@[simp] theorem fi201_2 : fInfo Tryz.prog 201 2 = some (2, 1) := by kernel_rfl
@[simp] theorem fi201_6 : fInfo Tryz.prog 201 6 = some (6, 1) := by kernel_rfl
@[simp] theorem ia202 : isAggT Tryz.prog 202 = false := by kernel_rfl
@[simp] theorem is202 : isSliceT Tryz.prog 202 = true := by kernel_rfl
@[simp] theorem el202 : Go.AM.elemOf Tryz.prog 202 = 201 := by kernel_rfl
@[simp] theorem es202 : elemSz Tryz.prog 202 = 7 := by kernel_rfl
@[simp] theorem sz204 : szOf Tryz.prog 204 = 3 := by kernel_rfl
@[simp] theorem zo204 : (zeroOf Tryz.prog 204).isSome = true := by kernel_rfl
@[simp] theorem zd204 : zeroD Tryz.prog 204 = [(.str ⟨#[]⟩), .nils, .nils] := by kernel_rfl
@[simp] theorem ia204 : isAggT Tryz.prog 204 = true := by kernel_rfl
@[simp] theorem ss204 : isStructT Tryz.prog 204 = true := by kernel_rfl
@[simp] theorem fk204 : fldOk Tryz.prog 204 = true := by kernel_rfl
@[simp] theorem fo204_0 : fieldOff Tryz.prog 204 0 = some 0 := by kernel_rfl
@[simp] theorem fo204_1 : fieldOff Tryz.prog 204 1 = some 1 := by kernel_rfl
@[simp] theorem fo204_2 : fieldOff Tryz.prog 204 2 = some 2 := by kernel_rfl
@[simp] theorem fi204_0 : fInfo Tryz.prog 204 0 = some (0, 1) := by kernel_rfl
@[simp] theorem fi204_1 : fInfo Tryz.prog 204 1 = some (1, 1) := by kernel_rfl
@[simp] theorem fi204_2 : fInfo Tryz.prog 204 2 = some (2, 1) := by kernel_rfl
@[simp] theorem is206 : isSliceT Tryz.prog 206 = true := by kernel_rfl
@[simp] theorem el206 : Go.AM.elemOf Tryz.prog 206 = 121 := by kernel_rfl
@[simp] theorem es206 : elemSz Tryz.prog 206 = 1 := by kernel_rfl
@[simp] theorem is216 : isSliceT Tryz.prog 216 = true := by kernel_rfl
@[simp] theorem el216 : Go.AM.elemOf Tryz.prog 216 = 219 := by kernel_rfl
@[simp] theorem es216 : elemSz Tryz.prog 216 = 3 := by kernel_rfl
@[simp] theorem sz219 : szOf Tryz.prog 219 = 3 := by kernel_rfl
@[simp] theorem zo219 : (zeroOf Tryz.prog 219).isSome = true := by kernel_rfl
@[simp] theorem zd219 : zeroD Tryz.prog 219 = [(.int .i64 0), (.int .i64 0), (.int .i32 0)] := by kernel_rfl
@[simp] theorem ia219 : isAggT Tryz.prog 219 = true := by kernel_rfl
@[simp] theorem ss219 : isStructT Tryz.prog 219 = true := by kernel_rfl
@[simp] theorem fk219 : fldOk Tryz.prog 219 = true := by kernel_rfl
@[simp] theorem fo219_0 : fieldOff Tryz.prog 219 0 = some 0 := by kernel_rfl
@[simp] theorem fo219_1 : fieldOff Tryz.prog 219 1 = some 1 := by kernel_rfl
@[simp] theorem fo219_2 : fieldOff Tryz.prog 219 2 = some 2 := by kernel_rfl
@[simp] theorem fi219_0 : fInfo Tryz.prog 219 0 = some (0, 1) := by kernel_rfl
@[simp] theorem fi219_1 : fInfo Tryz.prog 219 1 = some (1, 1) := by kernel_rfl
@[simp] theorem fi219_2 : fInfo Tryz.prog 219 2 = some (2, 1) := by kernel_rfl
@[simp] theorem sz226 : szOf Tryz.prog 226 = 4 := by kernel_rfl
@[simp] theorem zo226 : (zeroOf Tryz.prog 226).isSome = true := by kernel_rfl
@[simp] theorem zd226 : zeroD Tryz.prog 226 = [(.str ⟨#[]⟩), (.int .i64 0), (.int .i64 0), (.int .i64 0)] := by kernel_rfl
@[simp] theorem ia226 : isAggT Tryz.prog 226 = true := by kernel_rfl
@[simp] theorem fo226_0 : fieldOff Tryz.prog 226 0 = some 0 := by kernel_rfl
@[simp] theorem fo226_1 : fieldOff Tryz.prog 226 1 = some 1 := by kernel_rfl
@[simp] theorem fo226_2 : fieldOff Tryz.prog 226 2 = some 2 := by kernel_rfl
@[simp] theorem fo226_3 : fieldOff Tryz.prog 226 3 = some 3 := by kernel_rfl
@[simp] theorem sz263 : szOf Tryz.prog 263 = 3 := by kernel_rfl
@[simp] theorem zo263 : (zeroOf Tryz.prog 263).isSome = true := by kernel_rfl
@[simp] theorem zd263 : zeroD Tryz.prog 263 = [(.int .i64 0), (.int .i64 0), (.int .i64 0)] := by kernel_rfl
@[simp] theorem ia263 : isAggT Tryz.prog 263 = true := by kernel_rfl
@[simp] theorem ss263 : isStructT Tryz.prog 263 = true := by kernel_rfl
@[simp] theorem fk263 : fldOk Tryz.prog 263 = true := by kernel_rfl
@[simp] theorem fi263_0 : fInfo Tryz.prog 263 0 = some (0, 1) := by kernel_rfl
@[simp] theorem fi263_1 : fInfo Tryz.prog 263 1 = some (1, 1) := by kernel_rfl
@[simp] theorem fi263_2 : fInfo Tryz.prog 263 2 = some (2, 1) := by kernel_rfl
@[simp] theorem sz266 : szOf Tryz.prog 266 = 1 := by kernel_rfl
@[simp] theorem ia266 : isAggT Tryz.prog 266 = false := by kernel_rfl
@[simp] theorem is269 : isSliceT Tryz.prog 269 = true := by kernel_rfl
@[simp] theorem el269 : Go.AM.elemOf Tryz.prog 269 = 266 := by kernel_rfl
@[simp] theorem es269 : elemSz Tryz.prog 269 = 1 := by kernel_rfl
@[simp] theorem sz275 : szOf Tryz.prog 275 = 3 := by kernel_rfl
@[simp] theorem zo275 : (zeroOf Tryz.prog 275).isSome = true := by kernel_rfl
@[simp] theorem zd275 : zeroD Tryz.prog 275 = [(.int .i64 0), (.bool false), (.bool false)] := by kernel_rfl
@[simp] theorem ia275 : isAggT Tryz.prog 275 = true := by kernel_rfl
@[simp] theorem ss275 : isStructT Tryz.prog 275 = true := by kernel_rfl
@[simp] theorem fk275 : fldOk Tryz.prog 275 = true := by kernel_rfl
@[simp] theorem fo275_0 : fieldOff Tryz.prog 275 0 = some 0 := by kernel_rfl
@[simp] theorem fo275_1 : fieldOff Tryz.prog 275 1 = some 1 := by kernel_rfl
@[simp] theorem fo275_2 : fieldOff Tryz.prog 275 2 = some 2 := by kernel_rfl
@[simp] theorem fi275_0 : fInfo Tryz.prog 275 0 = some (0, 1) := by kernel_rfl
@[simp] theorem fi275_1 : fInfo Tryz.prog 275 1 = some (1, 1) := by kernel_rfl
@[simp] theorem fi275_2 : fInfo Tryz.prog 275 2 = some (2, 1) := by kernel_rfl
@[simp] theorem is279 : isSliceT Tryz.prog 279 = true := by kernel_rfl
@[simp] theorem el279 : Go.AM.elemOf Tryz.prog 279 = 283 := by kernel_rfl
@[simp] theorem es279 : elemSz Tryz.prog 279 = 8 := by kernel_rfl
@[simp] theorem sz283 : szOf Tryz.prog 283 = 8 := by kernel_rfl
@[simp] theorem zo283 : (zeroOf Tryz.prog 283).isSome = true := by kernel_rfl
@[simp] theorem zd283 : zeroD Tryz.prog 283 = [(.int .i64 0), (.int .i64 0), (.int .i64 0), .nils, .nils, (.int .i64 0), (.bool false), .nils] := by kernel_rfl
@[simp] theorem ia283 : isAggT Tryz.prog 283 = true := by kernel_rfl
@[simp] theorem ss283 : isStructT Tryz.prog 283 = true := by kernel_rfl
@[simp] theorem fk283 : fldOk Tryz.prog 283 = true := by kernel_rfl
@[simp] theorem fo283_0 : fieldOff Tryz.prog 283 0 = some 0 := by kernel_rfl
@[simp] theorem fo283_1 : fieldOff Tryz.prog 283 1 = some 1 := by kernel_rfl
@[simp] theorem fi283_0 : fInfo Tryz.prog 283 0 = some (0, 1) := by kernel_rfl
@[simp] theorem fi283_1 : fInfo Tryz.prog 283 1 = some (1, 7) := by kernel_rfl
@[simp] theorem is307 : isSliceT Tryz.prog 307 = true := by kernel_rfl
@[simp] theorem el307 : Go.AM.elemOf Tryz.prog 307 = 104 := by kernel_rfl
@[simp] theorem es307 : elemSz Tryz.prog 307 = 1 := by kernel_rfl
@[simp] theorem ia313 : isAggT Tryz.prog 313 = false := by kernel_rfl
@[simp] theorem sz315 : szOf Tryz.prog 315 = 2 := by kernel_rfl
@[simp] theorem zo315 : (zeroOf Tryz.prog 315).isSome = true := by kernel_rfl
@[simp] theorem zd315 : zeroD Tryz.prog 315 = [(.int .u8 0), (.int .i64 0)] := by kernel_rfl
@[simp] theorem ia315 : isAggT Tryz.prog 315 = true := by kernel_rfl
@[simp] theorem fo315_0 : fieldOff Tryz.prog 315 0 = some 0 := by kernel_rfl
@[simp] theorem fo315_1 : fieldOff Tryz.prog 315 1 = some 1 := by kernel_rfl
@[simp] theorem sz317 : szOf Tryz.prog 317 = 5 := by kernel_rfl
@[simp] theorem zo317 : (zeroOf Tryz.prog 317).isSome = true := by kernel_rfl
@[simp] theorem zd317 : zeroD Tryz.prog 317 = [(.int .i64 0), (.bool false), (.bool false), (.str ⟨#[]⟩), (.int .i64 0)] := by kernel_rfl
@[simp] theorem ia317 : isAggT Tryz.prog 317 = true := by kernel_rfl
@[simp] theorem ss317 : isStructT Tryz.prog 317 = true := by kernel_rfl
@[simp] theorem fk317 : fldOk Tryz.prog 317 = true := by kernel_rfl
@[simp] theorem fo317_0 : fieldOff Tryz.prog 317 0 = some 0 := by kernel_rfl
@[simp] theorem fo317_1 : fieldOff Tryz.prog 317 1 = some 1 := by kernel_rfl
@[simp] theorem fo317_2 : fieldOff Tryz.prog 317 2 = some 2 := by kernel_rfl
@[simp] theorem es341 : elemSz Tryz.prog 341 = 5 := by kernel_rfl
@[simp] theorem al341 : arrLen Tryz.prog 341 = some 15 := by kernel_rfl
@[simp] theorem es353 : elemSz Tryz.prog 353 = 1 := by kernel_rfl
@[simp] theorem al353 : arrLen Tryz.prog 353 = some 16 := by kernel_rfl
@[simp] theorem is354 : isSliceT Tryz.prog 354 = true := by kernel_rfl
@[simp] theorem el354 : Go.AM.elemOf Tryz.prog 354 = 22 := by kernel_rfl
@[simp] theorem es354 : elemSz Tryz.prog 354 = 1 := by kernel_rfl
end Fx
end Go.Proofs.YtbgooadmonnjaaaGreatDoor
end
section
set_option linter.unusedVariables false
set_option linter.unusedSimpArgs false
namespace Go.AM
section
variable {P : Program} {ge : GEnv} {st : St} {Q : Exit → St → Prop} {ops : Array Oper}
variable {d : Option Tmp} {t : TypeId} {p : String} {af : Array Edge} {g : Option (Nat × Bool)}
theorem OpS_newVec {o : Oper} {T : TypeId} {xs : List (List V)} {len : Nat} (h0 : 0 < szOf P T) (hlen : len ≤ xs.length)
    (H : ∀ G a w, Rep P ge G st a w → ∃ (arr : Array Value) (cap : Nat), (execOp a.eval o).run P w = .ok (.value (.slice (some ⟨w.heap.size, 0, none⟩) len cap)) (w.alloc (.cells arr T)) ∧
      arr.size = cap * szOf P T ∧ xs.length ≤ cap ∧ cap ≤ maxLen ∧ RowR G w true (szOf P T) xs arr) :
    OpS P ge st o (.vec xs len) st.h := by
  intro G a w hr
  obtain ⟨arr, cap, h1, h2, h3, h4, h5, h6⟩ := H G a w hr
  have hle : ∀ j, G.fz j ≤ (if j = w.heap.size then arr.size else G.fz j) := fun j => by
    split
    · rename_i h; rw [h, hr.rh.fzlt _ (Nat.le_refl _)]; exact Nat.zero_le _
    · exact Nat.le_refl _
  have hh : (w.alloc (.cells arr T)).heap[w.heap.size]? = some (.cells arr T (0, 0)) := heap_alloc_new w _
  have kept : Kept G w (G.withFz fun j => if j = w.heap.size then arr.size else G.fz j) (w.alloc (.cells arr T)) := by
    refine ⟨.alloc w _, fun j hj => ?_, fun j hj => ?_⟩
    · show (if j = w.heap.size then arr.size else G.fz j) = G.fz j
      rw [if_neg (by omega)]
    · show (if j = w.heap.size then arr.size else G.fz j) = 0
      have hs : w.heap.size < (w.alloc (.cells arr T)).heap.size := by
        rcases Nat.lt_or_ge w.heap.size (w.alloc (.cells arr T)).heap.size with h | h
        · exact h
        · rw [Array.getElem?_eq_none h] at hh; cases hh
      rw [if_neg (by omega)]
      exact hr.rh.fzlt j (by omega)
  obtain ⟨rh, ext⟩ := kept.rh hr.rh
  have le := ext.le
  refine ⟨_, _, _, .inl h1, rh, ?_, ext⟩
  have hlt : ∀ (i : Nat) (x : List V) (j : Nat) (v : V), xs[i]? = some x → x[j]? = some v → i * szOf P T + j < arr.size := fun i x j v hx hv => by
    have k1 := h5 i x hx
    have k2 : i < xs.length := (List.getElem?_eq_some_iff.1 hx).1
    have k3 : j < x.length := (List.getElem?_eq_some_iff.1 hv).1
    have k4 : (i + 1) * szOf P T ≤ cap * szOf P T := Nat.mul_le_mul_right _ (by omega)
    rw [h2]; rw [Nat.add_mul] at k4; omega
  have hcd : ∀ (o : Nat), o < arr.size → (w.alloc (.cells arr T)).cell? ⟨w.heap.size, o, none⟩ = some (arr.getD o undef) := fun o ho => arr_cell hh ho
  have hd : ∀ (o : Nat), o < arr.size → cellD (w.alloc (.cells arr T)) w.heap.size o = arr.getD o undef := fun o ho => by unfold cellD; rw [hcd o ho]; rfl
  refine R.vec (sz := szOf P T) hlen h3 h4 h5 (fun i x j v hx hv => ?_) (fun i x j v hx hv => ?_) (fun i x j v hx hv => ?_)
  · have := hlt i x j v hx hv
    rw [Nat.zero_add]
    refine ⟨by rw [hcd _ this]; rfl, ?_⟩
    show _ < if w.heap.size = w.heap.size then arr.size else G.fz w.heap.size
    rw [if_pos rfl]; exact this
  · rw [Nat.zero_add, hd _ (hlt i x j v hx hv)]; exact (h6 i x j v hx hv).1
  · rw [Nat.zero_add, hd _ (hlt i x j v hx hv)]
    exact ((h6 i x j v hx hv).2).monoT le.fz (fun k o ho => le.cells k o ho) rfl
theorem S_buildVec {T e : TypeId} {len : Nat} {parts : Array (Nat × Operand)} {zs : List V} (hu : P.underlying T = some (.slice e)) (hz : zeroOf P e = some zs) (hsz : szOf P e = zs.length) (h0 : 0 < zs.length) (hl0 : 0 < len) (hl : len * zs.length ≤ 16777216)
    (hok : rowsOk zs.length len (parts.toList.map fun x => (x.1, ev ge st.tm x.2)) = true) (hf : partsF (parts.toList.map fun x => (x.1, ev ge st.tm x.2)) = true) :
    OpS P ge st ⟨d, .buildSlice T len parts, t, p, af, g⟩ (.vec (rowsV (List.replicate len zs) (parts.toList.map fun x => (x.1, ev ge st.tm x.2))) len) st.h := by
  have hlen : ∀ (ps : List (Nat × V)) (xs : List (List V)), (rowsV xs ps).length = xs.length := by
    intro ps
    induction ps with
    | nil => intro xs; rfl
    | cons a r ih => intro xs; simp only [rowsV]; rw [ih, List.length_set]
  refine OpS_newVec (T := e) (by omega) (by rw [hlen]; simp) fun G a w hr => ?_
  obtain ⟨z, h1, _, h2, _, h3⟩ := run_zeroValue hz
  have hrow := RowR_zeros (G := G) (w := w) (T := e) h2 h3 len true
  obtain ⟨arr', e1, e2, e3⟩ := fillRows (fun x => hr.ev x) parts.toList _ _ hrow (by simp [h2]) (by simpa using hok) (fun _ => hf)
  have hpm : (parts.map fun (x : Nat × Operand) => (x.1, a.eval x.2)).toList = parts.toList.map fun x => (x.1, a.eval x.2) := by simp
  have h24 : ¬ (len * zs.length > 2 ^ 24) := by omega
  refine ⟨arr', len, ?_, by rw [e2, hsz]; simp, by rw [hlen]; simp, ?_, by rw [hsz]; exact e3⟩
  · simp only [execOp, Instr.buildSlice, Sem.run_bind, run_underlying hu, Result.andThen_ok, run_sizeOf hsz h0, h24, if_false]
    have hzero : ¬ len * zs.length = 0 := by
      intro q; rcases Nat.mul_eq_zero.1 q with q | q <;> omega
    have e1' : Instr.fill (fun i => some (i * zs.length, zs.length)) ((Array.range (len * zs.length)).map fun k => z.cells[k % z.cells.size]!) (parts.map fun (x : Nat × Operand) => (x.1, a.eval x.2)).toList = some arr' := by
      rw [hpm, ← h2]; rw [← h2] at e1; exact e1
    simp only [hzero, if_false, Sem.run_bind, h1, Result.andThen_ok, Sem.run_pure, e1']
    simp [newRow]
  · have : len ≤ len * zs.length := Nat.le_mul_of_pos_right _ h0
    unfold maxLen; omega
def bsOk (P : Program) (ge : GEnv) (st : St) (T : TypeId) (len : Nat) (parts : Array (Nat × Operand)) : Prop :=
  isSliceT P T = true ∧ (zeroOf P (elemOf P T)).isSome = true ∧ szOf P (elemOf P T) = (zeroD P (elemOf P T)).length ∧ 0 < (zeroD P (elemOf P T)).length ∧ 0 < len ∧ len * (zeroD P (elemOf P T)).length ≤ 16777216 ∧
    rowsOk (zeroD P (elemOf P T)).length len (partsV ge st.tm parts.toList) = true ∧ partsF (partsV ge st.tm parts.toList) = true
theorem S_bsOk {T : TypeId} {len : Nat} {parts : Array (Nat × Operand)} (h : bsOk P ge st T len parts) :
    OpS P ge st ⟨d, .buildSlice T len parts, t, p, af, g⟩ (.vec (rowsV (List.replicate len (zeroD P (elemOf P T))) (partsV ge st.tm parts.toList)) len) st.h := by
  obtain ⟨h1, h2, h3, h4, h5, h6, h7, h8⟩ := h
  obtain ⟨e, hu, _⟩ := isSliceT_spec h1
  have he : elemOf P T = e := by unfold elemOf; rw [hu]
  rw [he] at h2 h3 h4 h6 h7 ⊢
  rw [partsV_eq] at h7 h8 ⊢
  exact S_buildVec hu (getD_some h2) h3 h4 h5 h6 h7 h8
end
attribute [simp] bsOk
end Go.AM
end
section
set_option linter.unusedVariables false
set_option linter.unusedSimpArgs false
namespace Go.AM
section
variable {P : Program} {ge : GEnv} {st : St} {Q : Exit → St → Prop} {G : Gh} {w : World}
variable {d : Option Tmp} {t : TypeId} {p : String} {af : Array Edge}
/-- A value as a reader sees it. -/
def seenV (h : List B) : V → V
  | .ref b g off len => match h[b]? with
    | some (.row _ g' _ true xs) => if g = g' ∧ off + len ≤ xs.length then .vec (xs.drop off) len else .ref b g off len
    | _ => .ref b g off len
  | v => v
def V.scal : V → Bool
  | .bool _ | .int _ _ | .str _ => true
  | _ => false
def cellsAt (w : World) (k : Nat) : Nat := match w.heap[k]? with
  | some (.cells arr _ _) => arr.size
  | _ => 0
def Gh.all (G : Gh) (w : World) : Gh := G.withFz fun k => max (G.fz k) (cellsAt w k)
theorem all_fz (k : Nat) : G.fz k ≤ (G.all w).fz k := Nat.le_max_left _ _
theorem seen_spec {h : List B} (rh : RH P ge G h w) {u : V} {c : Value} (hu : R G w false u c) (hf : (seenV h u).isF = true) : R (G.all w) w true (seenV h u) c := by
  have keep : u.isF = true → R (G.all w) w true u c := fun h => (hu.frozen h).monoT all_fz (fun _ _ _ => rfl) rfl
  cases u
  case ref b g off len =>
    unfold seenV at hf ⊢
    cases hx : h[b]? with
    | none => simp [hx, V.isF] at hf
    | some x =>
    cases x with
    | dead => simp [hx, V.isF] at hf
    | var cs => simp [hx, V.isF] at hf
    | map es => simp [hx, V.isF] at hf
    | row T g' fzn fl xs =>
    cases fl with
    | false => simp [hx, V.isF] at hf
    | true =>
      simp only [hx] at hf ⊢
      by_cases hc : g = g' ∧ off + len ≤ xs.length
      · rw [if_pos hc]
        obtain ⟨rfl, hlen⟩ := hc
        clear hf
        obtain ⟨h00, hfx, ⟨hsz0, hszT⟩, hrow⟩ := rh.bl b _ hx
        cases hu with
        | ref hb hg hm hle =>
          rename_i k
          rcases hrow with ⟨hn, rfl⟩ | ⟨k', arr, hm', hh, hfzk, hs', hl', hcm, hlen', hcells⟩
          · rw [hm] at hn; cases hn
          · rw [hm] at hm'; cases hm'
            have idx : ∀ (i : Nat) (x : List V) (j : Nat) (v : V), (xs.drop off)[i]? = some x → x[j]? = some v → xs[off + i]? = some x ∧ off * G.sz b + (i * G.sz b + j) = (off + i) * G.sz b + j ∧ (off + i) * G.sz b + j < arr.size := fun i x j v hx hv => by
              have hx' : xs[off + i]? = some x := by rw [List.getElem?_drop] at hx; exact hx
              refine ⟨hx', by rw [Nat.add_mul]; omega, ?_⟩
              have h2 : off + i < xs.length := (List.getElem?_eq_some_iff.1 hx').1
              have h3 : (off + i + 1) * G.sz b ≤ G.cap b g * G.sz b := Nat.mul_le_mul_right _ (by omega)
              have h4 : j < G.sz b := by rw [← hlen' _ x hx']; exact (List.getElem?_eq_some_iff.1 hv).1
              rw [hs', Nat.add_mul (off + i) 1] at *; omega
            have hD : ∀ q, q < arr.size → w.cell? ⟨k, q, none⟩ = some (arr.getD q undef) := fun q hq => arr_cell hh hq
            refine .vec (sz := G.sz b) (by rw [List.length_drop]; omega) (by rw [List.length_drop]; omega) (by omega) (fun i x hx => hlen' (off + i) x (by rw [List.getElem?_drop] at hx; exact hx)) (fun i x j v hx hv => ?_) (fun i x j v hx hv => ?_) (fun i x j v hx hv => ?_)
            · obtain ⟨e1, e2, e3⟩ := idx i x j v hx hv
              rw [e2, hD _ e3]
              refine ⟨rfl, Nat.lt_of_lt_of_le e3 ?_⟩
              have : cellsAt w k = arr.size := by unfold cellsAt; rw [hh]
              show arr.size ≤ max (G.fz k) (cellsAt w k)
              rw [this]; exact Nat.le_max_right _ _
            · obtain ⟨e1, e2, e3⟩ := idx i x j v hx hv
              unfold cellD; rw [e2, hD _ e3]; exact (hcells _ x j v e1 hv).1
            · obtain ⟨e1, e2, e3⟩ := idx i x j v hx hv
              unfold cellD; rw [e2, hD _ e3]; exact (hcells _ x j v e1 hv).2.monoT all_fz (fun _ _ _ => rfl) rfl
        | refn hb hg hm =>
          rcases hrow with ⟨hn, rfl⟩ | ⟨k', arr, hm', _⟩
          · exact .emp (Nat.zero_le _)
          · rw [hm] at hm'; cases hm'
      · rw [if_neg hc] at hf; cases hf
  all_goals exact keep hf
theorem scal_R {r : V} {c : Value} (h : r.scal = true) {G G' : Gh} {w w' : World} {fr fr' : Bool} (hr : R G w fr r c) : R G' w' fr' r c := by
  cases r <;> first | (simp [V.scal] at h; done) | (cases hr; constructor; done)
theorem GCall_seen {f : Nat} {args args' : List V} {r : V} {h : List B} (hc : PCall P ge f args' r) (hs : args.map (seenV h) = args') (hf : V.isFs args' = true) (hp : r.scal = true) :
    GCall P ge f args h fun v h' => v = r ∧ h' = h := by
  refine ⟨hc.1, fun G w cargs ha hr => ?_⟩
  have ha' : ArgsR (G.all w) w true args' cargs := by
    subst hs
    refine ⟨by rw [ha.1, List.length_map], fun i v hv => ?_⟩
    have hvf := V.isFs_get hf i v hv
    rw [List.getElem?_map] at hv
    obtain ⟨u, hu, rfl⟩ := Option.map_eq_some_iff.1 hv
    exact seen_spec hr (ha.2 i u hu) hvf
  have hge : GE ge (G.all w) w := ⟨fun k hk => by
    show max (G.fz k) (cellsAt w k) = 0
    have : cellsAt w k = 0 := by unfold cellsAt; rw [Array.getElem?_eq_none hk]
    rw [this, hr.fzlt k hk]; rfl, fun g cs hg => (hr.ge g cs hg).monoT all_fz (fun _ _ _ => rfl) rfl⟩
  refine (hc.2 (G.all w) w cargs ha' hge).mono ?_
  rintro e w' ⟨c, G', rfl, kept, ro⟩
  have k0 : Kept G w G w' := ⟨kept.grow, fun _ _ => rfl, fun k hk => hr.fzlt k (Nat.le_trans kept.grow.size hk)⟩
  obtain ⟨h1, h2⟩ := k0.rh hr
  have hpl : r.plain = true := by cases r <;> first | rfl | cases hp
  exact ⟨c, _, r, h, rfl, ⟨rfl, rfl⟩, h1, scal_R hp (ro.plain hpl), h2⟩
/-- A call of a function on values as they are seen. -/
def SeenStep (P : Program) (ge : GEnv) (st : St) (op : Op) (v : V) : Prop :=
  ∃ x xs ts f args', op = .call { callee := .value x, args := xs, argTypes := ts } ∧ ev ge st.tm x = .fn (.func f) [] [] ∧ PCall P ge f args' v ∧ (xs.toList.map (ev ge st.tm)).map (seenV st.h) = args' ∧ V.isFs args' = true ∧ v.scal = true
/-- All references of a heap that is there lead into it. -/
theorem RH.closed {G : Gh} {h : List B} {w : World} (rh : RH P ge G h w) : ∀ y ∈ h, y.lt h.length := fun y hy => by
  obtain ⟨b, hb⟩ := List.getElem?_of_mem hy
  exact rh.blt hb
/-- A call that leaves the heap as it is, however much stands behind it, and tells no row. -/
def GStep (P : Program) (ge : GEnv) (st : St) (op : Op) (v : V) : Prop :=
  ∃ x xs ts f, op = .call { callee := .value x, args := xs, argTypes := ts } ∧ ev ge st.tm x = .fn (.func f) [] [] ∧ (∀ e : List B, GCall P ge f (xs.toList.map (ev ge st.tm)) (st.h ++ e) fun v' h' => v' = v ∧ h' = st.h ++ e) ∧ v.scal = true
theorem AS_scall {ops : Array Oper} {rest : List Oper} {x : Operand} {xs : Array Operand} {ts : Array TypeId} {f : Nat} {A C : List V} {args' : List V} {r : V}
    (hx : ev ge st.tm x = .fn (.func f) A C) (hd : dstOk st.n d = true) (hc : PCall P ge f args' r) (hs : (A ++ xs.toList.map (ev ge st.tm) ++ C).map (seenV st.h) = args') (hf : V.isFs args' = true) (hp : r.scal = true)
    (h : AS P ge ops rest Q { st with tm := putD d r st.tm }) :
    AS P ge ops (⟨d, .call { callee := .value x, args := xs, argTypes := ts }, t, p, af, none⟩ :: rest) Q st :=
  AS_gcall hx hd (GCall_seen hc hs hf hp) (by rintro v h' ⟨rfl, rfl⟩; exact h)
end
end Go.AM
end
