/-
  YtgmlimipejcpgaaFxTry: a step of the proof of a law of the program: what this text proves holds under the hypotheses that its theorems name, and no others.
-/
import Derived.Test.YtgmlimipejcpgaaProg
import Derived.Test.YtgmlimipejcpgaaAmK
import Derived.KernelRfl
/-! Facts on the types of the seat Ytgmlimipejcpgaa, by program (wip/tools/facts.py). -/
set_option maxRecDepth 100000
namespace Go.Proofs.Ytgmlimipejcpgaa
open Go.AM
namespace Fx
@[simp] theorem sz1 : szOf Try.prog 1 = 1 := by kernel_rfl
@[simp] theorem iu1 : (Try.prog.underlying 1).isSome = true := by kernel_rfl
@[simp] theorem ia1 : isAggT Try.prog 1 = false := by kernel_rfl
@[simp] theorem iu2 : (Try.prog.underlying 2).isSome = true := by kernel_rfl
@[simp] theorem sz2 : szOf Try.prog 2 = 1 := by kernel_rfl
@[simp] theorem by2 : bytesOf Try.prog 2 = 8 := by kernel_rfl
@[simp] theorem zo2 : (zeroOf Try.prog 2).isSome = true := by kernel_rfl
@[simp] theorem zd2 : zeroD Try.prog 2 = [(.int .i64 0)] := by kernel_rfl
@[simp] theorem ia2 : isAggT Try.prog 2 = false := by kernel_rfl
@[simp] theorem ik2 : intKindT Try.prog 2 = some .i64 := by kernel_rfl
@[simp] theorem iu3 : (Try.prog.underlying 3).isSome = true := by kernel_rfl
@[simp] theorem sz3 : szOf Try.prog 3 = 1 := by kernel_rfl
@[simp] theorem by3 : bytesOf Try.prog 3 = 8 := by kernel_rfl
@[simp] theorem zo3 : (zeroOf Try.prog 3).isSome = true := by kernel_rfl
@[simp] theorem zd3 : zeroD Try.prog 3 = [(.int .i64 0)] := by kernel_rfl
@[simp] theorem ia3 : isAggT Try.prog 3 = false := by kernel_rfl
@[simp] theorem ik3 : intKindT Try.prog 3 = some .i64 := by kernel_rfl
@[simp] theorem iu4 : (Try.prog.underlying 4).isSome = true := by kernel_rfl
@[simp] theorem sz4 : szOf Try.prog 4 = 1 := by kernel_rfl
@[simp] theorem by4 : bytesOf Try.prog 4 = 1 := by kernel_rfl
@[simp] theorem zo4 : (zeroOf Try.prog 4).isSome = true := by kernel_rfl
@[simp] theorem zd4 : zeroD Try.prog 4 = [(.bool false)] := by kernel_rfl
@[simp] theorem ia4 : isAggT Try.prog 4 = false := by kernel_rfl
@[simp] theorem ib4 : isBoolT Try.prog 4 = true := by kernel_rfl
@[simp] theorem iu5 : (Try.prog.underlying 5).isSome = true := by kernel_rfl
@[simp] theorem sz5 : szOf Try.prog 5 = 1 := by kernel_rfl
@[simp] theorem by5 : bytesOf Try.prog 5 = 1 := by kernel_rfl
@[simp] theorem zo5 : (zeroOf Try.prog 5).isSome = true := by kernel_rfl
@[simp] theorem zd5 : zeroD Try.prog 5 = [(.int .u8 0)] := by kernel_rfl
@[simp] theorem ia5 : isAggT Try.prog 5 = false := by kernel_rfl
@[simp] theorem ik5 : intKindT Try.prog 5 = some .u8 := by kernel_rfl
@[simp] theorem iu6 : (Try.prog.underlying 6).isSome = true := by kernel_rfl
@[simp] theorem sz6 : szOf Try.prog 6 = 1 := by kernel_rfl
@[simp] theorem by6 : bytesOf Try.prog 6 = 1 := by kernel_rfl
@[simp] theorem zo6 : (zeroOf Try.prog 6).isSome = true := by kernel_rfl
@[simp] theorem zd6 : zeroD Try.prog 6 = [(.int .u8 0)] := by kernel_rfl
@[simp] theorem ia6 : isAggT Try.prog 6 = false := by kernel_rfl
@[simp] theorem ik6 : intKindT Try.prog 6 = some .u8 := by kernel_rfl
@[simp] theorem iu7 : (Try.prog.underlying 7).isSome = true := by kernel_rfl
@[simp] theorem sz7 : szOf Try.prog 7 = 4 := by kernel_rfl
@[simp] theorem by7 : bytesOf Try.prog 7 = 24 := by kernel_rfl
@[simp] theorem zo7 : (zeroOf Try.prog 7).isSome = true := by kernel_rfl
@[simp] theorem zd7 : zeroD Try.prog 7 = [(.int .i64 0), (.int .i64 0), (.bool false), (.int .u8 0)] := by kernel_rfl
@[simp] theorem ia7 : isAggT Try.prog 7 = true := by kernel_rfl
@[simp] theorem ss7 : isStructT Try.prog 7 = true := by kernel_rfl
@[simp] theorem fk7 : fldOk Try.prog 7 = true := by kernel_rfl
@[simp] theorem fo7_0 : fieldOff Try.prog 7 0 = some 0 := by kernel_rfl
@[simp] theorem fo7_1 : fieldOff Try.prog 7 1 = some 1 := by kernel_rfl
@[simp] theorem fo7_2 : fieldOff Try.prog 7 2 = some 2 := by kernel_rfl
@[simp] theorem fo7_3 : fieldOff Try.prog 7 3 = some 3 := by kernel_rfl
@[simp] theorem fi7_0 : fInfo Try.prog 7 0 = some (0, 1) := by kernel_rfl
@[simp] theorem fi7_1 : fInfo Try.prog 7 1 = some (1, 1) := by kernel_rfl
@[simp] theorem fi7_2 : fInfo Try.prog 7 2 = some (2, 1) := by kernel_rfl
@[simp] theorem fi7_3 : fInfo Try.prog 7 3 = some (3, 1) := by kernel_rfl
@[simp] theorem iu8 : (Try.prog.underlying 8).isSome = true := by kernel_rfl
@[simp] theorem sz8 : szOf Try.prog 8 = 4 := by kernel_rfl
@[simp] theorem by8 : bytesOf Try.prog 8 = 24 := by kernel_rfl
@[simp] theorem zo8 : (zeroOf Try.prog 8).isSome = true := by kernel_rfl
@[simp] theorem zd8 : zeroD Try.prog 8 = [(.int .i64 0), (.int .i64 0), (.bool false), (.int .u8 0)] := by kernel_rfl
@[simp] theorem ia8 : isAggT Try.prog 8 = true := by kernel_rfl
@[simp] theorem ss8 : isStructT Try.prog 8 = true := by kernel_rfl
@[simp] theorem fk8 : fldOk Try.prog 8 = true := by kernel_rfl
@[simp] theorem fo8_0 : fieldOff Try.prog 8 0 = some 0 := by kernel_rfl
@[simp] theorem fo8_1 : fieldOff Try.prog 8 1 = some 1 := by kernel_rfl
@[simp] theorem fo8_2 : fieldOff Try.prog 8 2 = some 2 := by kernel_rfl
@[simp] theorem fo8_3 : fieldOff Try.prog 8 3 = some 3 := by kernel_rfl
@[simp] theorem fi8_0 : fInfo Try.prog 8 0 = some (0, 1) := by kernel_rfl
@[simp] theorem fi8_1 : fInfo Try.prog 8 1 = some (1, 1) := by kernel_rfl
@[simp] theorem fi8_2 : fInfo Try.prog 8 2 = some (2, 1) := by kernel_rfl
@[simp] theorem fi8_3 : fInfo Try.prog 8 3 = some (3, 1) := by kernel_rfl
@[simp] theorem iu9 : (Try.prog.underlying 9).isSome = true := by kernel_rfl
@[simp] theorem sz9 : szOf Try.prog 9 = 1 := by kernel_rfl
@[simp] theorem by9 : bytesOf Try.prog 9 = 16 := by kernel_rfl
@[simp] theorem zo9 : (zeroOf Try.prog 9).isSome = true := by kernel_rfl
@[simp] theorem zd9 : zeroD Try.prog 9 = [(.str ⟨#[]⟩)] := by kernel_rfl
@[simp] theorem ia9 : isAggT Try.prog 9 = false := by kernel_rfl
@[simp] theorem st9 : isStrT Try.prog 9 = true := by kernel_rfl
@[simp] theorem iu10 : (Try.prog.underlying 10).isSome = true := by kernel_rfl
@[simp] theorem sz10 : szOf Try.prog 10 = 1 := by kernel_rfl
@[simp] theorem by10 : bytesOf Try.prog 10 = 16 := by kernel_rfl
@[simp] theorem zo10 : (zeroOf Try.prog 10).isSome = true := by kernel_rfl
@[simp] theorem zd10 : zeroD Try.prog 10 = [(.str ⟨#[]⟩)] := by kernel_rfl
@[simp] theorem ia10 : isAggT Try.prog 10 = false := by kernel_rfl
@[simp] theorem st10 : isStrT Try.prog 10 = true := by kernel_rfl
@[simp] theorem iu11 : (Try.prog.underlying 11).isSome = true := by kernel_rfl
@[simp] theorem sz11 : szOf Try.prog 11 = 1 := by kernel_rfl
@[simp] theorem by11 : bytesOf Try.prog 11 = 16 := by kernel_rfl
@[simp] theorem zo11 : (zeroOf Try.prog 11).isSome = true := by kernel_rfl
@[simp] theorem zd11 : zeroD Try.prog 11 = [(.str ⟨#[]⟩)] := by kernel_rfl
@[simp] theorem ia11 : isAggT Try.prog 11 = false := by kernel_rfl
@[simp] theorem st11 : isStrT Try.prog 11 = true := by kernel_rfl
@[simp] theorem iu12 : (Try.prog.underlying 12).isSome = true := by kernel_rfl
@[simp] theorem sz12 : szOf Try.prog 12 = 1 := by kernel_rfl
@[simp] theorem by12 : bytesOf Try.prog 12 = 8 := by kernel_rfl
@[simp] theorem zo12 : (zeroOf Try.prog 12).isSome = true := by kernel_rfl
@[simp] theorem zd12 : zeroD Try.prog 12 = [(.int .u64 0)] := by kernel_rfl
@[simp] theorem ia12 : isAggT Try.prog 12 = false := by kernel_rfl
@[simp] theorem ik12 : intKindT Try.prog 12 = some .u64 := by kernel_rfl
@[simp] theorem iu13 : (Try.prog.underlying 13).isSome = true := by kernel_rfl
@[simp] theorem sz13 : szOf Try.prog 13 = 2 := by kernel_rfl
@[simp] theorem by13 : bytesOf Try.prog 13 = 24 := by kernel_rfl
@[simp] theorem zo13 : (zeroOf Try.prog 13).isSome = true := by kernel_rfl
@[simp] theorem zd13 : zeroD Try.prog 13 = [(.str ⟨#[]⟩), (.int .u64 0)] := by kernel_rfl
@[simp] theorem ia13 : isAggT Try.prog 13 = true := by kernel_rfl
@[simp] theorem ss13 : isStructT Try.prog 13 = true := by kernel_rfl
@[simp] theorem fk13 : fldOk Try.prog 13 = true := by kernel_rfl
@[simp] theorem fo13_0 : fieldOff Try.prog 13 0 = some 0 := by kernel_rfl
@[simp] theorem fo13_1 : fieldOff Try.prog 13 1 = some 1 := by kernel_rfl
@[simp] theorem fi13_0 : fInfo Try.prog 13 0 = some (0, 1) := by kernel_rfl
@[simp] theorem fi13_1 : fInfo Try.prog 13 1 = some (1, 1) := by kernel_rfl
@[simp] theorem iu14 : (Try.prog.underlying 14).isSome = true := by kernel_rfl
@[simp] theorem sz14 : szOf Try.prog 14 = 2 := by kernel_rfl
@[simp] theorem by14 : bytesOf Try.prog 14 = 24 := by kernel_rfl
@[simp] theorem zo14 : (zeroOf Try.prog 14).isSome = true := by kernel_rfl
@[simp] theorem zd14 : zeroD Try.prog 14 = [(.str ⟨#[]⟩), (.int .u64 0)] := by kernel_rfl
@[simp] theorem ia14 : isAggT Try.prog 14 = true := by kernel_rfl
@[simp] theorem ss14 : isStructT Try.prog 14 = true := by kernel_rfl
@[simp] theorem fk14 : fldOk Try.prog 14 = true := by kernel_rfl
@[simp] theorem fo14_0 : fieldOff Try.prog 14 0 = some 0 := by kernel_rfl
@[simp] theorem fo14_1 : fieldOff Try.prog 14 1 = some 1 := by kernel_rfl
@[simp] theorem fi14_0 : fInfo Try.prog 14 0 = some (0, 1) := by kernel_rfl
@[simp] theorem fi14_1 : fInfo Try.prog 14 1 = some (1, 1) := by kernel_rfl
@[simp] theorem iu15 : (Try.prog.underlying 15).isSome = true := by kernel_rfl
@[simp] theorem sz15 : szOf Try.prog 15 = 1 := by kernel_rfl
@[simp] theorem by15 : bytesOf Try.prog 15 = 8 := by kernel_rfl
@[simp] theorem zo15 : (zeroOf Try.prog 15).isSome = true := by kernel_rfl
@[simp] theorem zd15 : zeroD Try.prog 15 = [.nilp] := by kernel_rfl
@[simp] theorem ia15 : isAggT Try.prog 15 = false := by kernel_rfl
@[simp] theorem ip15 : isPtrT Try.prog 15 = true := by kernel_rfl
@[simp] theorem iu16 : (Try.prog.underlying 16).isSome = true := by kernel_rfl
@[simp] theorem sz16 : szOf Try.prog 16 = 1 := by kernel_rfl
@[simp] theorem by16 : bytesOf Try.prog 16 = 8 := by kernel_rfl
@[simp] theorem zo16 : (zeroOf Try.prog 16).isSome = true := by kernel_rfl
@[simp] theorem zd16 : zeroD Try.prog 16 = [.nilp] := by kernel_rfl
@[simp] theorem ia16 : isAggT Try.prog 16 = false := by kernel_rfl
@[simp] theorem ip16 : isPtrT Try.prog 16 = true := by kernel_rfl
@[simp] theorem iu17 : (Try.prog.underlying 17).isSome = true := by kernel_rfl
@[simp] theorem sz17 : szOf Try.prog 17 = 1 := by kernel_rfl
@[simp] theorem by17 : bytesOf Try.prog 17 = 8 := by kernel_rfl
@[simp] theorem zo17 : (zeroOf Try.prog 17).isSome = true := by kernel_rfl
@[simp] theorem zd17 : zeroD Try.prog 17 = [.nilp] := by kernel_rfl
@[simp] theorem ia17 : isAggT Try.prog 17 = false := by kernel_rfl
@[simp] theorem ip17 : isPtrT Try.prog 17 = true := by kernel_rfl
@[simp] theorem iu18 : (Try.prog.underlying 18).isSome = true := by kernel_rfl
@[simp] theorem sz18 : szOf Try.prog 18 = 1 := by kernel_rfl
@[simp] theorem by18 : bytesOf Try.prog 18 = 8 := by kernel_rfl
@[simp] theorem zo18 : (zeroOf Try.prog 18).isSome = true := by kernel_rfl
@[simp] theorem zd18 : zeroD Try.prog 18 = [.nilp] := by kernel_rfl
@[simp] theorem ia18 : isAggT Try.prog 18 = true := by kernel_rfl
@[simp] theorem ss18 : isStructT Try.prog 18 = true := by kernel_rfl
@[simp] theorem fk18 : fldOk Try.prog 18 = true := by kernel_rfl
@[simp] theorem fo18_0 : fieldOff Try.prog 18 0 = some 0 := by kernel_rfl
@[simp] theorem fi18_0 : fInfo Try.prog 18 0 = some (0, 1) := by kernel_rfl
@[simp] theorem iu19 : (Try.prog.underlying 19).isSome = true := by kernel_rfl
@[simp] theorem sz19 : szOf Try.prog 19 = 1 := by kernel_rfl
@[simp] theorem by19 : bytesOf Try.prog 19 = 8 := by kernel_rfl
@[simp] theorem zo19 : (zeroOf Try.prog 19).isSome = true := by kernel_rfl
@[simp] theorem zd19 : zeroD Try.prog 19 = [.nilp] := by kernel_rfl
@[simp] theorem ia19 : isAggT Try.prog 19 = true := by kernel_rfl
@[simp] theorem ss19 : isStructT Try.prog 19 = true := by kernel_rfl
@[simp] theorem fk19 : fldOk Try.prog 19 = true := by kernel_rfl
@[simp] theorem fo19_0 : fieldOff Try.prog 19 0 = some 0 := by kernel_rfl
@[simp] theorem fi19_0 : fInfo Try.prog 19 0 = some (0, 1) := by kernel_rfl
@[simp] theorem iu21 : (Try.prog.underlying 21).isSome = true := by kernel_rfl
@[simp] theorem sz21 : szOf Try.prog 21 = 1 := by kernel_rfl
@[simp] theorem by21 : bytesOf Try.prog 21 = 4 := by kernel_rfl
@[simp] theorem zo21 : (zeroOf Try.prog 21).isSome = true := by kernel_rfl
@[simp] theorem zd21 : zeroD Try.prog 21 = [(.int .i32 0)] := by kernel_rfl
@[simp] theorem ia21 : isAggT Try.prog 21 = false := by kernel_rfl
@[simp] theorem ik21 : intKindT Try.prog 21 = some .i32 := by kernel_rfl
@[simp] theorem iu22 : (Try.prog.underlying 22).isSome = true := by kernel_rfl
@[simp] theorem sz22 : szOf Try.prog 22 = 1 := by kernel_rfl
@[simp] theorem by22 : bytesOf Try.prog 22 = 24 := by kernel_rfl
@[simp] theorem zo22 : (zeroOf Try.prog 22).isSome = true := by kernel_rfl
@[simp] theorem zd22 : zeroD Try.prog 22 = [.nils] := by kernel_rfl
@[simp] theorem ia22 : isAggT Try.prog 22 = false := by kernel_rfl
@[simp] theorem is22 : isSliceT Try.prog 22 = true := by kernel_rfl
@[simp] theorem el22 : Go.AM.elemOf Try.prog 22 = 2 := by kernel_rfl
@[simp] theorem es22 : elemSz Try.prog 22 = 1 := by kernel_rfl
@[simp] theorem iu23 : (Try.prog.underlying 23).isSome = true := by kernel_rfl
@[simp] theorem sz23 : szOf Try.prog 23 = 1 := by kernel_rfl
@[simp] theorem by23 : bytesOf Try.prog 23 = 24 := by kernel_rfl
@[simp] theorem zo23 : (zeroOf Try.prog 23).isSome = true := by kernel_rfl
@[simp] theorem zd23 : zeroD Try.prog 23 = [.nils] := by kernel_rfl
@[simp] theorem ia23 : isAggT Try.prog 23 = false := by kernel_rfl
@[simp] theorem is23 : isSliceT Try.prog 23 = true := by kernel_rfl
@[simp] theorem el23 : Go.AM.elemOf Try.prog 23 = 38 := by kernel_rfl
@[simp] theorem es23 : elemSz Try.prog 23 = 3 := by kernel_rfl
@[simp] theorem sz24 : szOf Try.prog 24 = 1 := by kernel_rfl
@[simp] theorem iu24 : (Try.prog.underlying 24).isSome = true := by kernel_rfl
@[simp] theorem ia24 : isAggT Try.prog 24 = false := by kernel_rfl
@[simp] theorem sz25 : szOf Try.prog 25 = 1 := by kernel_rfl
@[simp] theorem iu25 : (Try.prog.underlying 25).isSome = true := by kernel_rfl
@[simp] theorem ia25 : isAggT Try.prog 25 = false := by kernel_rfl
@[simp] theorem sz26 : szOf Try.prog 26 = 1 := by kernel_rfl
@[simp] theorem iu26 : (Try.prog.underlying 26).isSome = true := by kernel_rfl
@[simp] theorem ia26 : isAggT Try.prog 26 = false := by kernel_rfl
@[simp] theorem iu27 : (Try.prog.underlying 27).isSome = true := by kernel_rfl
@[simp] theorem sz27 : szOf Try.prog 27 = 3 := by kernel_rfl
@[simp] theorem by27 : bytesOf Try.prog 27 = 40 := by kernel_rfl
@[simp] theorem zo27 : (zeroOf Try.prog 27).isSome = true := by kernel_rfl
@[simp] theorem zd27 : zeroD Try.prog 27 = [(.int .i64 0), .nils, (.int .i64 0)] := by kernel_rfl
@[simp] theorem ia27 : isAggT Try.prog 27 = true := by kernel_rfl
@[simp] theorem ss27 : isStructT Try.prog 27 = true := by kernel_rfl
@[simp] theorem fk27 : fldOk Try.prog 27 = true := by kernel_rfl
@[simp] theorem fo27_0 : fieldOff Try.prog 27 0 = some 0 := by kernel_rfl
@[simp] theorem fo27_1 : fieldOff Try.prog 27 1 = some 1 := by kernel_rfl
@[simp] theorem fo27_2 : fieldOff Try.prog 27 2 = some 2 := by kernel_rfl
@[simp] theorem fi27_0 : fInfo Try.prog 27 0 = some (0, 1) := by kernel_rfl
@[simp] theorem fi27_1 : fInfo Try.prog 27 1 = some (1, 1) := by kernel_rfl
@[simp] theorem fi27_2 : fInfo Try.prog 27 2 = some (2, 1) := by kernel_rfl
@[simp] theorem iu28 : (Try.prog.underlying 28).isSome = true := by kernel_rfl
@[simp] theorem sz28 : szOf Try.prog 28 = 3 := by kernel_rfl
@[simp] theorem by28 : bytesOf Try.prog 28 = 40 := by kernel_rfl
@[simp] theorem zo28 : (zeroOf Try.prog 28).isSome = true := by kernel_rfl
@[simp] theorem zd28 : zeroD Try.prog 28 = [(.int .i64 0), .nils, (.int .i64 0)] := by kernel_rfl
@[simp] theorem ia28 : isAggT Try.prog 28 = true := by kernel_rfl
@[simp] theorem ss28 : isStructT Try.prog 28 = true := by kernel_rfl
@[simp] theorem fk28 : fldOk Try.prog 28 = true := by kernel_rfl
@[simp] theorem fo28_0 : fieldOff Try.prog 28 0 = some 0 := by kernel_rfl
@[simp] theorem fo28_1 : fieldOff Try.prog 28 1 = some 1 := by kernel_rfl
@[simp] theorem fo28_2 : fieldOff Try.prog 28 2 = some 2 := by kernel_rfl
@[simp] theorem fi28_0 : fInfo Try.prog 28 0 = some (0, 1) := by kernel_rfl
@[simp] theorem fi28_1 : fInfo Try.prog 28 1 = some (1, 1) := by kernel_rfl
@[simp] theorem fi28_2 : fInfo Try.prog 28 2 = some (2, 1) := by kernel_rfl
@[simp] theorem iu29 : (Try.prog.underlying 29).isSome = true := by kernel_rfl
@[simp] theorem sz29 : szOf Try.prog 29 = 1 := by kernel_rfl
@[simp] theorem by29 : bytesOf Try.prog 29 = 8 := by kernel_rfl
@[simp] theorem zo29 : (zeroOf Try.prog 29).isSome = true := by kernel_rfl
@[simp] theorem zd29 : zeroD Try.prog 29 = [(.int .i64 0)] := by kernel_rfl
@[simp] theorem ia29 : isAggT Try.prog 29 = false := by kernel_rfl
@[simp] theorem ik29 : intKindT Try.prog 29 = some .i64 := by kernel_rfl
@[simp] theorem sz31 : szOf Try.prog 31 = 1 := by kernel_rfl
@[simp] theorem iu31 : (Try.prog.underlying 31).isSome = true := by kernel_rfl
@[simp] theorem ia31 : isAggT Try.prog 31 = false := by kernel_rfl
@[simp] theorem sz32 : szOf Try.prog 32 = 1 := by kernel_rfl
@[simp] theorem iu32 : (Try.prog.underlying 32).isSome = true := by kernel_rfl
@[simp] theorem ia32 : isAggT Try.prog 32 = false := by kernel_rfl
@[simp] theorem sz34 : szOf Try.prog 34 = 1 := by kernel_rfl
@[simp] theorem iu34 : (Try.prog.underlying 34).isSome = true := by kernel_rfl
@[simp] theorem ia34 : isAggT Try.prog 34 = false := by kernel_rfl
@[simp] theorem sz35 : szOf Try.prog 35 = 1 := by kernel_rfl
@[simp] theorem iu35 : (Try.prog.underlying 35).isSome = true := by kernel_rfl
@[simp] theorem ia35 : isAggT Try.prog 35 = false := by kernel_rfl
@[simp] theorem iu36 : (Try.prog.underlying 36).isSome = true := by kernel_rfl
@[simp] theorem sz36 : szOf Try.prog 36 = 1 := by kernel_rfl
@[simp] theorem by36 : bytesOf Try.prog 36 = 4 := by kernel_rfl
@[simp] theorem zo36 : (zeroOf Try.prog 36).isSome = true := by kernel_rfl
@[simp] theorem zd36 : zeroD Try.prog 36 = [(.int .i32 0)] := by kernel_rfl
@[simp] theorem ia36 : isAggT Try.prog 36 = false := by kernel_rfl
@[simp] theorem ik36 : intKindT Try.prog 36 = some .i32 := by kernel_rfl
@[simp] theorem iu37 : (Try.prog.underlying 37).isSome = true := by kernel_rfl
@[simp] theorem sz37 : szOf Try.prog 37 = 3 := by kernel_rfl
@[simp] theorem by37 : bytesOf Try.prog 37 = 24 := by kernel_rfl
@[simp] theorem zo37 : (zeroOf Try.prog 37).isSome = true := by kernel_rfl
@[simp] theorem zd37 : zeroD Try.prog 37 = [(.int .i64 0), (.int .i64 0), (.int .i32 0)] := by kernel_rfl
@[simp] theorem ia37 : isAggT Try.prog 37 = true := by kernel_rfl
@[simp] theorem ss37 : isStructT Try.prog 37 = true := by kernel_rfl
@[simp] theorem fk37 : fldOk Try.prog 37 = true := by kernel_rfl
@[simp] theorem eqk37 : eqKinds Try.prog 37 = some [.int, .int, .int] := by kernel_rfl
@[simp] theorem fo37_0 : fieldOff Try.prog 37 0 = some 0 := by kernel_rfl
@[simp] theorem fo37_1 : fieldOff Try.prog 37 1 = some 1 := by kernel_rfl
@[simp] theorem fo37_2 : fieldOff Try.prog 37 2 = some 2 := by kernel_rfl
@[simp] theorem fi37_0 : fInfo Try.prog 37 0 = some (0, 1) := by kernel_rfl
@[simp] theorem fi37_1 : fInfo Try.prog 37 1 = some (1, 1) := by kernel_rfl
@[simp] theorem fi37_2 : fInfo Try.prog 37 2 = some (2, 1) := by kernel_rfl
@[simp] theorem iu38 : (Try.prog.underlying 38).isSome = true := by kernel_rfl
@[simp] theorem sz38 : szOf Try.prog 38 = 3 := by kernel_rfl
@[simp] theorem by38 : bytesOf Try.prog 38 = 24 := by kernel_rfl
@[simp] theorem zo38 : (zeroOf Try.prog 38).isSome = true := by kernel_rfl
@[simp] theorem zd38 : zeroD Try.prog 38 = [(.int .i64 0), (.int .i64 0), (.int .i32 0)] := by kernel_rfl
@[simp] theorem ia38 : isAggT Try.prog 38 = true := by kernel_rfl
@[simp] theorem ss38 : isStructT Try.prog 38 = true := by kernel_rfl
@[simp] theorem fk38 : fldOk Try.prog 38 = true := by kernel_rfl
@[simp] theorem eqk38 : eqKinds Try.prog 38 = some [.int, .int, .int] := by kernel_rfl
@[simp] theorem fo38_0 : fieldOff Try.prog 38 0 = some 0 := by kernel_rfl
@[simp] theorem fo38_1 : fieldOff Try.prog 38 1 = some 1 := by kernel_rfl
@[simp] theorem fo38_2 : fieldOff Try.prog 38 2 = some 2 := by kernel_rfl
@[simp] theorem fi38_0 : fInfo Try.prog 38 0 = some (0, 1) := by kernel_rfl
@[simp] theorem fi38_1 : fInfo Try.prog 38 1 = some (1, 1) := by kernel_rfl
@[simp] theorem fi38_2 : fInfo Try.prog 38 2 = some (2, 1) := by kernel_rfl
@[simp] theorem sz39 : szOf Try.prog 39 = 1 := by kernel_rfl
@[simp] theorem iu39 : (Try.prog.underlying 39).isSome = true := by kernel_rfl
@[simp] theorem ia39 : isAggT Try.prog 39 = false := by kernel_rfl
@[simp] theorem sz40 : szOf Try.prog 40 = 1 := by kernel_rfl
@[simp] theorem iu40 : (Try.prog.underlying 40).isSome = true := by kernel_rfl
@[simp] theorem ia40 : isAggT Try.prog 40 = false := by kernel_rfl
@[simp] theorem sz41 : szOf Try.prog 41 = 1 := by kernel_rfl
@[simp] theorem iu41 : (Try.prog.underlying 41).isSome = true := by kernel_rfl
@[simp] theorem ia41 : isAggT Try.prog 41 = false := by kernel_rfl
@[simp] theorem iu42 : (Try.prog.underlying 42).isSome = true := by kernel_rfl
@[simp] theorem sz42 : szOf Try.prog 42 = 1 := by kernel_rfl
@[simp] theorem by42 : bytesOf Try.prog 42 = 24 := by kernel_rfl
@[simp] theorem zo42 : (zeroOf Try.prog 42).isSome = true := by kernel_rfl
@[simp] theorem zd42 : zeroD Try.prog 42 = [.nils] := by kernel_rfl
@[simp] theorem ia42 : isAggT Try.prog 42 = false := by kernel_rfl
@[simp] theorem is42 : isSliceT Try.prog 42 = true := by kernel_rfl
@[simp] theorem el42 : Go.AM.elemOf Try.prog 42 = 45 := by kernel_rfl
@[simp] theorem es42 : elemSz Try.prog 42 = 3 := by kernel_rfl
@[simp] theorem sz43 : szOf Try.prog 43 = 1 := by kernel_rfl
@[simp] theorem iu43 : (Try.prog.underlying 43).isSome = true := by kernel_rfl
@[simp] theorem ia43 : isAggT Try.prog 43 = false := by kernel_rfl
@[simp] theorem iu44 : (Try.prog.underlying 44).isSome = true := by kernel_rfl
@[simp] theorem sz44 : szOf Try.prog 44 = 3 := by kernel_rfl
@[simp] theorem by44 : bytesOf Try.prog 44 = 24 := by kernel_rfl
@[simp] theorem zo44 : (zeroOf Try.prog 44).isSome = true := by kernel_rfl
@[simp] theorem zd44 : zeroD Try.prog 44 = [(.int .i64 0), (.int .i64 0), (.int .i64 0)] := by kernel_rfl
@[simp] theorem ia44 : isAggT Try.prog 44 = true := by kernel_rfl
@[simp] theorem ss44 : isStructT Try.prog 44 = true := by kernel_rfl
@[simp] theorem fk44 : fldOk Try.prog 44 = true := by kernel_rfl
@[simp] theorem eqk44 : eqKinds Try.prog 44 = some [.int, .int, .int] := by kernel_rfl
@[simp] theorem fo44_0 : fieldOff Try.prog 44 0 = some 0 := by kernel_rfl
@[simp] theorem fo44_1 : fieldOff Try.prog 44 1 = some 1 := by kernel_rfl
@[simp] theorem fo44_2 : fieldOff Try.prog 44 2 = some 2 := by kernel_rfl
@[simp] theorem fi44_0 : fInfo Try.prog 44 0 = some (0, 1) := by kernel_rfl
@[simp] theorem fi44_1 : fInfo Try.prog 44 1 = some (1, 1) := by kernel_rfl
@[simp] theorem fi44_2 : fInfo Try.prog 44 2 = some (2, 1) := by kernel_rfl
@[simp] theorem iu45 : (Try.prog.underlying 45).isSome = true := by kernel_rfl
@[simp] theorem sz45 : szOf Try.prog 45 = 3 := by kernel_rfl
@[simp] theorem by45 : bytesOf Try.prog 45 = 24 := by kernel_rfl
@[simp] theorem zo45 : (zeroOf Try.prog 45).isSome = true := by kernel_rfl
@[simp] theorem zd45 : zeroD Try.prog 45 = [(.int .i64 0), (.int .i64 0), (.int .i64 0)] := by kernel_rfl
@[simp] theorem ia45 : isAggT Try.prog 45 = true := by kernel_rfl
@[simp] theorem ss45 : isStructT Try.prog 45 = true := by kernel_rfl
@[simp] theorem fk45 : fldOk Try.prog 45 = true := by kernel_rfl
@[simp] theorem eqk45 : eqKinds Try.prog 45 = some [.int, .int, .int] := by kernel_rfl
@[simp] theorem fo45_0 : fieldOff Try.prog 45 0 = some 0 := by kernel_rfl
@[simp] theorem fo45_1 : fieldOff Try.prog 45 1 = some 1 := by kernel_rfl
@[simp] theorem fo45_2 : fieldOff Try.prog 45 2 = some 2 := by kernel_rfl
@[simp] theorem fi45_0 : fInfo Try.prog 45 0 = some (0, 1) := by kernel_rfl
@[simp] theorem fi45_1 : fInfo Try.prog 45 1 = some (1, 1) := by kernel_rfl
@[simp] theorem fi45_2 : fInfo Try.prog 45 2 = some (2, 1) := by kernel_rfl
@[simp] theorem sz46 : szOf Try.prog 46 = 1 := by kernel_rfl
@[simp] theorem iu46 : (Try.prog.underlying 46).isSome = true := by kernel_rfl
@[simp] theorem ia46 : isAggT Try.prog 46 = false := by kernel_rfl
@[simp] theorem sz47 : szOf Try.prog 47 = 1 := by kernel_rfl
@[simp] theorem iu47 : (Try.prog.underlying 47).isSome = true := by kernel_rfl
@[simp] theorem ia47 : isAggT Try.prog 47 = false := by kernel_rfl
@[simp] theorem sz49 : szOf Try.prog 49 = 1 := by kernel_rfl
@[simp] theorem iu49 : (Try.prog.underlying 49).isSome = true := by kernel_rfl
@[simp] theorem ia49 : isAggT Try.prog 49 = false := by kernel_rfl
@[simp] theorem iu50 : (Try.prog.underlying 50).isSome = true := by kernel_rfl
@[simp] theorem sz50 : szOf Try.prog 50 = 1 := by kernel_rfl
@[simp] theorem by50 : bytesOf Try.prog 50 = 8 := by kernel_rfl
@[simp] theorem zo50 : (zeroOf Try.prog 50).isSome = true := by kernel_rfl
@[simp] theorem zd50 : zeroD Try.prog 50 = [(.int .u64 0)] := by kernel_rfl
@[simp] theorem ia50 : isAggT Try.prog 50 = false := by kernel_rfl
@[simp] theorem ik50 : intKindT Try.prog 50 = some .u64 := by kernel_rfl
@[simp] theorem sz52 : szOf Try.prog 52 = 1 := by kernel_rfl
@[simp] theorem iu52 : (Try.prog.underlying 52).isSome = true := by kernel_rfl
@[simp] theorem ia52 : isAggT Try.prog 52 = false := by kernel_rfl
@[simp] theorem sz53 : szOf Try.prog 53 = 1 := by kernel_rfl
@[simp] theorem iu53 : (Try.prog.underlying 53).isSome = true := by kernel_rfl
@[simp] theorem ia53 : isAggT Try.prog 53 = false := by kernel_rfl
@[simp] theorem sz54 : szOf Try.prog 54 = 1 := by kernel_rfl
@[simp] theorem iu54 : (Try.prog.underlying 54).isSome = true := by kernel_rfl
@[simp] theorem ia54 : isAggT Try.prog 54 = false := by kernel_rfl
@[simp] theorem sz55 : szOf Try.prog 55 = 1 := by kernel_rfl
@[simp] theorem iu55 : (Try.prog.underlying 55).isSome = true := by kernel_rfl
@[simp] theorem ia55 : isAggT Try.prog 55 = false := by kernel_rfl
@[simp] theorem iu56 : (Try.prog.underlying 56).isSome = true := by kernel_rfl
@[simp] theorem sz56 : szOf Try.prog 56 = 1 := by kernel_rfl
@[simp] theorem by56 : bytesOf Try.prog 56 = 8 := by kernel_rfl
@[simp] theorem zo56 : (zeroOf Try.prog 56).isSome = true := by kernel_rfl
@[simp] theorem zd56 : zeroD Try.prog 56 = [(.int .u64 0)] := by kernel_rfl
@[simp] theorem ia56 : isAggT Try.prog 56 = false := by kernel_rfl
@[simp] theorem ik56 : intKindT Try.prog 56 = some .u64 := by kernel_rfl
@[simp] theorem sz58 : szOf Try.prog 58 = 1 := by kernel_rfl
@[simp] theorem iu58 : (Try.prog.underlying 58).isSome = true := by kernel_rfl
@[simp] theorem ia58 : isAggT Try.prog 58 = false := by kernel_rfl
@[simp] theorem sz59 : szOf Try.prog 59 = 1 := by kernel_rfl
@[simp] theorem iu59 : (Try.prog.underlying 59).isSome = true := by kernel_rfl
@[simp] theorem ia59 : isAggT Try.prog 59 = false := by kernel_rfl
@[simp] theorem sz61 : szOf Try.prog 61 = 1 := by kernel_rfl
@[simp] theorem iu61 : (Try.prog.underlying 61).isSome = true := by kernel_rfl
@[simp] theorem ia61 : isAggT Try.prog 61 = false := by kernel_rfl
@[simp] theorem sz62 : szOf Try.prog 62 = 1 := by kernel_rfl
@[simp] theorem iu62 : (Try.prog.underlying 62).isSome = true := by kernel_rfl
@[simp] theorem ia62 : isAggT Try.prog 62 = false := by kernel_rfl
@[simp] theorem iu63 : (Try.prog.underlying 63).isSome = true := by kernel_rfl
@[simp] theorem sz63 : szOf Try.prog 63 = 4 := by kernel_rfl
@[simp] theorem by63 : bytesOf Try.prog 63 = 40 := by kernel_rfl
@[simp] theorem zo63 : (zeroOf Try.prog 63).isSome = true := by kernel_rfl
@[simp] theorem zd63 : zeroD Try.prog 63 = [.nilp, .nilp, .nilp, (.str ⟨#[]⟩)] := by kernel_rfl
@[simp] theorem ia63 : isAggT Try.prog 63 = true := by kernel_rfl
@[simp] theorem ss63 : isStructT Try.prog 63 = true := by kernel_rfl
@[simp] theorem fk63 : fldOk Try.prog 63 = true := by kernel_rfl
@[simp] theorem fo63_0 : fieldOff Try.prog 63 0 = some 0 := by kernel_rfl
@[simp] theorem fo63_1 : fieldOff Try.prog 63 1 = some 1 := by kernel_rfl
@[simp] theorem fo63_2 : fieldOff Try.prog 63 2 = some 2 := by kernel_rfl
@[simp] theorem fo63_3 : fieldOff Try.prog 63 3 = some 3 := by kernel_rfl
@[simp] theorem fi63_0 : fInfo Try.prog 63 0 = some (0, 1) := by kernel_rfl
@[simp] theorem fi63_1 : fInfo Try.prog 63 1 = some (1, 1) := by kernel_rfl
@[simp] theorem fi63_2 : fInfo Try.prog 63 2 = some (2, 1) := by kernel_rfl
@[simp] theorem fi63_3 : fInfo Try.prog 63 3 = some (3, 1) := by kernel_rfl
@[simp] theorem iu64 : (Try.prog.underlying 64).isSome = true := by kernel_rfl
@[simp] theorem sz64 : szOf Try.prog 64 = 4 := by kernel_rfl
@[simp] theorem by64 : bytesOf Try.prog 64 = 40 := by kernel_rfl
@[simp] theorem zo64 : (zeroOf Try.prog 64).isSome = true := by kernel_rfl
@[simp] theorem zd64 : zeroD Try.prog 64 = [.nilp, .nilp, .nilp, (.str ⟨#[]⟩)] := by kernel_rfl
@[simp] theorem ia64 : isAggT Try.prog 64 = true := by kernel_rfl
@[simp] theorem ss64 : isStructT Try.prog 64 = true := by kernel_rfl
@[simp] theorem fk64 : fldOk Try.prog 64 = true := by kernel_rfl
@[simp] theorem fo64_0 : fieldOff Try.prog 64 0 = some 0 := by kernel_rfl
@[simp] theorem fo64_1 : fieldOff Try.prog 64 1 = some 1 := by kernel_rfl
@[simp] theorem fo64_2 : fieldOff Try.prog 64 2 = some 2 := by kernel_rfl
@[simp] theorem fo64_3 : fieldOff Try.prog 64 3 = some 3 := by kernel_rfl
@[simp] theorem fi64_0 : fInfo Try.prog 64 0 = some (0, 1) := by kernel_rfl
@[simp] theorem fi64_1 : fInfo Try.prog 64 1 = some (1, 1) := by kernel_rfl
@[simp] theorem fi64_2 : fInfo Try.prog 64 2 = some (2, 1) := by kernel_rfl
@[simp] theorem fi64_3 : fInfo Try.prog 64 3 = some (3, 1) := by kernel_rfl
@[simp] theorem iu65 : (Try.prog.underlying 65).isSome = true := by kernel_rfl
@[simp] theorem sz65 : szOf Try.prog 65 = 0 := by kernel_rfl
@[simp] theorem by65 : bytesOf Try.prog 65 = 0 := by kernel_rfl
@[simp] theorem zo65 : (zeroOf Try.prog 65).isSome = true := by kernel_rfl
@[simp] theorem zd65 : zeroD Try.prog 65 = [] := by kernel_rfl
@[simp] theorem ia65 : isAggT Try.prog 65 = true := by kernel_rfl
@[simp] theorem es65 : elemSz Try.prog 65 = 1 := by kernel_rfl
@[simp] theorem al65 : arrLen Try.prog 65 = some 0 := by kernel_rfl
@[simp] theorem is65 : isSliceT Try.prog 65 = false := by kernel_rfl
@[simp] theorem iu66 : (Try.prog.underlying 66).isSome = true := by kernel_rfl
@[simp] theorem sz66 : szOf Try.prog 66 = 0 := by kernel_rfl
@[simp] theorem by66 : bytesOf Try.prog 66 = 0 := by kernel_rfl
@[simp] theorem zo66 : (zeroOf Try.prog 66).isSome = true := by kernel_rfl
@[simp] theorem zd66 : zeroD Try.prog 66 = [] := by kernel_rfl
@[simp] theorem ia66 : isAggT Try.prog 66 = true := by kernel_rfl
@[simp] theorem ss66 : isStructT Try.prog 66 = true := by kernel_rfl
@[simp] theorem fi66_0 : fInfo Try.prog 66 0 = some (0, 0) := by kernel_rfl
@[simp] theorem iu67 : (Try.prog.underlying 67).isSome = true := by kernel_rfl
@[simp] theorem sz67 : szOf Try.prog 67 = 0 := by kernel_rfl
@[simp] theorem by67 : bytesOf Try.prog 67 = 0 := by kernel_rfl
@[simp] theorem zo67 : (zeroOf Try.prog 67).isSome = true := by kernel_rfl
@[simp] theorem zd67 : zeroD Try.prog 67 = [] := by kernel_rfl
@[simp] theorem ia67 : isAggT Try.prog 67 = true := by kernel_rfl
@[simp] theorem ss67 : isStructT Try.prog 67 = true := by kernel_rfl
@[simp] theorem fi67_0 : fInfo Try.prog 67 0 = some (0, 0) := by kernel_rfl
@[simp] theorem sz68 : szOf Try.prog 68 = 1 := by kernel_rfl
@[simp] theorem iu68 : (Try.prog.underlying 68).isSome = true := by kernel_rfl
@[simp] theorem ia68 : isAggT Try.prog 68 = false := by kernel_rfl
@[simp] theorem iu69 : (Try.prog.underlying 69).isSome = true := by kernel_rfl
@[simp] theorem sz69 : szOf Try.prog 69 = 1 := by kernel_rfl
@[simp] theorem by69 : bytesOf Try.prog 69 = 4 := by kernel_rfl
@[simp] theorem zo69 : (zeroOf Try.prog 69).isSome = true := by kernel_rfl
@[simp] theorem zd69 : zeroD Try.prog 69 = [(.int .u32 0)] := by kernel_rfl
@[simp] theorem ia69 : isAggT Try.prog 69 = false := by kernel_rfl
@[simp] theorem ik69 : intKindT Try.prog 69 = some .u32 := by kernel_rfl
@[simp] theorem iu70 : (Try.prog.underlying 70).isSome = true := by kernel_rfl
@[simp] theorem sz70 : szOf Try.prog 70 = 1 := by kernel_rfl
@[simp] theorem by70 : bytesOf Try.prog 70 = 1 := by kernel_rfl
@[simp] theorem zo70 : (zeroOf Try.prog 70).isSome = true := by kernel_rfl
@[simp] theorem zd70 : zeroD Try.prog 70 = [(.int .u8 0)] := by kernel_rfl
@[simp] theorem ia70 : isAggT Try.prog 70 = false := by kernel_rfl
@[simp] theorem ik70 : intKindT Try.prog 70 = some .u8 := by kernel_rfl
@[simp] theorem iu71 : (Try.prog.underlying 71).isSome = true := by kernel_rfl
@[simp] theorem sz71 : szOf Try.prog 71 = 1 := by kernel_rfl
@[simp] theorem by71 : bytesOf Try.prog 71 = 1 := by kernel_rfl
@[simp] theorem zo71 : (zeroOf Try.prog 71).isSome = true := by kernel_rfl
@[simp] theorem zd71 : zeroD Try.prog 71 = [(.int .u8 0)] := by kernel_rfl
@[simp] theorem ia71 : isAggT Try.prog 71 = false := by kernel_rfl
@[simp] theorem ik71 : intKindT Try.prog 71 = some .u8 := by kernel_rfl
@[simp] theorem sz72 : szOf Try.prog 72 = 1 := by kernel_rfl
@[simp] theorem iu72 : (Try.prog.underlying 72).isSome = true := by kernel_rfl
@[simp] theorem ia72 : isAggT Try.prog 72 = false := by kernel_rfl
@[simp] theorem iu73 : (Try.prog.underlying 73).isSome = true := by kernel_rfl
@[simp] theorem sz73 : szOf Try.prog 73 = 1 := by kernel_rfl
@[simp] theorem by73 : bytesOf Try.prog 73 = 8 := by kernel_rfl
@[simp] theorem zo73 : (zeroOf Try.prog 73).isSome = true := by kernel_rfl
@[simp] theorem zd73 : zeroD Try.prog 73 = [.nilp] := by kernel_rfl
@[simp] theorem ia73 : isAggT Try.prog 73 = false := by kernel_rfl
@[simp] theorem ip73 : isPtrT Try.prog 73 = true := by kernel_rfl
@[simp] theorem iu74 : (Try.prog.underlying 74).isSome = true := by kernel_rfl
@[simp] theorem sz74 : szOf Try.prog 74 = 1 := by kernel_rfl
@[simp] theorem by74 : bytesOf Try.prog 74 = 4 := by kernel_rfl
@[simp] theorem zo74 : (zeroOf Try.prog 74).isSome = true := by kernel_rfl
@[simp] theorem zd74 : zeroD Try.prog 74 = [(.int .i32 0)] := by kernel_rfl
@[simp] theorem ia74 : isAggT Try.prog 74 = false := by kernel_rfl
@[simp] theorem ik74 : intKindT Try.prog 74 = some .i32 := by kernel_rfl
@[simp] theorem iu75 : (Try.prog.underlying 75).isSome = true := by kernel_rfl
@[simp] theorem sz75 : szOf Try.prog 75 = 1 := by kernel_rfl
@[simp] theorem by75 : bytesOf Try.prog 75 = 4 := by kernel_rfl
@[simp] theorem zo75 : (zeroOf Try.prog 75).isSome = true := by kernel_rfl
@[simp] theorem zd75 : zeroD Try.prog 75 = [(.int .i32 0)] := by kernel_rfl
@[simp] theorem ia75 : isAggT Try.prog 75 = false := by kernel_rfl
@[simp] theorem ik75 : intKindT Try.prog 75 = some .i32 := by kernel_rfl
@[simp] theorem iu76 : (Try.prog.underlying 76).isSome = true := by kernel_rfl
@[simp] theorem sz76 : szOf Try.prog 76 = 11 := by kernel_rfl
@[simp] theorem by76 : bytesOf Try.prog 76 = 48 := by kernel_rfl
@[simp] theorem zo76 : (zeroOf Try.prog 76).isSome = true := by kernel_rfl
@[simp] theorem zd76 : zeroD Try.prog 76 = [(.int .u64 0), (.int .u64 0), (.int .u32 0), (.int .u8 0), (.int .u8 0), (.int .u8 0), (.int .u8 0), .nilf, .nilp, (.int .i32 0), (.int .i32 0)] := by kernel_rfl
@[simp] theorem ia76 : isAggT Try.prog 76 = true := by kernel_rfl
@[simp] theorem ss76 : isStructT Try.prog 76 = true := by kernel_rfl
@[simp] theorem fk76 : fldOk Try.prog 76 = true := by kernel_rfl
@[simp] theorem fo76_0 : fieldOff Try.prog 76 0 = some 0 := by kernel_rfl
@[simp] theorem fo76_1 : fieldOff Try.prog 76 1 = some 1 := by kernel_rfl
@[simp] theorem fo76_2 : fieldOff Try.prog 76 2 = some 2 := by kernel_rfl
@[simp] theorem fo76_3 : fieldOff Try.prog 76 3 = some 3 := by kernel_rfl
@[simp] theorem fo76_4 : fieldOff Try.prog 76 4 = some 4 := by kernel_rfl
@[simp] theorem fo76_5 : fieldOff Try.prog 76 5 = some 5 := by kernel_rfl
@[simp] theorem fo76_6 : fieldOff Try.prog 76 6 = some 6 := by kernel_rfl
@[simp] theorem fo76_7 : fieldOff Try.prog 76 7 = some 7 := by kernel_rfl
@[simp] theorem fo76_8 : fieldOff Try.prog 76 8 = some 8 := by kernel_rfl
@[simp] theorem fo76_9 : fieldOff Try.prog 76 9 = some 9 := by kernel_rfl
@[simp] theorem fo76_10 : fieldOff Try.prog 76 10 = some 10 := by kernel_rfl
@[simp] theorem fi76_0 : fInfo Try.prog 76 0 = some (0, 1) := by kernel_rfl
@[simp] theorem fi76_1 : fInfo Try.prog 76 1 = some (1, 1) := by kernel_rfl
@[simp] theorem fi76_2 : fInfo Try.prog 76 2 = some (2, 1) := by kernel_rfl
@[simp] theorem fi76_3 : fInfo Try.prog 76 3 = some (3, 1) := by kernel_rfl
@[simp] theorem fi76_4 : fInfo Try.prog 76 4 = some (4, 1) := by kernel_rfl
@[simp] theorem fi76_5 : fInfo Try.prog 76 5 = some (5, 1) := by kernel_rfl
@[simp] theorem fi76_6 : fInfo Try.prog 76 6 = some (6, 1) := by kernel_rfl
@[simp] theorem fi76_7 : fInfo Try.prog 76 7 = some (7, 1) := by kernel_rfl
@[simp] theorem fi76_8 : fInfo Try.prog 76 8 = some (8, 1) := by kernel_rfl
@[simp] theorem fi76_9 : fInfo Try.prog 76 9 = some (9, 1) := by kernel_rfl
@[simp] theorem fi76_10 : fInfo Try.prog 76 10 = some (10, 1) := by kernel_rfl
@[simp] theorem iu77 : (Try.prog.underlying 77).isSome = true := by kernel_rfl
@[simp] theorem sz77 : szOf Try.prog 77 = 11 := by kernel_rfl
@[simp] theorem by77 : bytesOf Try.prog 77 = 48 := by kernel_rfl
@[simp] theorem zo77 : (zeroOf Try.prog 77).isSome = true := by kernel_rfl
@[simp] theorem zd77 : zeroD Try.prog 77 = [(.int .u64 0), (.int .u64 0), (.int .u32 0), (.int .u8 0), (.int .u8 0), (.int .u8 0), (.int .u8 0), .nilf, .nilp, (.int .i32 0), (.int .i32 0)] := by kernel_rfl
@[simp] theorem ia77 : isAggT Try.prog 77 = true := by kernel_rfl
@[simp] theorem ss77 : isStructT Try.prog 77 = true := by kernel_rfl
@[simp] theorem fk77 : fldOk Try.prog 77 = true := by kernel_rfl
@[simp] theorem fo77_0 : fieldOff Try.prog 77 0 = some 0 := by kernel_rfl
@[simp] theorem fo77_1 : fieldOff Try.prog 77 1 = some 1 := by kernel_rfl
@[simp] theorem fo77_2 : fieldOff Try.prog 77 2 = some 2 := by kernel_rfl
@[simp] theorem fo77_3 : fieldOff Try.prog 77 3 = some 3 := by kernel_rfl
@[simp] theorem fo77_4 : fieldOff Try.prog 77 4 = some 4 := by kernel_rfl
@[simp] theorem fo77_5 : fieldOff Try.prog 77 5 = some 5 := by kernel_rfl
@[simp] theorem fo77_6 : fieldOff Try.prog 77 6 = some 6 := by kernel_rfl
@[simp] theorem fo77_7 : fieldOff Try.prog 77 7 = some 7 := by kernel_rfl
@[simp] theorem fo77_8 : fieldOff Try.prog 77 8 = some 8 := by kernel_rfl
@[simp] theorem fo77_9 : fieldOff Try.prog 77 9 = some 9 := by kernel_rfl
@[simp] theorem fo77_10 : fieldOff Try.prog 77 10 = some 10 := by kernel_rfl
@[simp] theorem fi77_0 : fInfo Try.prog 77 0 = some (0, 1) := by kernel_rfl
@[simp] theorem fi77_1 : fInfo Try.prog 77 1 = some (1, 1) := by kernel_rfl
@[simp] theorem fi77_2 : fInfo Try.prog 77 2 = some (2, 1) := by kernel_rfl
@[simp] theorem fi77_3 : fInfo Try.prog 77 3 = some (3, 1) := by kernel_rfl
@[simp] theorem fi77_4 : fInfo Try.prog 77 4 = some (4, 1) := by kernel_rfl
@[simp] theorem fi77_5 : fInfo Try.prog 77 5 = some (5, 1) := by kernel_rfl
@[simp] theorem fi77_6 : fInfo Try.prog 77 6 = some (6, 1) := by kernel_rfl
@[simp] theorem fi77_7 : fInfo Try.prog 77 7 = some (7, 1) := by kernel_rfl
@[simp] theorem fi77_8 : fInfo Try.prog 77 8 = some (8, 1) := by kernel_rfl
@[simp] theorem fi77_9 : fInfo Try.prog 77 9 = some (9, 1) := by kernel_rfl
@[simp] theorem fi77_10 : fInfo Try.prog 77 10 = some (10, 1) := by kernel_rfl
end Fx
end Go.Proofs.Ytgmlimipejcpgaa
