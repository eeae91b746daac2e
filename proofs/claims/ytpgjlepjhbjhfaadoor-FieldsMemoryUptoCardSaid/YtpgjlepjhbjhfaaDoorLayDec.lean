/-
  One structure of the library at this program's numbers.
-/
import Derived.Shelf.Lays7
import Derived.Test.YtpgjlepjhbjhfaaDoorProg
namespace Go.Proofs
open Go.Shelf
def Tryd.laysLayDec_ren : Go.Shelf.Ren := ⟨fun | 32 => 65 | 49 => 85 | n => n, fun | 30 => 33 | 21 => 21 | 3 => 3 | 0 => 0 | 5 => 5 | 4 => 4 | 33 => 86 | 66 => 112 | 25 => 102 | 69 => 115 | 68 => 114 | n => n, fun | 2 => 2 | 3 => 3 | n => n⟩
theorem Tryd.laysLayDec : Go.Proofs.Lays7.n32 Tryd.prog Tryd.laysLayDec_ren := {
  mixed := by kernel_rfl
  f32 := Tryd.func65.trans (congrArg some (by kernel_rfl))
  f49 := Tryd.func85.trans (congrArg some (by kernel_rfl))
  t0 := Tryd.underlying0
  a0 := Tryd.isAgg0
  z0 := Tryd.sizeOf0
  v0 := Tryd.zeroValue0
  i0 := by kernel_rfl
  t3 := Tryd.underlying3
  a3 := Tryd.isAgg3
  z3 := Tryd.sizeOf3
  v3 := Tryd.zeroValue3
  i3 := by kernel_rfl
  t4 := Tryd.underlying4
  a4 := Tryd.isAgg4
  z4 := Tryd.sizeOf4
  v4 := Tryd.zeroValue4
  i4 := by kernel_rfl
  t5 := Tryd.underlying5
  a5 := Tryd.isAgg5
  z5 := Tryd.sizeOf5
  v5 := Tryd.zeroValue5
  i5 := by kernel_rfl
  t21 := Tryd.underlying21
  a21 := Tryd.isAgg21
  z21 := Tryd.sizeOf21
  v21 := Tryd.zeroValue21
  i21 := by kernel_rfl
  t25 := Tryd.underlying102
  a25 := Tryd.isAgg102
  z25 := Tryd.sizeOf102
  v25 := Tryd.zeroValue102
  i25 := by kernel_rfl
  t30 := Tryd.underlying33
  a30 := Tryd.isAgg33
  z30 := Tryd.sizeOf33
  v30 := Tryd.zeroValue33
  i30 := by kernel_rfl
  t33 := Tryd.underlying86
  a33 := Tryd.isAgg86
  z33 := Tryd.sizeOf86
  v33 := Tryd.zeroValue86
  i33 := by kernel_rfl
  t66 := Tryd.underlying112
  a66 := Tryd.isAgg112
  z66 := Tryd.sizeOf112
  t68 := Tryd.underlying114
  a68 := Tryd.isAgg114
  z68 := Tryd.sizeOf114
  v68 := Tryd.zeroValue114
  i68 := by kernel_rfl
  t69 := Tryd.underlying115
  a69 := Tryd.isAgg115
  z69 := Tryd.sizeOf115
  v69 := Tryd.zeroValue115
  i69 := by kernel_rfl
  g2 := by kernel_rfl
  g3 := by kernel_rfl }
end Go.Proofs
