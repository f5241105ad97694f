/- The contract of the library on FieldsFunc, laid at this seat. No statement is proved here. -/
import Derived.Test.YtfdhkchglacccaaGreatDoorProg
import Derived.KernelRfl
import Derived.Shelf.Strings.FieldsFuncAny
set_option linter.all false
/- The shelf's contract on strings.FieldsFunc at this seat (as the kit's tool lays it). -/
namespace Go.Proofs
open Go.Shelf
def Tryz.ffun_ren : Go.Shelf.Ren := ⟨fun | 229 => 65 | n => n, fun | 9 => 9 | 40 => 94 | 31 => 32 | 152 => 115 | 3 => 3 | 0 => 0 | 4 => 4 | 21 => 21 | 154 => 117 | n => n, fun | n => n⟩
theorem Tryz.ffun : Lays.n229 Tryz.prog Tryz.ffun_ren := {
  mixed := by kernel_rfl
  f229 := Tryz.func65.trans (congrArg some (by kernel_rfl))
  t0 := Tryz.underlying0
  a0 := Tryz.isAgg0
  z0 := Tryz.sizeOf0
  v0 := Tryz.zeroValue0
  t3 := Tryz.underlying3
  a3 := Tryz.isAgg3
  z3 := Tryz.sizeOf3
  v3 := Tryz.zeroValue3
  t4 := Tryz.underlying4
  a4 := Tryz.isAgg4
  z4 := Tryz.sizeOf4
  v4 := Tryz.zeroValue4
  t9 := Tryz.underlying9
  a9 := Tryz.isAgg9
  z9 := Tryz.sizeOf9
  v9 := Tryz.zeroValue9
  t21 := Tryz.underlying21
  a21 := Tryz.isAgg21
  z21 := Tryz.sizeOf21
  v21 := Tryz.zeroValue21
  t31 := Tryz.underlying32
  a31 := Tryz.isAgg32
  z31 := Tryz.sizeOf32
  v31 := Tryz.zeroValue32
  t40 := Tryz.underlying94
  a40 := Tryz.isAgg94
  z40 := Tryz.sizeOf94
  v40 := Tryz.zeroValue94
  t152 := Tryz.underlying115
  a152 := Tryz.isAgg115
  z152 := Tryz.sizeOf115
  v152 := Tryz.zeroValue115
  t154 := Tryz.underlying117
  a154 := Tryz.isAgg117
  z154 := Tryz.sizeOf117
  v154 := Tryz.zeroValue117 }
end Go.Proofs
