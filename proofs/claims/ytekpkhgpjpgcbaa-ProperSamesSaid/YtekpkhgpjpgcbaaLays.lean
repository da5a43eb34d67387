/- THE LIBRARY's slices.Insert, BinarySearch, Index, Contains at texts: the kit's shelf laid at this translation (lay-shelf, lay-plain, then wip/tools/shelf_tmpl.py). -/
import Derived.Shelf.Slices.Turned
import Derived.Shelf.Spec.SlicesInsertGrow
import Derived.Shelf.Spec.SearchS
import Derived.Test.YtekpkhgpjpgcbaaProg
namespace Go.Proofs.Ytekpkhgpjpgcbaa
open Go Go.Shelf

def Try.laysIns_ren : Go.Shelf.Ren := ⟨fun | 22 => 86 | 29 => 141 | 30 => 142 | 36 => 191 | 17 => 218 | n => n, fun | 24 => 76 | 9 => 9 | 3 => 3 | 4 => 4 | 0 => 0 | n => n, fun | n => n⟩
theorem Try.laysIns : Go.Proofs.Lays2.n22 Try.prog Try.laysIns_ren := {
  mixed := by kernel_rfl
  f17 := Try.func218.trans (congrArg some (by kernel_rfl))
  f22 := Try.func86.trans (congrArg some (by kernel_rfl))
  f29 := Try.func141.trans (congrArg some (by kernel_rfl))
  f30 := Try.func142.trans (congrArg some (by kernel_rfl))
  f36 := Try.func191.trans (congrArg some (by kernel_rfl))
  t0 := Try.underlying0
  a0 := Try.isAgg0
  z0 := Try.sizeOf0
  v0 := Try.zeroValue0
  t3 := Try.underlying3
  a3 := Try.isAgg3
  z3 := Try.sizeOf3
  v3 := Try.zeroValue3
  t4 := Try.underlying4
  a4 := Try.isAgg4
  z4 := Try.sizeOf4
  v4 := Try.zeroValue4
  t9 := Try.underlying9
  a9 := Try.isAgg9
  z9 := Try.sizeOf9
  v9 := Try.zeroValue9
  t24 := Try.underlying76
  a24 := Try.isAgg76
  z24 := Try.sizeOf76
  v24 := Try.zeroValue76
  i9 := by kernel_rfl }

def Try.laysBin_ren : Go.Shelf.Ren := ⟨fun | 26 => 85 | 33 => 139 | 34 => 140 | 38 => 190 | n => n, fun | 24 => 76 | 9 => 9 | 3 => 3 | 4 => 4 | 40 => 187 | 0 => 0 | n => n, fun | n => n⟩
theorem Try.laysBin : Go.Proofs.Lays2.n26 Try.prog Try.laysBin_ren := {
  mixed := by kernel_rfl
  f26 := Try.func85.trans (congrArg some (by kernel_rfl))
  f33 := Try.func139.trans (congrArg some (by kernel_rfl))
  f34 := Try.func140.trans (congrArg some (by kernel_rfl))
  f38 := Try.func190.trans (congrArg some (by kernel_rfl))
  t0 := Try.underlying0
  a0 := Try.isAgg0
  z0 := Try.sizeOf0
  v0 := Try.zeroValue0
  t3 := Try.underlying3
  a3 := Try.isAgg3
  z3 := Try.sizeOf3
  v3 := Try.zeroValue3
  t4 := Try.underlying4
  a4 := Try.isAgg4
  z4 := Try.sizeOf4
  v4 := Try.zeroValue4
  t9 := Try.underlying9
  a9 := Try.isAgg9
  z9 := Try.sizeOf9
  v9 := Try.zeroValue9
  t24 := Try.underlying76
  a24 := Try.isAgg76
  z24 := Try.sizeOf76
  v24 := Try.zeroValue76
  t40 := Try.underlying187
  a40 := Try.isAgg187
  z40 := Try.sizeOf187
  v40 := Try.zeroValue187 }

def Try.laysIdx_ren : Go.Shelf.Ren := ⟨fun | 109 => 115 | n => n, fun | 31 => 76 | 9 => 9 | 3 => 3 | 0 => 0 | 4 => 4 | n => n, fun | n => n⟩
theorem Try.laysIdx : Go.Proofs.Lays.n109 Try.prog Try.laysIdx_ren := {
  mixed := by kernel_rfl
  f109 := Try.func115.trans (congrArg some (by kernel_rfl))
  t0 := Try.underlying0
  a0 := Try.isAgg0
  z0 := Try.sizeOf0
  v0 := Try.zeroValue0
  t3 := Try.underlying3
  a3 := Try.isAgg3
  z3 := Try.sizeOf3
  v3 := Try.zeroValue3
  t4 := Try.underlying4
  a4 := Try.isAgg4
  z4 := Try.sizeOf4
  v4 := Try.zeroValue4
  t9 := Try.underlying9
  a9 := Try.isAgg9
  z9 := Try.sizeOf9
  v9 := Try.zeroValue9
  t31 := Try.underlying76
  a31 := Try.isAgg76
  z31 := Try.sizeOf76
  v31 := Try.zeroValue76 }

def Try.laysCon_ren : Go.Shelf.Ren := ⟨fun | 110 => 78 | 109 => 115 | n => n, fun | 31 => 76 | 9 => 9 | 4 => 4 | 3 => 3 | 0 => 0 | n => n, fun | n => n⟩
theorem Try.laysCon : Go.Proofs.Lays.n110 Try.prog Try.laysCon_ren := {
  mixed := by kernel_rfl
  f109 := Try.func115.trans (congrArg some (by kernel_rfl))
  f110 := Try.func78.trans (congrArg some (by kernel_rfl))
  t0 := Try.underlying0
  a0 := Try.isAgg0
  z0 := Try.sizeOf0
  v0 := Try.zeroValue0
  t3 := Try.underlying3
  a3 := Try.isAgg3
  z3 := Try.sizeOf3
  v3 := Try.zeroValue3
  t4 := Try.underlying4
  a4 := Try.isAgg4
  z4 := Try.sizeOf4
  v4 := Try.zeroValue4
  t9 := Try.underlying9
  a9 := Try.isAgg9
  z9 := Try.sizeOf9
  v9 := Try.zeroValue9
  t31 := Try.underlying76
  a31 := Try.isAgg76
  z31 := Try.sizeOf76
  v31 := Try.zeroValue76 }

end Go.Proofs.Ytekpkhgpjpgcbaa
