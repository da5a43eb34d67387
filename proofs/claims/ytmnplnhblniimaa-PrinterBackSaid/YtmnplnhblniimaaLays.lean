/- THE LIBRARY's slices.Insert, BinarySearch, Index, Contains at texts: the kit's shelf laid at this translation (lay-shelf, lay-plain, then wip/tools/shelf_tmpl.py). -/
import Derived.Shelf.Slices.Turned
import Derived.Shelf.Spec.SlicesInsertGrow
import Derived.Shelf.Spec.SearchS
import Derived.Test.YtmnplnhblniimaaProg
namespace Go.Proofs.Ytmnplnhblniimaa
open Go Go.Shelf

def Try.laysIns_ren : Go.Shelf.Ren := ⟨fun | 22 => 70 | 29 => 97 | 30 => 98 | 36 => 105 | 17 => 108 | n => n, fun | 24 => 65 | 9 => 9 | 3 => 3 | 4 => 4 | 0 => 0 | n => n, fun | n => n⟩
theorem Try.laysIns : Go.Proofs.Lays2.n22 Try.prog Try.laysIns_ren := {
  mixed := by kernel_rfl
  f17 := Try.func108.trans (congrArg some (by kernel_rfl))
  f22 := Try.func70.trans (congrArg some (by kernel_rfl))
  f29 := Try.func97.trans (congrArg some (by kernel_rfl))
  f30 := Try.func98.trans (congrArg some (by kernel_rfl))
  f36 := Try.func105.trans (congrArg some (by kernel_rfl))
  t0 := Try.underlying0
  a0 := Try.isAgg0
  z0 := Try.sizeOf0
  v0 := Try.zeroValue0
  t3 := Try.underlying3
  a3 := Try.isAgg3
  z3 := Try.sizeOf3
  v3 := Try.zeroValue3
  t4 := Try.underlying4
  a4 := Try.isAgg4
  z4 := Try.sizeOf4
  v4 := Try.zeroValue4
  t9 := Try.underlying9
  a9 := Try.isAgg9
  z9 := Try.sizeOf9
  v9 := Try.zeroValue9
  t24 := Try.underlying65
  a24 := Try.isAgg65
  z24 := Try.sizeOf65
  v24 := Try.zeroValue65
  i9 := by kernel_rfl }

def Try.laysBin_ren : Go.Shelf.Ren := ⟨fun | 26 => 69 | 33 => 95 | 34 => 96 | 38 => 104 | n => n, fun | 24 => 65 | 9 => 9 | 3 => 3 | 4 => 4 | 40 => 134 | 0 => 0 | n => n, fun | n => n⟩
theorem Try.laysBin : Go.Proofs.Lays2.n26 Try.prog Try.laysBin_ren := {
  mixed := by kernel_rfl
  f26 := Try.func69.trans (congrArg some (by kernel_rfl))
  f33 := Try.func95.trans (congrArg some (by kernel_rfl))
  f34 := Try.func96.trans (congrArg some (by kernel_rfl))
  f38 := Try.func104.trans (congrArg some (by kernel_rfl))
  t0 := Try.underlying0
  a0 := Try.isAgg0
  z0 := Try.sizeOf0
  v0 := Try.zeroValue0
  t3 := Try.underlying3
  a3 := Try.isAgg3
  z3 := Try.sizeOf3
  v3 := Try.zeroValue3
  t4 := Try.underlying4
  a4 := Try.isAgg4
  z4 := Try.sizeOf4
  v4 := Try.zeroValue4
  t9 := Try.underlying9
  a9 := Try.isAgg9
  z9 := Try.sizeOf9
  v9 := Try.zeroValue9
  t24 := Try.underlying65
  a24 := Try.isAgg65
  z24 := Try.sizeOf65
  v24 := Try.zeroValue65
  t40 := Try.underlying134
  a40 := Try.isAgg134
  z40 := Try.sizeOf134
  v40 := Try.zeroValue134 }

def Try.laysIdx_ren : Go.Shelf.Ren := ⟨fun | 109 => 71 | n => n, fun | 31 => 65 | 9 => 9 | 3 => 3 | 0 => 0 | 4 => 4 | n => n, fun | n => n⟩
theorem Try.laysIdx : Go.Proofs.Lays.n109 Try.prog Try.laysIdx_ren := {
  mixed := by kernel_rfl
  f109 := Try.func71.trans (congrArg some (by kernel_rfl))
  t0 := Try.underlying0
  a0 := Try.isAgg0
  z0 := Try.sizeOf0
  v0 := Try.zeroValue0
  t3 := Try.underlying3
  a3 := Try.isAgg3
  z3 := Try.sizeOf3
  v3 := Try.zeroValue3
  t4 := Try.underlying4
  a4 := Try.isAgg4
  z4 := Try.sizeOf4
  v4 := Try.zeroValue4
  t9 := Try.underlying9
  a9 := Try.isAgg9
  z9 := Try.sizeOf9
  v9 := Try.zeroValue9
  t31 := Try.underlying65
  a31 := Try.isAgg65
  z31 := Try.sizeOf65
  v31 := Try.zeroValue65 }

def Try.laysCon_ren : Go.Shelf.Ren := ⟨fun | 110 => 37 | 109 => 71 | n => n, fun | 31 => 65 | 9 => 9 | 4 => 4 | 3 => 3 | 0 => 0 | n => n, fun | n => n⟩
theorem Try.laysCon : Go.Proofs.Lays.n110 Try.prog Try.laysCon_ren := {
  mixed := by kernel_rfl
  f109 := Try.func71.trans (congrArg some (by kernel_rfl))
  f110 := Try.func37.trans (congrArg some (by kernel_rfl))
  t0 := Try.underlying0
  a0 := Try.isAgg0
  z0 := Try.sizeOf0
  v0 := Try.zeroValue0
  t3 := Try.underlying3
  a3 := Try.isAgg3
  z3 := Try.sizeOf3
  v3 := Try.zeroValue3
  t4 := Try.underlying4
  a4 := Try.isAgg4
  z4 := Try.sizeOf4
  v4 := Try.zeroValue4
  t9 := Try.underlying9
  a9 := Try.isAgg9
  z9 := Try.sizeOf9
  v9 := Try.zeroValue9
  t31 := Try.underlying65
  a31 := Try.isAgg65
  z31 := Try.sizeOf65
  v31 := Try.zeroValue65 }

end Go.Proofs.Ytmnplnhblniimaa
