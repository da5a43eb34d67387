/- THE LIBRARY's slices.Insert, BinarySearch, Index, Contains at texts: the kit's shelf laid at this translation (lay-shelf, lay-plain, then wip/tools/shelf_tmpl.py). -/
import Derived.Shelf.Slices.Turned
import Derived.Shelf.Spec.SlicesInsertGrow
import Derived.Shelf.Spec.SearchS
import Derived.Test.YtaaklejkngpddaaGreatProg
namespace Go.Proofs.YtaaklejkngpddaaGreat
open Go Go.Shelf

def Tryz.laysIns_ren : Go.Shelf.Ren := ⟨fun | 22 => 41 | 29 => 63 | 30 => 64 | 36 => 71 | 17 => 76 | n => n, fun | 24 => 60 | 9 => 9 | 3 => 3 | 4 => 4 | 0 => 0 | n => n, fun | n => n⟩
theorem Tryz.laysIns : Go.Proofs.Lays2.n22 Tryz.prog Tryz.laysIns_ren := {
  mixed := by kernel_rfl
  f17 := Tryz.func76.trans (congrArg some (by kernel_rfl))
  f22 := Tryz.func41.trans (congrArg some (by kernel_rfl))
  f29 := Tryz.func63.trans (congrArg some (by kernel_rfl))
  f30 := Tryz.func64.trans (congrArg some (by kernel_rfl))
  f36 := Tryz.func71.trans (congrArg some (by kernel_rfl))
  t0 := Tryz.underlying0
  a0 := Tryz.isAgg0
  z0 := Tryz.sizeOf0
  v0 := Tryz.zeroValue0
  t3 := Tryz.underlying3
  a3 := Tryz.isAgg3
  z3 := Tryz.sizeOf3
  v3 := Tryz.zeroValue3
  t4 := Tryz.underlying4
  a4 := Tryz.isAgg4
  z4 := Tryz.sizeOf4
  v4 := Tryz.zeroValue4
  t9 := Tryz.underlying9
  a9 := Tryz.isAgg9
  z9 := Tryz.sizeOf9
  v9 := Tryz.zeroValue9
  t24 := Tryz.underlying60
  a24 := Tryz.isAgg60
  z24 := Tryz.sizeOf60
  v24 := Tryz.zeroValue60
  i9 := by kernel_rfl }

def Tryz.laysBin_ren : Go.Shelf.Ren := ⟨fun | 26 => 40 | 33 => 61 | 34 => 62 | 38 => 70 | n => n, fun | 24 => 60 | 9 => 9 | 3 => 3 | 4 => 4 | 40 => 109 | 0 => 0 | n => n, fun | n => n⟩
theorem Tryz.laysBin : Go.Proofs.Lays2.n26 Tryz.prog Tryz.laysBin_ren := {
  mixed := by kernel_rfl
  f26 := Tryz.func40.trans (congrArg some (by kernel_rfl))
  f33 := Tryz.func61.trans (congrArg some (by kernel_rfl))
  f34 := Tryz.func62.trans (congrArg some (by kernel_rfl))
  f38 := Tryz.func70.trans (congrArg some (by kernel_rfl))
  t0 := Tryz.underlying0
  a0 := Tryz.isAgg0
  z0 := Tryz.sizeOf0
  v0 := Tryz.zeroValue0
  t3 := Tryz.underlying3
  a3 := Tryz.isAgg3
  z3 := Tryz.sizeOf3
  v3 := Tryz.zeroValue3
  t4 := Tryz.underlying4
  a4 := Tryz.isAgg4
  z4 := Tryz.sizeOf4
  v4 := Tryz.zeroValue4
  t9 := Tryz.underlying9
  a9 := Tryz.isAgg9
  z9 := Tryz.sizeOf9
  v9 := Tryz.zeroValue9
  t24 := Tryz.underlying60
  a24 := Tryz.isAgg60
  z24 := Tryz.sizeOf60
  v24 := Tryz.zeroValue60
  t40 := Tryz.underlying109
  a40 := Tryz.isAgg109
  z40 := Tryz.sizeOf109
  v40 := Tryz.zeroValue109 }

def Tryz.laysIdx_ren : Go.Shelf.Ren := ⟨fun | 109 => 67 | n => n, fun | 31 => 60 | 9 => 9 | 3 => 3 | 0 => 0 | 4 => 4 | n => n, fun | n => n⟩
theorem Tryz.laysIdx : Go.Proofs.Lays.n109 Tryz.prog Tryz.laysIdx_ren := {
  mixed := by kernel_rfl
  f109 := Tryz.func67.trans (congrArg some (by kernel_rfl))
  t0 := Tryz.underlying0
  a0 := Tryz.isAgg0
  z0 := Tryz.sizeOf0
  v0 := Tryz.zeroValue0
  t3 := Tryz.underlying3
  a3 := Tryz.isAgg3
  z3 := Tryz.sizeOf3
  v3 := Tryz.zeroValue3
  t4 := Tryz.underlying4
  a4 := Tryz.isAgg4
  z4 := Tryz.sizeOf4
  v4 := Tryz.zeroValue4
  t9 := Tryz.underlying9
  a9 := Tryz.isAgg9
  z9 := Tryz.sizeOf9
  v9 := Tryz.zeroValue9
  t31 := Tryz.underlying60
  a31 := Tryz.isAgg60
  z31 := Tryz.sizeOf60
  v31 := Tryz.zeroValue60 }

def Tryz.laysCon_ren : Go.Shelf.Ren := ⟨fun | 110 => 85 | 109 => 67 | n => n, fun | 31 => 60 | 9 => 9 | 4 => 4 | 3 => 3 | 0 => 0 | n => n, fun | n => n⟩
theorem Tryz.laysCon : Go.Proofs.Lays.n110 Tryz.prog Tryz.laysCon_ren := {
  mixed := by kernel_rfl
  f109 := Tryz.func67.trans (congrArg some (by kernel_rfl))
  f110 := Tryz.func85.trans (congrArg some (by kernel_rfl))
  t0 := Tryz.underlying0
  a0 := Tryz.isAgg0
  z0 := Tryz.sizeOf0
  v0 := Tryz.zeroValue0
  t3 := Tryz.underlying3
  a3 := Tryz.isAgg3
  z3 := Tryz.sizeOf3
  v3 := Tryz.zeroValue3
  t4 := Tryz.underlying4
  a4 := Tryz.isAgg4
  z4 := Tryz.sizeOf4
  v4 := Tryz.zeroValue4
  t9 := Tryz.underlying9
  a9 := Tryz.isAgg9
  z9 := Tryz.sizeOf9
  v9 := Tryz.zeroValue9
  t31 := Tryz.underlying60
  a31 := Tryz.isAgg60
  z31 := Tryz.sizeOf60
  v31 := Tryz.zeroValue60 }

end Go.Proofs.YtaaklejkngpddaaGreat
