/- THE LIBRARY's slices.Insert, BinarySearch, Index, Contains at texts: the kit's shelf laid at this translation (lay-shelf, lay-plain, then wip/tools/shelf_tmpl.py). -/
import Derived.Shelf.Slices.Turned
import Derived.Shelf.Spec.SlicesInsertGrow
import Derived.Shelf.Spec.SearchS
import Derived.Test.YtjjmoibnmdbpeaaProg
namespace Go.Proofs.Ytjjmoibnmdbpeaa
open Go Go.Shelf

def Try.laysIns_ren : Go.Shelf.Ren := ⟨fun | 22 => 83 | 29 => 123 | 30 => 124 | 36 => 140 | 17 => 148 | n => n, fun | 24 => 92 | 9 => 9 | 3 => 3 | 4 => 4 | 0 => 0 | n => n, fun | n => n⟩
theorem Try.laysIns : Go.Proofs.Lays2.n22 Try.prog Try.laysIns_ren := {
  mixed := by kernel_rfl
  f17 := Try.func148.trans (congrArg some (by kernel_rfl))
  f22 := Try.func83.trans (congrArg some (by kernel_rfl))
  f29 := Try.func123.trans (congrArg some (by kernel_rfl))
  f30 := Try.func124.trans (congrArg some (by kernel_rfl))
  f36 := Try.func140.trans (congrArg some (by kernel_rfl))
  t0 := Try.underlying0
  a0 := Try.isAgg0
  z0 := Try.sizeOf0
  v0 := Try.zeroValue0
  t3 := Try.underlying3
  a3 := Try.isAgg3
  z3 := Try.sizeOf3
  v3 := Try.zeroValue3
  t4 := Try.underlying4
  a4 := Try.isAgg4
  z4 := Try.sizeOf4
  v4 := Try.zeroValue4
  t9 := Try.underlying9
  a9 := Try.isAgg9
  z9 := Try.sizeOf9
  v9 := Try.zeroValue9
  t24 := Try.underlying92
  a24 := Try.isAgg92
  z24 := Try.sizeOf92
  v24 := Try.zeroValue92
  i9 := by kernel_rfl }

def Try.laysBin_ren : Go.Shelf.Ren := ⟨fun | 26 => 82 | 33 => 121 | 34 => 122 | 38 => 139 | n => n, fun | 24 => 92 | 9 => 9 | 3 => 3 | 4 => 4 | 40 => 161 | 0 => 0 | n => n, fun | n => n⟩
theorem Try.laysBin : Go.Proofs.Lays2.n26 Try.prog Try.laysBin_ren := {
  mixed := by kernel_rfl
  f26 := Try.func82.trans (congrArg some (by kernel_rfl))
  f33 := Try.func121.trans (congrArg some (by kernel_rfl))
  f34 := Try.func122.trans (congrArg some (by kernel_rfl))
  f38 := Try.func139.trans (congrArg some (by kernel_rfl))
  t0 := Try.underlying0
  a0 := Try.isAgg0
  z0 := Try.sizeOf0
  v0 := Try.zeroValue0
  t3 := Try.underlying3
  a3 := Try.isAgg3
  z3 := Try.sizeOf3
  v3 := Try.zeroValue3
  t4 := Try.underlying4
  a4 := Try.isAgg4
  z4 := Try.sizeOf4
  v4 := Try.zeroValue4
  t9 := Try.underlying9
  a9 := Try.isAgg9
  z9 := Try.sizeOf9
  v9 := Try.zeroValue9
  t24 := Try.underlying92
  a24 := Try.isAgg92
  z24 := Try.sizeOf92
  v24 := Try.zeroValue92
  t40 := Try.underlying161
  a40 := Try.isAgg161
  z40 := Try.sizeOf161
  v40 := Try.zeroValue161 }

def Try.laysIdx_ren : Go.Shelf.Ren := ⟨fun | 109 => 84 | n => n, fun | 31 => 92 | 9 => 9 | 3 => 3 | 0 => 0 | 4 => 4 | n => n, fun | n => n⟩
theorem Try.laysIdx : Go.Proofs.Lays.n109 Try.prog Try.laysIdx_ren := {
  mixed := by kernel_rfl
  f109 := Try.func84.trans (congrArg some (by kernel_rfl))
  t0 := Try.underlying0
  a0 := Try.isAgg0
  z0 := Try.sizeOf0
  v0 := Try.zeroValue0
  t3 := Try.underlying3
  a3 := Try.isAgg3
  z3 := Try.sizeOf3
  v3 := Try.zeroValue3
  t4 := Try.underlying4
  a4 := Try.isAgg4
  z4 := Try.sizeOf4
  v4 := Try.zeroValue4
  t9 := Try.underlying9
  a9 := Try.isAgg9
  z9 := Try.sizeOf9
  v9 := Try.zeroValue9
  t31 := Try.underlying92
  a31 := Try.isAgg92
  z31 := Try.sizeOf92
  v31 := Try.zeroValue92 }

def Try.laysCon_ren : Go.Shelf.Ren := ⟨fun | 110 => 43 | 109 => 84 | n => n, fun | 31 => 92 | 9 => 9 | 4 => 4 | 3 => 3 | 0 => 0 | n => n, fun | n => n⟩
theorem Try.laysCon : Go.Proofs.Lays.n110 Try.prog Try.laysCon_ren := {
  mixed := by kernel_rfl
  f109 := Try.func84.trans (congrArg some (by kernel_rfl))
  f110 := Try.func43.trans (congrArg some (by kernel_rfl))
  t0 := Try.underlying0
  a0 := Try.isAgg0
  z0 := Try.sizeOf0
  v0 := Try.zeroValue0
  t3 := Try.underlying3
  a3 := Try.isAgg3
  z3 := Try.sizeOf3
  v3 := Try.zeroValue3
  t4 := Try.underlying4
  a4 := Try.isAgg4
  z4 := Try.sizeOf4
  v4 := Try.zeroValue4
  t9 := Try.underlying9
  a9 := Try.isAgg9
  z9 := Try.sizeOf9
  v9 := Try.zeroValue9
  t31 := Try.underlying92
  a31 := Try.isAgg92
  z31 := Try.sizeOf92
  v31 := Try.zeroValue92 }

end Go.Proofs.Ytjjmoibnmdbpeaa
