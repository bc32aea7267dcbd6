/- The library's contracts of slices.Clone and slices.Delete, laid at this translation's own numbers, in plain words. -/
import Derived.Test.YthpcedficlhanaaProg
import Derived.Shelf.SlicesE.Clone
import Derived.Shelf.SlicesE.Delete
namespace Go.Proofs.Ythpcedficlhanaa
open Go.Shelf
def clone_ren : Go.Shelf.Ren := ⟨fun | 41 => 14 | n => n, fun | 22 => 24 | 23 => 29 | 4 => 4 | n => n, fun | n => n⟩
theorem clone_lay : Go.Proofs.SlLaysE0.n41 Try.prog clone_ren := {
  mixed := by kernel_rfl
  f41 := ⟨Try.f14.name, by decide, Try.func14.trans (congrArg some (by kernel_rfl))⟩
  t4 := Try.underlying4
  a4 := Try.isAgg4
  z4 := Try.sizeOf4
  v4 := Try.zeroValue4
  t22 := Try.underlying24
  a22 := Try.isAgg24
  z22 := Try.sizeOf24
  v22 := Try.zeroValue24 }
def delete_ren : Go.Shelf.Ren := ⟨fun | 45 => 16 | n => n, fun | 22 => 24 | 23 => 29 | 3 => 3 | 4 => 4 | 0 => 0 | n => n, fun | n => n⟩
theorem delete_lay : Go.Proofs.SlLaysE.n45 Try.prog delete_ren := {
  mixed := by kernel_rfl
  f45 := ⟨Try.f16.name, by decide, Try.func16.trans (congrArg some (by kernel_rfl))⟩
  t0 := Try.underlying0
  a0 := Try.isAgg0
  z0 := Try.sizeOf0
  v0 := Try.zeroValue0
  t3 := Try.underlying3
  a3 := Try.isAgg3
  z3 := Try.sizeOf3
  v3 := Try.zeroValue3
  t4 := Try.underlying4
  a4 := Try.isAgg4
  z4 := Try.sizeOf4
  v4 := Try.zeroValue4
  t22 := Try.underlying24
  a22 := Try.isAgg24
  z22 := Try.sizeOf24
  v22 := Try.zeroValue24
  a23 := Try.isAgg29
  z23 := Try.sizeOf29 }
end Go.Proofs.Ythpcedficlhanaa
