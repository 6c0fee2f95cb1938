/- BinarySearch, Insert and Clone at ints, out of the library's shelf, at this program's numbers. -/
import Derived.Test.YtjgnikmnadmheaaA0
import Derived.Shelf.Slices.SearchI
import Derived.Shelf.Slices.Empties
import Derived.Shelf.Spec.SlicesInsert
import Derived.Shelf.Spec.SlicesInsertGrow
import Derived.Shelf.Slices.Clone
import Derived.KernelRfl
import Derived.Test.YtjgnikmnadmheaaProg
namespace Go.Proofs.Ytjgnikmnadmheaa
open Go.Shelf Go.Lib Go.RowKit

def Lay25_ren : Ren :=
{
  f := fun x =>
    match x with
    | 25 => 76
    | 31 => 113
    | 32 => 114
    | 37 => 129
    | n => n,
  t := fun x =>
    match x with
    | 22 => 25
    | 3 => 3
    | 4 => 4
    | 40 => 45
    | 0 => 0
    | n => n,
  g := fun x =>
    x }
def Lay21_ren : Ren :=
{
  f := fun x =>
    match x with
    | 21 => 77
    | 27 => 115
    | 28 => 116
    | 35 => 130
    | 39 => 132
    | n => n,
  t := fun x =>
    match x with
    | 22 => 25
    | 3 => 3
    | 4 => 4
    | 0 => 0
    | n => n,
  g := fun x =>
    x }
def Lay15_ren : Ren :=
{
  f := fun x =>
    match x with
    | 15 => 78
    | n => n,
  t := fun x =>
    match x with
    | 22 => 25
    | 3 => 3
    | 4 => 4
    | n => n,
  g := fun x =>
    x }
set_option maxRecDepth 100000 in
theorem Lay25 : Lays2.n25 Try.prog Lay25_ren :=
{ mixed := by kernel_rfl, f25 := by kernel_rfl,
  f31 := by kernel_rfl,
  f32 := by kernel_rfl,
  f37 := by kernel_rfl, t0 := Try.underlying0,
  a0 := Try.isAgg0, z0 := Try.sizeOf0, v0 := Try.zeroValue0, t3 := Try.underlying3, a3 := Try.isAgg3, z3 := Try.sizeOf3,
  v3 := Try.zeroValue3, t4 := Try.underlying4, a4 := Try.isAgg4, z4 := Try.sizeOf4, v4 := Try.zeroValue4,
  t22 := Try.underlying25, a22 := Try.isAgg25, z22 := Try.sizeOf25, v22 := Try.zeroValue25, t40 := Try.underlying45,
  a40 := Try.isAgg45, z40 := Try.sizeOf45, v40 := Try.zeroValue45 }
set_option maxRecDepth 100000 in
theorem Lay21 : Lays2.n21 Try.prog Lay21_ren :=
{ mixed := by kernel_rfl, f21 := by kernel_rfl,
  f27 := by kernel_rfl,
  f28 := by kernel_rfl,
  f35 := by kernel_rfl,
  f39 := by kernel_rfl, t0 := Try.underlying0,
  a0 := Try.isAgg0, z0 := Try.sizeOf0, v0 := Try.zeroValue0, t3 := Try.underlying3, a3 := Try.isAgg3, z3 := Try.sizeOf3,
  v3 := Try.zeroValue3, t4 := Try.underlying4, a4 := Try.isAgg4, z4 := Try.sizeOf4, v4 := Try.zeroValue4,
  t22 := Try.underlying25, a22 := Try.isAgg25, z22 := Try.sizeOf25, v22 := Try.zeroValue25,
  i3 := Eq.refl (some (some (Value.int IntKind.i64 0), 1, 8)) }
set_option maxRecDepth 100000 in
theorem Lay15 : Lays2.n15 Try.prog Lay15_ren :=
{ mixed := by kernel_rfl, f15 := by kernel_rfl,
  t3 := Try.underlying3, a3 := Try.isAgg3, z3 := Try.sizeOf3, v3 := Try.zeroValue3, t4 := Try.underlying4,
  a4 := Try.isAgg4, z4 := Try.sizeOf4, v4 := Try.zeroValue4, t22 := Try.underlying25, a22 := Try.isAgg25,
  z22 := Try.sizeOf25, v22 := Try.zeroValue25, i3 := Eq.refl (some (some (Value.int IntKind.i64 0), 1, 8)) }

end Go.Proofs.Ytjgnikmnadmheaa
