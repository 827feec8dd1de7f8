/- slices.Sort and slices.Compact of whole numbers, laid at this dump. No condition. -/
import Derived.Test.YtcejkpjinmolhaaDoorProg
import Derived.Ground.NamesProg
import Derived.Ground.Names2Prog
import Derived.Shelf.Sort.Plain
import Derived.Shelf.Slices.In.SortNone
import Derived.Shelf.Slices.CompactI
import Derived.Lib.OwnBridge
namespace Go.Proofs
open Go.Shelf
def Tryd.laysSort_ren : Go.Shelf.Ren := ⟨fun | 189 => 13 | 125 => 18 | 257 => 17 | 128 => 29 | 129 => 30 | 294 => 20 | 295 => 21 | 296 => 22 | 297 => 23 | 298 => 24 | 299 => 25 | 216 => 26 | 300 => 27 | 301 => 28 | 328 => 31 | 329 => 32 | 330 => 33 | 331 => 34 | 332 => 35 | 215 => 36 | 343 => 37 | n => n, fun | 28 => 25 | 3 => 3 | 46 => 38 | 0 => 0 | 51 => 30 | 53 => 29 | 4 => 4 | 183 => 42 | 182 => 41 | 131 => 47 | 5 => 5 | 9 => 9 | 218 => 52 | 222 => 56 | 228 => 59 | 229 => 60 | n => n, fun | n => n⟩
theorem Tryd.laysSort : Go.Proofs.Lays.n189 Tryd.prog Tryd.laysSort_ren := {
  mixed := by kernel_rfl
  f125 := Tryd.func18.trans (congrArg some (by kernel_rfl))
  f128 := Tryd.func29.trans (congrArg some (by kernel_rfl))
  f129 := Tryd.func30.trans (congrArg some (by kernel_rfl))
  f189 := Tryd.func13.trans (congrArg some (by kernel_rfl))
  f215 := Tryd.func36.trans (congrArg some (by kernel_rfl))
  f216 := Tryd.func26.trans (congrArg some (by kernel_rfl))
  f257 := Tryd.func17.trans (congrArg some (by kernel_rfl))
  f294 := Tryd.func20.trans (congrArg some (by kernel_rfl))
  f295 := Tryd.func21.trans (congrArg some (by kernel_rfl))
  f296 := Tryd.func22.trans (congrArg some (by kernel_rfl))
  f297 := Tryd.func23.trans (congrArg some (by kernel_rfl))
  f298 := Tryd.func24.trans (congrArg some (by kernel_rfl))
  f299 := Tryd.func25.trans (congrArg some (by kernel_rfl))
  f300 := Tryd.func27.trans (congrArg some (by kernel_rfl))
  f301 := Tryd.func28.trans (congrArg some (by kernel_rfl))
  f328 := Tryd.func31.trans (congrArg some (by kernel_rfl))
  f329 := Tryd.func32.trans (congrArg some (by kernel_rfl))
  f330 := Tryd.func33.trans (congrArg some (by kernel_rfl))
  f331 := Tryd.func34.trans (congrArg some (by kernel_rfl))
  f332 := Tryd.func35.trans (congrArg some (by kernel_rfl))
  f343 := Tryd.func37.trans (congrArg some (by kernel_rfl))
  t0 := Tryd.underlying0
  a0 := Tryd.isAgg0
  z0 := Tryd.sizeOf0
  v0 := Tryd.zeroValue0
  t3 := Tryd.underlying3
  a3 := Tryd.isAgg3
  z3 := Tryd.sizeOf3
  v3 := Tryd.zeroValue3
  t4 := Tryd.underlying4
  a4 := Tryd.isAgg4
  z4 := Tryd.sizeOf4
  v4 := Tryd.zeroValue4
  t5 := Tryd.underlying5
  a5 := Tryd.isAgg5
  z5 := Tryd.sizeOf5
  v5 := Tryd.zeroValue5
  t9 := Tryd.underlying9
  a9 := Tryd.isAgg9
  z9 := Tryd.sizeOf9
  v9 := Tryd.zeroValue9
  t28 := Tryd.underlying25
  a28 := Tryd.isAgg25
  z28 := Tryd.sizeOf25
  v28 := Tryd.zeroValue25
  t46 := Tryd.underlying38
  a46 := Tryd.isAgg38
  z46 := Tryd.sizeOf38
  v46 := Tryd.zeroValue38
  t51 := Tryd.underlying30
  a51 := Tryd.isAgg30
  z51 := Tryd.sizeOf30
  v51 := Tryd.zeroValue30
  t53 := Tryd.underlying29
  a53 := Tryd.isAgg29
  z53 := Tryd.sizeOf29
  v53 := Tryd.zeroValue29
  t131 := Tryd.underlying47
  a131 := Tryd.isAgg47
  z131 := Tryd.sizeOf47
  v131 := Tryd.zeroValue47
  t182 := Tryd.underlying41
  a182 := Tryd.isAgg41
  z182 := Tryd.sizeOf41
  v182 := Tryd.zeroValue41
  t183 := Tryd.underlying42
  a183 := Tryd.isAgg42
  z183 := Tryd.sizeOf42
  v183 := Tryd.zeroValue42
  t218 := Tryd.underlying52
  a218 := Tryd.isAgg52
  z218 := Tryd.sizeOf52
  v218 := Tryd.zeroValue52
  t222 := Tryd.underlying56
  a222 := Tryd.isAgg56
  z222 := Tryd.sizeOf56
  v222 := Tryd.zeroValue56
  t228 := Tryd.underlying59
  a228 := Tryd.isAgg59
  z228 := Tryd.sizeOf59
  v228 := Tryd.zeroValue59
  t229 := Tryd.underlying60
  a229 := Tryd.isAgg60
  z229 := Tryd.sizeOf60
  v229 := Tryd.zeroValue60 }
def Tryd.laysCompact_ren : Go.Shelf.Ren := ⟨fun | 20 => 14 | n => n, fun | 22 => 25 | 3 => 3 | 4 => 4 | 0 => 0 | n => n, fun | n => n⟩
theorem Tryd.laysCompact : Go.Proofs.Lays2.n20 Tryd.prog Tryd.laysCompact_ren := {
  mixed := by kernel_rfl
  f20 := Tryd.func14.trans (congrArg some (by kernel_rfl))
  t0 := Tryd.underlying0
  a0 := Tryd.isAgg0
  z0 := Tryd.sizeOf0
  v0 := Tryd.zeroValue0
  t3 := Tryd.underlying3
  a3 := Tryd.isAgg3
  z3 := Tryd.sizeOf3
  v3 := Tryd.zeroValue3
  t4 := Tryd.underlying4
  a4 := Tryd.isAgg4
  z4 := Tryd.sizeOf4
  v4 := Tryd.zeroValue4
  t22 := Tryd.underlying25
  a22 := Tryd.isAgg25
  z22 := Tryd.sizeOf25
  v22 := Tryd.zeroValue25
  i3 := by kernel_rfl }
end Go.Proofs
