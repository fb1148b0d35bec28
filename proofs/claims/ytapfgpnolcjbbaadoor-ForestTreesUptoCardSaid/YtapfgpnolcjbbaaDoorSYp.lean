/-
  The library's sort of places lies in the program.
-/
import Derived.Shelf.SlSortCmp.NoneTotal
import Derived.Test.YtapfgpnolcjbbaaDoorProg
set_option linter.unusedVariables false
set_option linter.unusedSimpArgs false
namespace Go.Proofs
open Go.Shelf
def Tryd.sortP_ren : Go.Shelf.Ren := ⟨fun | 6 => 32 | 15 => 48 | 14 => 49 | 28 => 68 | 29 => 69 | 20 => 70 | 21 => 71 | 22 => 72 | 23 => 73 | 24 => 74 | 25 => 75 | 26 => 76 | 27 => 77 | 46 => 91 | 47 => 87 | 48 => 88 | 49 => 92 | 50 => 93 | 57 => 98 | n => n, fun | 22 => 73 | 24 => 76 | 25 => 82 | 3 => 3 | 39 => 101 | 0 => 0 | 53 => 123 | 55 => 32 | 4 => 4 | 46 => 115 | 45 => 114 | 50 => 120 | 5 => 5 | 9 => 9 | 66 => 136 | 70 => 140 | 76 => 151 | 77 => 152 | n => n, fun | n => n⟩
theorem Tryd.sortP : Go.Proofs.SlLaysF.n6 Tryd.prog Tryd.sortP_ren := {
 mixed := by kernel_rfl
 f6 := ⟨Tryd.f32.name, by decide, Tryd.func32.trans (congrArg some (by kernel_rfl))⟩
 f14 := ⟨Tryd.f49.name, by decide, Tryd.func49.trans (congrArg some (by kernel_rfl))⟩
 f15 := Tryd.func48.trans (congrArg some (by kernel_rfl))
 f20 := ⟨Tryd.f70.name, by decide, Tryd.func70.trans (congrArg some (by kernel_rfl))⟩
 f21 := ⟨Tryd.f71.name, by decide, Tryd.func71.trans (congrArg some (by kernel_rfl))⟩
 f22 := ⟨Tryd.f72.name, by decide, Tryd.func72.trans (congrArg some (by kernel_rfl))⟩
 f23 := ⟨Tryd.f73.name, by decide, Tryd.func73.trans (congrArg some (by kernel_rfl))⟩
 f24 := ⟨Tryd.f74.name, by decide, Tryd.func74.trans (congrArg some (by kernel_rfl))⟩
 f25 := ⟨Tryd.f75.name, by decide, Tryd.func75.trans (congrArg some (by kernel_rfl))⟩
 f26 := ⟨Tryd.f76.name, by decide, Tryd.func76.trans (congrArg some (by kernel_rfl))⟩
 f27 := ⟨Tryd.f77.name, by decide, Tryd.func77.trans (congrArg some (by kernel_rfl))⟩
 f28 := Tryd.func68.trans (congrArg some (by kernel_rfl))
 f29 := Tryd.func69.trans (congrArg some (by kernel_rfl))
 f46 := ⟨Tryd.f91.name, by decide, Tryd.func91.trans (congrArg some (by kernel_rfl))⟩
 f47 := Tryd.func87.trans (congrArg some (by kernel_rfl))
 f48 := Tryd.func88.trans (congrArg some (by kernel_rfl))
 f49 := ⟨Tryd.f92.name, by decide, Tryd.func92.trans (congrArg some (by kernel_rfl))⟩
 f50 := ⟨Tryd.f93.name, by decide, Tryd.func93.trans (congrArg some (by kernel_rfl))⟩
 f57 := ⟨Tryd.f98.name, by decide, Tryd.func98.trans (congrArg some (by kernel_rfl))⟩
 t0 := Tryd.underlying0
 a0 := Tryd.isAgg0
 z0 := Tryd.sizeOf0
 v0 := Tryd.zeroValue0
 t3 := Tryd.underlying3
 a3 := Tryd.isAgg3
 z3 := Tryd.sizeOf3
 v3 := Tryd.zeroValue3
 t4 := Tryd.underlying4
 a4 := Tryd.isAgg4
 z4 := Tryd.sizeOf4
 v4 := Tryd.zeroValue4
 t5 := Tryd.underlying5
 a5 := Tryd.isAgg5
 z5 := Tryd.sizeOf5
 v5 := Tryd.zeroValue5
 t9 := Tryd.underlying9
 a9 := Tryd.isAgg9
 z9 := Tryd.sizeOf9
 v9 := Tryd.zeroValue9
 t22 := Tryd.underlying73
 a22 := Tryd.isAgg73
 z22 := Tryd.sizeOf73
 v22 := Tryd.zeroValue73
 a24 := Tryd.isAgg76
 z24 := Tryd.sizeOf76
 t25 := Tryd.underlying82
 a25 := Tryd.isAgg82
 z25 := Tryd.sizeOf82
 v25 := Tryd.zeroValue82
 t39 := Tryd.underlying101
 a39 := Tryd.isAgg101
 z39 := Tryd.sizeOf101
 v39 := Tryd.zeroValue101
 t45 := Tryd.underlying114
 a45 := Tryd.isAgg114
 z45 := Tryd.sizeOf114
 v45 := Tryd.zeroValue114
 t46 := Tryd.underlying115
 a46 := Tryd.isAgg115
 z46 := Tryd.sizeOf115
 v46 := Tryd.zeroValue115
 t50 := Tryd.underlying120
 a50 := Tryd.isAgg120
 z50 := Tryd.sizeOf120
 v50 := Tryd.zeroValue120
 t53 := Tryd.underlying123
 a53 := Tryd.isAgg123
 z53 := Tryd.sizeOf123
 v53 := Tryd.zeroValue123
 t55 := Tryd.underlying32
 a55 := Tryd.isAgg32
 z55 := Tryd.sizeOf32
 v55 := Tryd.zeroValue32
 t66 := Tryd.underlying136
 a66 := Tryd.isAgg136
 z66 := Tryd.sizeOf136
 v66 := Tryd.zeroValue136
 t70 := Tryd.underlying140
 a70 := Tryd.isAgg140
 z70 := Tryd.sizeOf140
 v70 := Tryd.zeroValue140
 t76 := Tryd.underlying151
 a76 := Tryd.isAgg151
 z76 := Tryd.sizeOf151
 v76 := Tryd.zeroValue151
 t77 := Tryd.underlying152
 a77 := Tryd.isAgg152
 z77 := Tryd.sizeOf152
 v77 := Tryd.zeroValue152 }
end Go.Proofs

