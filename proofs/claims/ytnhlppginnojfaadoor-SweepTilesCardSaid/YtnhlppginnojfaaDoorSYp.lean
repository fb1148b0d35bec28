/-
  The library's sort of places lies in the program.
-/
import Derived.Shelf.SlSortCmp.NoneTotal
import Derived.Test.YtnhlppginnojfaaDoorProg
set_option linter.unusedVariables false
set_option linter.unusedSimpArgs false
namespace Go.Proofs
open Go.Shelf
def Tryd.sortP_ren : Go.Shelf.Ren := ⟨fun | 6 => 19 | 15 => 36 | 14 => 37 | 28 => 59 | 29 => 60 | 20 => 61 | 21 => 62 | 22 => 63 | 23 => 64 | 24 => 65 | 25 => 66 | 26 => 67 | 27 => 68 | 46 => 83 | 47 => 79 | 48 => 80 | 49 => 84 | 50 => 85 | 57 => 91 | n => n, fun | 22 => 54 | 24 => 65 | 25 => 71 | 3 => 3 | 39 => 95 | 0 => 0 | 53 => 125 | 55 => 30 | 4 => 4 | 46 => 117 | 45 => 116 | 50 => 122 | 5 => 5 | 9 => 9 | 66 => 142 | 70 => 146 | 76 => 158 | 77 => 159 | n => n, fun | n => n⟩
theorem Tryd.sortP : Go.Proofs.SlLaysF.n6 Tryd.prog Tryd.sortP_ren := {
 mixed := by kernel_rfl
 f6 := ⟨Tryd.f19.name, by decide, Tryd.func19.trans (congrArg some (by kernel_rfl))⟩
 f14 := ⟨Tryd.f37.name, by decide, Tryd.func37.trans (congrArg some (by kernel_rfl))⟩
 f15 := Tryd.func36.trans (congrArg some (by kernel_rfl))
 f20 := ⟨Tryd.f61.name, by decide, Tryd.func61.trans (congrArg some (by kernel_rfl))⟩
 f21 := ⟨Tryd.f62.name, by decide, Tryd.func62.trans (congrArg some (by kernel_rfl))⟩
 f22 := ⟨Tryd.f63.name, by decide, Tryd.func63.trans (congrArg some (by kernel_rfl))⟩
 f23 := ⟨Tryd.f64.name, by decide, Tryd.func64.trans (congrArg some (by kernel_rfl))⟩
 f24 := ⟨Tryd.f65.name, by decide, Tryd.func65.trans (congrArg some (by kernel_rfl))⟩
 f25 := ⟨Tryd.f66.name, by decide, Tryd.func66.trans (congrArg some (by kernel_rfl))⟩
 f26 := ⟨Tryd.f67.name, by decide, Tryd.func67.trans (congrArg some (by kernel_rfl))⟩
 f27 := ⟨Tryd.f68.name, by decide, Tryd.func68.trans (congrArg some (by kernel_rfl))⟩
 f28 := Tryd.func59.trans (congrArg some (by kernel_rfl))
 f29 := Tryd.func60.trans (congrArg some (by kernel_rfl))
 f46 := ⟨Tryd.f83.name, by decide, Tryd.func83.trans (congrArg some (by kernel_rfl))⟩
 f47 := Tryd.func79.trans (congrArg some (by kernel_rfl))
 f48 := Tryd.func80.trans (congrArg some (by kernel_rfl))
 f49 := ⟨Tryd.f84.name, by decide, Tryd.func84.trans (congrArg some (by kernel_rfl))⟩
 f50 := ⟨Tryd.f85.name, by decide, Tryd.func85.trans (congrArg some (by kernel_rfl))⟩
 f57 := ⟨Tryd.f91.name, by decide, Tryd.func91.trans (congrArg some (by kernel_rfl))⟩
 t0 := Tryd.underlying0
 a0 := Tryd.isAgg0
 z0 := Tryd.sizeOf0
 v0 := Tryd.zeroValue0
 t3 := Tryd.underlying3
 a3 := Tryd.isAgg3
 z3 := Tryd.sizeOf3
 v3 := Tryd.zeroValue3
 t4 := Tryd.underlying4
 a4 := Tryd.isAgg4
 z4 := Tryd.sizeOf4
 v4 := Tryd.zeroValue4
 t5 := Tryd.underlying5
 a5 := Tryd.isAgg5
 z5 := Tryd.sizeOf5
 v5 := Tryd.zeroValue5
 t9 := Tryd.underlying9
 a9 := Tryd.isAgg9
 z9 := Tryd.sizeOf9
 v9 := Tryd.zeroValue9
 t22 := Tryd.underlying54
 a22 := Tryd.isAgg54
 z22 := Tryd.sizeOf54
 v22 := Tryd.zeroValue54
 a24 := Tryd.isAgg65
 z24 := Tryd.sizeOf65
 t25 := Tryd.underlying71
 a25 := Tryd.isAgg71
 z25 := Tryd.sizeOf71
 v25 := Tryd.zeroValue71
 t39 := Tryd.underlying95
 a39 := Tryd.isAgg95
 z39 := Tryd.sizeOf95
 v39 := Tryd.zeroValue95
 t45 := Tryd.underlying116
 a45 := Tryd.isAgg116
 z45 := Tryd.sizeOf116
 v45 := Tryd.zeroValue116
 t46 := Tryd.underlying117
 a46 := Tryd.isAgg117
 z46 := Tryd.sizeOf117
 v46 := Tryd.zeroValue117
 t50 := Tryd.underlying122
 a50 := Tryd.isAgg122
 z50 := Tryd.sizeOf122
 v50 := Tryd.zeroValue122
 t53 := Tryd.underlying125
 a53 := Tryd.isAgg125
 z53 := Tryd.sizeOf125
 v53 := Tryd.zeroValue125
 t55 := Tryd.underlying30
 a55 := Tryd.isAgg30
 z55 := Tryd.sizeOf30
 v55 := Tryd.zeroValue30
 t66 := Tryd.underlying142
 a66 := Tryd.isAgg142
 z66 := Tryd.sizeOf142
 v66 := Tryd.zeroValue142
 t70 := Tryd.underlying146
 a70 := Tryd.isAgg146
 z70 := Tryd.sizeOf146
 v70 := Tryd.zeroValue146
 t76 := Tryd.underlying158
 a76 := Tryd.isAgg158
 z76 := Tryd.sizeOf158
 v76 := Tryd.zeroValue158
 t77 := Tryd.underlying159
 a77 := Tryd.isAgg159
 z77 := Tryd.sizeOf159
 v77 := Tryd.zeroValue159 }
end Go.Proofs

