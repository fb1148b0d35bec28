/-
  The library's sort of calls lies in the program.
  Bars: rows and lists; sums that are cut off.
  Lists of bars: what the program does with them: laid, put together.
  Lists of bars: looked at, taken away.
  Numbers of two words; tallies: plain laws.
  Numbers of two words; tallies: what is left.
  What is put together: plain laws.
  Sums do not hang on the order, nor on which two are put together first: plain laws.
-/
import Derived.Shelf.SlSortCmp.NoneTotal
import Derived.Test.YthjagnpghdcbcaaGreatDoorProg
import Derived.Test.YthjagnpghdcbcaaGreatDoorW8to12
import Derived.Test.YthjagnpghdcbcaaGreatDoorSVatoSVj
namespace Go.Proofs
open Go.Shelf
def Tryz.sortC_ren : Go.Shelf.Ren := ⟨fun | 6 => 69 | 15 => 83 | 14 => 89 | 28 => 106 | 29 => 61 | 20 => 118 | 21 => 119 | 22 => 120 | 23 => 121 | 24 => 122 | 25 => 123 | 26 => 124 | 27 => 125 | 46 => 138 | 47 => 131 | 48 => 132 | 49 => 139 | 50 => 140 | 57 => 146 | n => n, fun | 22 => 48 | 24 => 26 | 25 => 86 | 3 => 3 | 39 => 138 | 0 => 0 | 53 => 165 | 55 => 24 | 4 => 4 | 46 => 157 | 45 => 156 | 50 => 162 | 5 => 5 | 9 => 9 | 66 => 181 | 70 => 185 | 76 => 197 | 77 => 198 | n => n, fun | n => n⟩
theorem Tryz.sortC : Go.Proofs.SlLaysF0.n6 Tryz.prog Tryz.sortC_ren := {
 mixed := by kernel_rfl
 f6 := ⟨Tryz.f69.name, by decide, Tryz.func69.trans (congrArg some (by kernel_rfl))⟩
 f14 := ⟨Tryz.f89.name, by decide, Tryz.func89.trans (congrArg some (by kernel_rfl))⟩
 f15 := Tryz.func83.trans (congrArg some (by kernel_rfl))
 f20 := ⟨Tryz.f118.name, by decide, Tryz.func118.trans (congrArg some (by kernel_rfl))⟩
 f21 := ⟨Tryz.f119.name, by decide, Tryz.func119.trans (congrArg some (by kernel_rfl))⟩
 f22 := ⟨Tryz.f120.name, by decide, Tryz.func120.trans (congrArg some (by kernel_rfl))⟩
 f23 := ⟨Tryz.f121.name, by decide, Tryz.func121.trans (congrArg some (by kernel_rfl))⟩
 f24 := ⟨Tryz.f122.name, by decide, Tryz.func122.trans (congrArg some (by kernel_rfl))⟩
 f25 := ⟨Tryz.f123.name, by decide, Tryz.func123.trans (congrArg some (by kernel_rfl))⟩
 f26 := ⟨Tryz.f124.name, by decide, Tryz.func124.trans (congrArg some (by kernel_rfl))⟩
 f27 := ⟨Tryz.f125.name, by decide, Tryz.func125.trans (congrArg some (by kernel_rfl))⟩
 f28 := Tryz.func106.trans (congrArg some (by kernel_rfl))
 f29 := Tryz.func61.trans (congrArg some (by kernel_rfl))
 f46 := ⟨Tryz.f138.name, by decide, Tryz.func138.trans (congrArg some (by kernel_rfl))⟩
 f47 := Tryz.func131.trans (congrArg some (by kernel_rfl))
 f48 := Tryz.func132.trans (congrArg some (by kernel_rfl))
 f49 := ⟨Tryz.f139.name, by decide, Tryz.func139.trans (congrArg some (by kernel_rfl))⟩
 f50 := ⟨Tryz.f140.name, by decide, Tryz.func140.trans (congrArg some (by kernel_rfl))⟩
 f57 := ⟨Tryz.f146.name, by decide, Tryz.func146.trans (congrArg some (by kernel_rfl))⟩
 t0 := Tryz.underlying0
 a0 := Tryz.isAgg0
 z0 := Tryz.sizeOf0
 v0 := Tryz.zeroValue0
 t3 := Tryz.underlying3
 a3 := Tryz.isAgg3
 z3 := Tryz.sizeOf3
 v3 := Tryz.zeroValue3
 t4 := Tryz.underlying4
 a4 := Tryz.isAgg4
 z4 := Tryz.sizeOf4
 v4 := Tryz.zeroValue4
 t5 := Tryz.underlying5
 a5 := Tryz.isAgg5
 z5 := Tryz.sizeOf5
 v5 := Tryz.zeroValue5
 t9 := Tryz.underlying9
 a9 := Tryz.isAgg9
 z9 := Tryz.sizeOf9
 v9 := Tryz.zeroValue9
 t22 := Tryz.underlying48
 a22 := Tryz.isAgg48
 z22 := Tryz.sizeOf48
 v22 := Tryz.zeroValue48
 t25 := Tryz.underlying86
 a25 := Tryz.isAgg86
 z25 := Tryz.sizeOf86
 v25 := Tryz.zeroValue86
 t39 := Tryz.underlying138
 a39 := Tryz.isAgg138
 z39 := Tryz.sizeOf138
 v39 := Tryz.zeroValue138
 t45 := Tryz.underlying156
 a45 := Tryz.isAgg156
 z45 := Tryz.sizeOf156
 v45 := Tryz.zeroValue156
 t46 := Tryz.underlying157
 a46 := Tryz.isAgg157
 z46 := Tryz.sizeOf157
 v46 := Tryz.zeroValue157
 t50 := Tryz.underlying162
 a50 := Tryz.isAgg162
 z50 := Tryz.sizeOf162
 v50 := Tryz.zeroValue162
 t53 := Tryz.underlying165
 a53 := Tryz.isAgg165
 z53 := Tryz.sizeOf165
 v53 := Tryz.zeroValue165
 t55 := Tryz.underlying24
 a55 := Tryz.isAgg24
 z55 := Tryz.sizeOf24
 v55 := Tryz.zeroValue24
 t66 := Tryz.underlying181
 a66 := Tryz.isAgg181
 z66 := Tryz.sizeOf181
 v66 := Tryz.zeroValue181
 t70 := Tryz.underlying185
 a70 := Tryz.isAgg185
 z70 := Tryz.sizeOf185
 v70 := Tryz.zeroValue185
 t76 := Tryz.underlying197
 a76 := Tryz.isAgg197
 z76 := Tryz.sizeOf197
 v76 := Tryz.zeroValue197
 t77 := Tryz.underlying198
 a77 := Tryz.isAgg198
 z77 := Tryz.sizeOf198
 v77 := Tryz.zeroValue198 }
end Go.Proofs

namespace Go.Eng.S
open Go Go.Eng
abbrev Bar := Int × Int
noncomputable def barE : Enc Bar := ⟨fun p => [.int .i64 p.1, .int .u64 p.2], 2, by decide, fun _ => rfl⟩
def okB (last : Int) : List Bar → Bool
 | [] => true
 | p :: r => decide (last < p.1) && decide (p.1 < 1920) && !(p.2 == 0) && okB p.1 r
abbrev RowF := Nat → Int
def upd (r : RowF) (k : Nat) (v : Int) : RowF := fun i => if i = k then v else r i
def fillR (r : RowF) : List Bar → RowF
 | [] => r
 | p :: q => fillR (upd r p.1.toNat p.2) q
def zeroR : RowF := fun _ => 0
def M64 : Int := 18446744073709551615
def sat (a b : Int) : Int := if a + b ≤ M64 then a + b else M64
def addR (r : RowF) : List Bar → RowF
 | [] => r
 | p :: q => addR (upd r p.1.toNat (sat (r p.1.toNat) p.2)) q
def barsTo (r : RowF) : Nat → List Bar
 | 0 => []
 | n + 1 => barsTo r n ++ (if r n > 0 then [((n : Int), r n)] else [])
def barsOf (r : RowF) : List Bar := barsTo r 1920
def RngP (p : Bar) : Prop := -9223372036854775808 ≤ p.1 ∧ p.1 < 9223372036854775808 ∧ 0 ≤ p.2 ∧ p.2 ≤ M64
def RngB (l : List Bar) : Prop := ∀ p, p ∈ l → RngP p
def RngR (r : RowF) : Prop := ∀ i, 0 ≤ r i ∧ r i ≤ M64
theorem RngB.head {p : Bar} {q : List Bar} (h : RngB (p :: q)) : RngP p := h p (List.mem_cons_self ..)
theorem RngB.tail {p : Bar} {q : List Bar} (h : RngB (p :: q)) : RngB q := fun x hx => h x (List.mem_cons_of_mem _ hx)
theorem sat_rng {a b : Int} (ha : 0 ≤ a ∧ a ≤ M64) (hb : 0 ≤ b ∧ b ≤ M64) : 0 ≤ sat a b ∧ sat a b ≤ M64 := by
 unfold sat M64 at *; split <;> omega
theorem RngR.upd {r : RowF} (h : RngR r) {k : Nat} {v : Int} (hv : 0 ≤ v ∧ v ≤ M64) : RngR (S.upd r k v) := by
 intro i; unfold S.upd; split
 ·exact hv
 ·exact h i
theorem RngR.zero : RngR zeroR := fun _ => by simp [zeroR, M64]
theorem RngR.add : ∀ {l : List Bar} {r : RowF}, RngR r → RngB l → RngR (addR r l)
 | [], _, h, _ => h
 | p :: q, r, h, hb => RngR.add (l := q) (r := S.upd r p.1.toNat (sat (r p.1.toNat) p.2)) (h.upd (sat_rng (h _) hb.head.2.2)) hb.tail
def has : List Bar → Nat → Bool
 | [], _ => false
 | p :: q, i => p.1.toNat == i || has q i
def cnt : List Bar → RowF
 | [], _ => 0
 | p :: q, i => if p.1.toNat = i then p.2 else cnt q i
def mergeB (a b : List Bar) : List Bar := barsOf (addR (fillR zeroR a) b)
end Go.Eng.S

namespace Go.Eng.S
open Go Go.Eng Go.Proofs
noncomputable section
end
end Go.Eng.S

namespace Go.Eng.S
open Go Go.Eng Go.Proofs
noncomputable section
end
end Go.Eng.S

namespace Go.Eng.S
open Go Go.Eng Go.Proofs
noncomputable section
abbrev P2 := Int × Int
def val2 (p : P2) : Int := p.1 * 18446744073709551616 + p.2
def of2 (n : Int) : P2 := (n / 18446744073709551616, n % 18446744073709551616)
def Rng2 (p : P2) : Prop := (0 ≤ p.1 ∧ p.1 ≤ M64) ∧ 0 ≤ p.2 ∧ p.2 ≤ M64
def M128 : Int := 340282366920938463463374607431768211455
theorem Rng2.val {p : P2} (h : Rng2 p) : 0 ≤ val2 p ∧ val2 p ≤ M128 := by
 obtain ⟨⟨h1, h2⟩, h3, h4⟩ := h
 unfold M64 at *; unfold val2 M128; omega
theorem Rng2.of {n : Int} (h0 : 0 ≤ n) (h1 : n ≤ M128) : Rng2 (of2 n) := by
 unfold M128 at h1; unfold Rng2 of2 M64; simp only; omega
structure Tal where
 a : P2
 b : P2
 c : P2
 l : List Bar
def Tal.C (t : Tal) (x : AV) : List AV := [.int .u64 t.a.1, .int .u64 t.a.2, .int .u64 t.b.1, .int .u64 t.b.2, .int .u64 t.c.1, .int .u64 t.c.2, x]
structure Tal.Rng (t : Tal) : Prop where
 a : Rng2 t.a
 b : Rng2 t.b
 c : Rng2 t.c
 l : RngB t.l
def Tal.zero : Tal := ⟨(0, 0), (0, 0), (0, 0), []⟩
abbrev Tal.ok (t : Tal) : Bool := okB (-1) t.l
end
end Go.Eng.S

namespace Go.Eng.S
open Go Go.Eng Go.Proofs
noncomputable section
end
end Go.Eng.S

namespace Go.Eng.S
open Go Go.Eng Go.Proofs
noncomputable section
end
end Go.Eng.S

namespace Go.Eng.S
open Go Go.Eng Go.Proofs
set_option linter.constructorNameAsVariable false
noncomputable section
attribute [local irreducible] bsel barsOf mergeB
theorem RngB.none : RngB [] := fun p hp => by simp at hp
end
end Go.Eng.S

