/-
  The abstract interpreter: a closed call that the interpreter brings to 'true' comes to true in every world.
-/
import Derived.Test.YtnhlppginnojfaaDoorEng30to33
import Derived.ChangeSame
set_option linter.unusedVariables false
set_option linter.unusedSimpArgs false
namespace Go.Eng
noncomputable section
variable {P : Program} {D : Tab}
structure Kept (W w' : World) : Prop where
 os : w'.os = W.os
 out : w'.output = W.output
 size : W.heap.size ≤ w'.heap.size
 keep : ∀ r, r < W.heap.size → w'.heap[r]? = W.heap[r]?
 tape : w'.tape = W.tape
 dr : W.drawn ≤ w'.drawn
def env0 : Env := { int := fun _ => 0, arr := fun _ _ => 0, ft := fun _ _ _ _ _ => 0, fa := fun _ _ _ _ _ _ => 0, fp := fun _ _ _ _ _ => false }
theorem tight0 : ¬ Loose env0 := fun h => by
 have h : false = true := h
 simp at h
def phi0 : Phi := { blk := fun g => if g < GG then some (g, 0) else none, cap := fun _ => none, sym := fun _ => none, env := env0 }
def st0 : St := { h := .nil, nx := GB, nc := 0, fs := [] }
theorem rel0 (w : World) : Rel phi0 st0 w where
 obj := fun b o h => by simp [st0] at h
 inj := fun b b' r sh sh' h => by simp [st0] at h
 fresh := fun b h => by
  have : ¬ b < GG := by simp [st0, GB] at h; simp [GG]; omega
  simp [phi0, this]
 freshc := fun _ _ => rfl
 glob := fun g h => by simp [phi0, h]
 gnx := Nat.le_refl _
 facts := fun f h => by simp [st0] at h
def allTrue : List (AV × St) → Bool
 | [] => true
 | (.bool true, _) :: r => allTrue r
 | _ => false
theorem allTrue_mem : ∀ {l : List (AV × St)}, allTrue l = true → ∀ v s, (v, s) ∈ l → v = .bool true
 | [], _, v, s, h => by simp at h
 | (v0, s0) :: r, h, v, s, hm => by
  unfold allTrue at h
  split at h
  ·rename_i h1; simp at h1
  ·rename_i h1
   simp at h1
   obtain ⟨⟨rfl, rfl⟩, rfl⟩ := h1
   rcases List.mem_cons.1 hm with hm | hm
   ·simp at hm; exact hm.1
   ·exact allTrue_mem h v s hm
  ·simp at h
def closed (D : Tab) (fuel : Nat) (g : FuncId) : Bool :=
 match callF D (run D merge fuel) merge g [] st0 with
 | some l => allTrue l
 | none => false
theorem closed_ok (hD : TabOk P D) (hmix : P.follows .mixedOrders = true) {fuel : Nat} {g : FuncId} (h : closed D fuel g = true) (w : World) : Calls P g #[] w fun e w' => e = .returned (.bool true) ∧ Kept w w' := by
 unfold closed at h
 split at h
 ·rename_i l hl
  intro cs
  obtain ⟨v, s', m, φ', u, w', fr, q1, q2, q3, q4, q5, q6⟩ := callF_ok hD (run_ok hD hmix merge_ok fuel) merge_ok g [] st0 l hl phi0 [] w cs (rel0 w) .nil
  have := allTrue_mem h v s' m
  subst this
  cases q3
  exact ⟨.returned (.bool true), w', fr, ⟨rfl, q1.os, q1.out, q1.size, fun r hr => q1.keep r hr fun b sh hb => by simp [st0, ownB] at hb, q1.tape, q1.dr tight0⟩, q4, q5, q6⟩
 ·simp at h
theorem tabOk_nil (P : Program) : TabOk P (Tab.mk' P []) := TabOk.mk' fun f e h => by simp [lookN] at h
section
open Go.WideShapes Go.ChangeShapes
variable {H : Type} {enc : TypeId × Value → H}
end
end
end Go.Eng

