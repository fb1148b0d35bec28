/-
  The abstract interpreter: a closed call that the interpreter brings to 'true' comes to true in every world.
-/
import Derived.Test.YthjagnpghdcbcaaGreatDoorEng30to33
import Derived.ChangeSame
namespace Go.Eng
noncomputable section
variable {P : Program} {D : Tab}
structure Kept (W w' : World) : Prop where
 os : w'.os = W.os
 out : w'.output = W.output
 size : W.heap.size ≤ w'.heap.size
 keep : ∀ r, r < W.heap.size → w'.heap[r]? = W.heap[r]?
 tape : w'.tape = W.tape
 dr : W.drawn ≤ w'.drawn
theorem Kept.frame {W w' : World} (h : Kept W w') (may : MemPlace → Prop) : W.keptBut w' may := by
 refine ⟨h.os, h.out, fun i hi => ?_⟩
 rw [h.keep i hi]
 split
 ·rename_i h1 h2
  rw [h1] at h2
  simp at h2
  obtain ⟨rfl, rfl, rfl⟩ := h2
  exact ⟨rfl, rfl, rfl, fun _ _ => rfl⟩
 ·rename_i h1 h2
  rw [h1] at h2
  simp at h2
  obtain ⟨rfl, rfl⟩ := h2
  exact .inr ⟨rfl, rfl⟩
 ·rfl
theorem Kept.frozen {W w' : World} (h : Kept W w') {a : Addr} (ha : a.block < W.heap.size) : w'.frozen? a = W.frozen? a := by
 unfold World.frozen?
 rw [h.keep a.block ha]
def env0 : Env := { int := fun _ => 0, arr := fun _ _ => 0, ft := fun _ _ _ _ _ => 0, fa := fun _ _ _ _ _ _ => 0, fp := fun _ _ _ _ _ => false }
def phi0 : Phi := { blk := fun g => if g < GG then some (g, 0) else none, cap := fun _ => none, sym := fun _ => none, env := env0 }
def st0 : St := { h := .nil, nx := GB, nc := 0, fs := [] }
theorem rel0 (w : World) : Rel phi0 st0 w where
 obj := fun b o h => by simp [st0] at h
 inj := fun b b' r sh sh' h => by simp [st0] at h
 fresh := fun b h => by
  have : ¬ b < GG := by simp [st0, GB] at h; simp [GG]; omega
  simp [phi0, this]
 freshc := fun _ _ => rfl
 glob := fun g h => by simp [phi0, h]
 gnx := Nat.le_refl _
 facts := fun f h => by simp [st0] at h
def allTrue : List (AV × St) → Bool
 | [] => true
 | (.bool true, _) :: r => allTrue r
 | _ => false
theorem allTrue_mem : ∀ {l : List (AV × St)}, allTrue l = true → ∀ v s, (v, s) ∈ l → v = .bool true
 | [], _, v, s, h => by simp at h
 | (v0, s0) :: r, h, v, s, hm => by
  unfold allTrue at h
  split at h
  ·rename_i h1; simp at h1
  ·rename_i h1
   simp at h1
   obtain ⟨⟨rfl, rfl⟩, rfl⟩ := h1
   rcases List.mem_cons.1 hm with hm | hm
   ·simp at hm; exact hm.1
   ·exact allTrue_mem h v s hm
  ·simp at h
def closed (D : Tab) (fuel : Nat) (g : FuncId) : Bool :=
 match callF D (run D merge fuel) merge g [] st0 with
 | some l => allTrue l
 | none => false
theorem closed_ok (hD : TabOk P D) (hmix : P.follows .mixedOrders = true) {fuel : Nat} {g : FuncId} (h : closed D fuel g = true) (w : World) : Calls P g #[] w fun e w' => e = .returned (.bool true) ∧ Kept w w' := by
 unfold closed at h
 split at h
 ·rename_i l hl
  intro cs
  obtain ⟨v, s', m, φ', u, w', fr, q1, q2, q3, q4, q5, q6⟩ := callF_ok hD (run_ok hD hmix merge_ok fuel) merge_ok g [] st0 l hl phi0 [] w cs (rel0 w) .nil
  have := allTrue_mem h v s' m
  subst this
  cases q3
  exact ⟨.returned (.bool true), w', fr, ⟨rfl, q1.os, q1.out, q1.size, fun r hr => q1.keep r hr fun b sh hb => by simp [st0, ownB] at hb, q1.tape, q1.dr⟩, q4, q5, q6⟩
 ·simp at h
section
open Go.WideShapes Go.ChangeShapes
variable {H : Type} {enc : TypeId × Value → H}
theorem post_of_kept {f : Func} {s : ChangeSpec} {apart fresh handsOn again : Bool} {W W' : World} {args : Array Value} {v : Value} {ds gs : List (DataW H)} {before pa pv : List MemPlace}
  (hW : DataW.Whole enc P f.params.toList s.vars apart W args.toList ds gs before)
  (hres : ∀ (b : Nat) (sp : Nat → Bool) (hd : Bool), DataW.TrodAll enc P W' b sp hd f.resultTypes.toList (v.resultList f.resultTypes.size) (s.fn H (ds ++ gs)).results [])
  (hargs : ∀ sp : Nat → Bool, (∀ p ∈ before, sp p.block = true) → DataW.TrodAll enc P W' 0 sp true f.params.toList args.toList (s.fn H (ds ++ gs)).args pa)
  (hvars : ∀ sp : Nat → Bool, (∀ p ∈ before, sp p.block = true) → DataW.TrodVars enc P W' sp s.vars (s.fn H (ds ++ gs)).vars pv)
  (hps : before = pa ++ pv) (hk : Kept W W')
  (hok : ∀ (j : Nat) (t : TypeId) (r : Value), f.resultTypes[j]? = some t → (v.resultList f.resultTypes.size)[j]? = some r → Value.okWide P W' .any 0 t r) :
  s.post enc P f apart fresh handsOn again W args v W' := by
 have hold : ∀ p ∈ before, (fun b => decide (b < W.heap.size)) p.block = true := fun p hp => by simpa using hW.lt p hp
 refine ⟨ds, gs, before, [], pa, pv, hW, hres _ _ _, hargs _ hold, hvars _ hold, World.keptBut_mono (fun p hp => ⟨hp, ?_⟩) (hk.frame (· ∈ before)), fun _ => ?_⟩
 ·rw [hps, List.mem_append] at hp
  exact Or.inr hp
 ·have hlt := hW.lt
  obtain ⟨_, _, _, _, _, hz, hn⟩ := hW
  refine ⟨hok, _, _, ([] ++ pa) ++ pv, ⟨[] ++ pa, pv, trodAll_append (hargs _ (fun _ _ => rfl)) (hres _ _ _), hvars _ (fun _ _ => rfl), rfl, ?_, ?_⟩, ?_⟩
  ·intro b off hp
   have hp' : (.cell b off : MemPlace) ∈ before := by rw [hps]; simpa using hp
   rw [hk.frozen (hlt _ hp')]
   exact hz b off hp'
  ·intro ha
   have := hn ha
   rw [hps] at this
   simpa using this
  ·intro p hp _
   rw [hps]
   simpa using hp
end
end
end Go.Eng

