/-
  The abstract interpreter: calls with arguments as a row hands them in, whatever they hold.
-/
import Derived.Test.YthjagnpghdcbcaaGreatDoorEng35to37
import Derived.WideShapes
import Derived.Carry
namespace Go.Eng
open Go Go.WideShapes Go.ChangeShapes Go.RowKit
variable {P : Program} {w : World} {r : Reach} {base : Nat}
theorem Kept.below {W W' : World} (h : Kept W W') : Below W.heap.size W W' := ⟨h.os, h.tape, h.out, h.size, h.keep⟩
def noBool (P : Program) : List TypeId → Bool
 | [] => true
 | u :: r => (match P.underlying u with | some .bool => false | _ => true) && noBool P r
def intOf' (us : List Value) (i : Nat) : Int :=
 match us[i]? with
 | some (.int _ n) => n
 | _ => 0
noncomputable def envOf (us : List Value) : Env := { env0 with int := intOf' us }
section
variable {H : Type} {enc : TypeId × Value → H}
theorem kept_all (hl : laidOutB P = true) {W W' : World} (hk : Kept W W') : ∀ {ts : List TypeId} {vs : List Value} {ds : List (DataW H)} {ps : List MemPlace}, (∀ t, t ∈ ts → P.readableRec t = true ∧ t < P.types.size) →
  DataW.TrodAll enc P W 0 (fun _ => true) true ts vs ds ps → (∀ p ∈ ps, p.block < W.heap.size) → ∀ sp : Nat → Bool, (∀ p ∈ ps, sp p.block = true) → DataW.TrodAll enc P W' 0 sp true ts vs ds ps
 | [], [], [], ps, _, h, _, _, _ => h
 | t :: ts, v :: vs, d :: ds, ps, hr, h, hlt, sp, hs => by
  obtain ⟨p, q, h1, h2, rfl⟩ := h
  refine ⟨p, q, ?_, kept_all hl hk (fun u hu => hr u (List.mem_cons_of_mem _ hu)) h2 (fun x hx => hlt x (List.mem_append.2 (.inr hx))) sp (fun x hx => hs x (List.mem_append.2 (.inr hx))), rfl⟩
  exact WideElems.Trod_stays hl (hr t (List.mem_cons_self ..)).1 (hr t (List.mem_cons_self ..)).2 h1 (fun x hx => hk.below.same (hlt x (List.mem_append.2 (.inl hx)))) (fun x hx => hs x (List.mem_append.2 (.inl hx)))
 | [], _ :: _, _, _, _, h, _, _, _ => by simp [DataW.TrodAll] at h
 | [], [], _ :: _, _, _, h, _, _, _ => by simp [DataW.TrodAll] at h
 | _ :: _, [], _, _, _, h, _, _, _ => by simp [DataW.TrodAll] at h
 | _ :: _, _ :: _, [], _, _, h, _, _, _ => by simp [DataW.TrodAll] at h
end
end Go.Eng

