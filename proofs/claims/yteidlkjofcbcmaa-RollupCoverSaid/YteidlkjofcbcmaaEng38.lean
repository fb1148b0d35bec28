/-
  The abstract interpreter: calls with arguments as a row hands them in, whatever they hold.
-/
import Derived.Test.YteidlkjofcbcmaaEng35to37
import Derived.WideShapes
import Derived.Carry
namespace Go.Eng
open Go Go.WideShapes Go.ChangeShapes Go.RowKit
variable {P : Program} {w : World} {r : Reach} {base : Nat}

theorem Kept.below {W W' : World} (h : Kept W W') : Below W.heap.size W W' := ⟨h.os, h.tape, h.out, h.size, h.keep⟩

/-- A cell of a type other than bool. -/
theorem plain_of_cell {u : TypeId} {v : Value} (h : Cell.okWide P w r base u v) (hb : P.underlying u ≠ some .bool) : plainV v = true := by
  cases v with
  | agg cs =>
    cases hu : P.underlying u with
    | none => simp [Cell.okWide, Cell.ok, hu] at h
    | some d => cases d <;> simp [Cell.okWide, Cell.ok, hu] at h
  | tuple cs =>
    cases hu : P.underlying u with
    | none => simp [Cell.okWide, Cell.ok, hu] at h
    | some d => cases d <;> simp [Cell.okWide, Cell.ok, hu] at h
  | bool b =>
    cases hu : P.underlying u with
    | none => simp [Cell.okWide, Cell.ok, hu] at h
    | some d => cases d <;> first | (exact absurd hu hb) | simp [Cell.okWide, Cell.ok, hu] at h
  | _ => rfl

def noBool (P : Program) : List TypeId → Bool
  | [] => true
  | u :: r => (match P.underlying u with | some .bool => false | _ => true) && noBool P r

theorem noBool_mem : ∀ {l : List TypeId}, noBool P l = true → ∀ u, u ∈ l → P.underlying u ≠ some .bool
  | [], _, u, h => by simp at h
  | x :: l, h, u, hu => by
    simp only [noBool, Bool.and_eq_true] at h
    rcases List.mem_cons.1 hu with rfl | hu
    · intro e; rw [e] at h; simp at h
    · exact noBool_mem h.2 u hu

/-- A struct: its cells, each of them one. -/
theorem struct_plain {t : TypeId} {fs : Array Field} {ts : List TypeId} (ht : P.underlying t = some (.struct fs)) (hts : P.cellTypes P.depth t = some ts) (hnb : noBool P ts = true) {v : Value} (h : Value.okWide P w r base t v) :
    ∃ cs : List Value, v = .agg cs.toArray ∧ cs.length = P.cellsOf t ∧ ∀ (j : Nat) c, cs[j]? = some c → plainV c = true := by
  simp only [Value.okWide, ht] at h
  obtain ⟨cs, rfl, h2, ts', h3, _, h4⟩ := h
  rw [hts] at h3
  simp at h3
  subst h3
  refine ⟨cs.toList, by simp, by simpa using h2, fun j c hc => ?_⟩
  obtain ⟨u, h5, h6⟩ := h4 j c (by simpa using hc)
  exact plain_of_cell h6 (noBool_mem hnb u (List.mem_of_getElem? h5))

/-- A struct of numbers. -/
theorem struct_ints {t : TypeId} {fs : Array Field} {ts : List TypeId} {k : IntKind} (ht : P.underlying t = some (.struct fs)) (hts : P.cellTypes P.depth t = some ts) (hnb : ∀ u, u ∈ ts → P.underlying u = some (.int k)) {v : Value} (h : Value.okWide P w r base t v) :
    ∃ cs : List Value, v = .agg cs.toArray ∧ cs.length = P.cellsOf t ∧ ∀ (j : Nat) c, cs[j]? = some c → ∃ n, c = .int k n := by
  simp only [Value.okWide, ht] at h
  obtain ⟨cs, rfl, h2, ts', h3, _, h4⟩ := h
  rw [hts] at h3
  simp at h3
  subst h3
  refine ⟨cs.toList, by simp, by simpa using h2, fun j c hc => ?_⟩
  obtain ⟨u, h5, h6⟩ := h4 j c (by simpa using hc)
  have hu := hnb u (List.mem_of_getElem? h5)
  cases c <;> simp [Cell.okWide, Cell.ok, hu] at h6
  rw [h6.1]
  exact ⟨_, rfl⟩

/-- A value of one cell. -/
theorem one_plain {t : TypeId} {d : TypeDesc} (ht : P.underlying t = some d) (hd : match d with | .struct _ | .array _ _ | .bool => false | _ => true) {v : Value} (h : Value.okWide P w r base t v) : plainV v = true := by
  have h' : Cell.okWide P w r base t v := by
    unfold Value.okWide at h
    rw [ht] at h
    cases d <;> first | exact h | simp at hd
  refine plain_of_cell h' ?_
  rw [ht]
  cases d <;> simp at hd ⊢

theorem agg_syms {vs us : List Value} {env : Env} (i n : Nat) (hn : us.length = n) (h : ∀ (j : Nat) v, us[j]? = some v → vs[i + j]? = some v ∧ plainV v = true) : VR (phiS vs env) (.agg (symsFrom i n)) (.agg us.toArray) := by
  subst hn
  exact .agg (symsFrom_ok us i h)

def intsFrom (k : IntKind) : Nat → Nat → List AV
  | _, 0 => []
  | i, n + 1 => .tm k (.v i) :: intsFrom k (i + 1) n

def intOf' (us : List Value) (i : Nat) : Int :=
  match us[i]? with
  | some (.int _ n) => n
  | _ => 0
noncomputable def envOf (us : List Value) : Env := { env0 with int := intOf' us }

theorem intsFrom_ok {vs ws : List Value} {k : IntKind} : ∀ (us : List Value) (i : Nat), (∀ (j : Nat) v, us[j]? = some v → ws[i + j]? = some v ∧ ∃ n, v = .int k n) → VRs (phiS vs (envOf ws)) (intsFrom k i us.length) us
  | [], _, _ => .nil
  | u :: us, i, h => by
    obtain ⟨h1, n, rfl⟩ := h 0 u rfl
    refine .cons (.tm k _ ?_) (intsFrom_ok us (i + 1) fun j v hj => ?_)
    · show intOf' ws i = n
      simp at h1
      simp [intOf', h1]
    · have := h (j + 1) v (by simpa using hj)
      rwa [show i + (j + 1) = i + 1 + j by omega] at this

theorem agg_ints {vs us : List Value} {k : IntKind} (n : Nat) (hn : us.length = n) (h : ∀ (j : Nat) v, us[j]? = some v → ∃ n, v = .int k n) : VR (phiS vs (envOf us)) (.agg (intsFrom k 0 n)) (.agg us.toArray) := by
  subst hn
  exact .agg (intsFrom_ok us 0 fun j v hj => ⟨by simpa using hj, h j v hj⟩)

section
variable {H : Type} {enc : TypeId × Value → H}
/-- What was handed in reads as it did. -/
theorem kept_all (hl : laidOutB P = true) {W W' : World} (hk : Kept W W') : ∀ {ts : List TypeId} {vs : List Value} {ds : List (DataW H)} {ps : List MemPlace}, (∀ t, t ∈ ts → P.readableRec t = true ∧ t < P.types.size) →
    DataW.TrodAll enc P W 0 (fun _ => true) true ts vs ds ps → (∀ p ∈ ps, p.block < W.heap.size) → ∀ sp : Nat → Bool, (∀ p ∈ ps, sp p.block = true) → DataW.TrodAll enc P W' 0 sp true ts vs ds ps
  | [], [], [], ps, _, h, _, _, _ => h
  | t :: ts, v :: vs, d :: ds, ps, hr, h, hlt, sp, hs => by
    obtain ⟨p, q, h1, h2, rfl⟩ := h
    refine ⟨p, q, ?_, kept_all hl hk (fun u hu => hr u (List.mem_cons_of_mem _ hu)) h2 (fun x hx => hlt x (List.mem_append.2 (.inr hx))) sp (fun x hx => hs x (List.mem_append.2 (.inr hx))), rfl⟩
    exact WideElems.Trod_stays hl (hr t (List.mem_cons_self ..)).1 (hr t (List.mem_cons_self ..)).2 h1 (fun x hx => hk.below.same (hlt x (List.mem_append.2 (.inl hx)))) (fun x hx => hs x (List.mem_append.2 (.inl hx)))
  | [], _ :: _, _, _, _, h, _, _, _ => by simp [DataW.TrodAll] at h
  | [], [], _ :: _, _, _, h, _, _, _ => by simp [DataW.TrodAll] at h
  | _ :: _, [], _, _, _, h, _, _, _ => by simp [DataW.TrodAll] at h
  | _ :: _, _ :: _, [], _, _, h, _, _, _ => by simp [DataW.TrodAll] at h
end

end Go.Eng

