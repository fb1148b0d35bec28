/-
  The abstract interpreter, its soundness: an operation, whole.
  The abstract interpreter, its soundness: what an operation does.
-/
import Derived.Test.YtnhlppginnojfaaDoorEng15to19
set_option linter.unusedVariables false
set_option linter.unusedSimpArgs false
namespace Go.Eng
variable {P : Program} {D : Tab} {φ : Phi} {s : St} {w : World} {T : PT AV} {ρ : Operand → Value}
theorem aeqs_sym {h : PT AObj} {i : Nat} {b : AV} : ∀ (d : Nat) (fs : List (TypeId × Nat × Bool)), aeqs D h d fs (.sym i) b = none ∧ aeqs D h d fs b (.sym i) = none
 | 0, _ => by simp [aeqs]
 | d + 1, [] => by cases b <;> simp [aeqs]
 | d + 1, (t, off, named) :: r => by
  have ih := aeqs_sym (h := h) (i := i) (b := b) d r
  cases named with
  | false => simpa [aeqs] using ih
  | true =>
   simp only [aeqs]
   constructor
   ·split
    ·rfl
    ·simp [fieldOf]
   ·split
    ·rfl
    ·rename_i ti _
     cases fieldOf ti b off <;> simp [fieldOf]
theorem aeq_nosym {h : PT AObj} {t : TypeId} {a b : AV} {r : Bool} (hq : aeq D h depth t a b = some r) : (∀ i, a ≠ .sym i) ∧ (∀ i, b ≠ .sym i) := by
 have hd : depth = 199 + 1 := rfl
 rw [hd] at hq
 simp only [aeq] at hq
 split at hq
 ·simp at hq
 ·rename_i ti hti
  constructor
  ·rintro i rfl
   split at hq
   all_goals first | (simp [eqBool, eqInt, eqStr, eqPtr, eqIface, eqSlice, eqMap, eqFunc] at hq; done) | skip
   split at hq
   ·simp at hq
   ·rw [(aeqs_sym _ _).1] at hq; simp at hq
  ·rintro i rfl
   split at hq
   all_goals first | (simp [eqBool, eqInt, eqStr, eqPtr, eqIface, eqSlice, eqMap, eqFunc] at hq; done) | skip
   split at hq
   ·simp at hq
   ·rw [(aeqs_sym _ _).2] at hq; simp at hq
section
variable (hD : TabOk P D)
include hD
theorem aeq_equal (hr : Rel φ s w) {t : TypeId} {a b : AV} {r : Bool} {x y : Value} (h : aeq D s.h depth t a b = some r) (hx : VR φ a x) (hy : VR φ b y) : (Op.equal t x y).run P w = .ok r w := by
 have := (aeq_ok hD hr depth).1 t a b r x y 10000 h hx hy (by unfold depth; omega)
 exact this
theorem eqGuard_ok {op : BinOp} {t : TypeId} {x y : Operand} {a b : AV} {r : Bool} {u v : Value} (hn : nilIfs x y a b = false) (h : aeq D s.h depth t a b = some r) (hu : VR φ a u) (hv : VR φ b v) : (eqGuard op t x y u v).run P w = .ok () w := by
 obtain ⟨hsa, hsb⟩ := aeq_nosym h
 by_cases hag : ∃ xs ys, u = .agg xs ∧ v = .agg ys
 ·obtain ⟨xs, ys, rfl, rfl⟩ := hag
  have hm : P.eqGuardType P.depth t = false := by
   have hd : depth = 199 + 1 := rfl
   rw [hd] at h
   simp only [aeq] at h
   split at h
   ·simp at h
   ·rename_i i hi
    obtain ⟨ti, dd, g1, g2, g3, _, _, _, g4⟩ := tyOf_spec (hD.ty t i hi)
    rw [g3] at h
    cases hu with
    | sym => exact absurd rfl (hsa _)
    | agg =>
    cases hv with
    | sym => exact absurd rfl (hsb _)
    | agg =>
    cases dd <;> simp only [tdOf] at h <;> first | (simp [eqBool, eqInt, eqStr, eqPtr, eqIface, eqSlice, eqMap, eqFunc] at h; done) | skip
    rename_i fs
    split at h
    ·simp at h
    ·rename_i hh
     exact (g4 (by simpa using hh) fs rfl).2
  exact run_eqGuard_agg w op t x y xs ys hm
 ·by_cases hni : u = .nilIface ∧ v = .nilIface
  ·obtain ⟨rfl, rfl⟩ := hni
   cases hu with
   | sym => exact absurd rfl (hsa _)
   | nilIface =>
   cases hv with
   | sym => exact absurd rfl (hsb _)
   | nilIface =>
   simp only [nilIfs, Bool.not_eq_false', Bool.or_eq_true] at hn
   unfold eqGuard
   cases x <;> cases y <;> simp [isC] at hn <;> cases op <;> simp
  ·unfold eqGuard
   cases hu <;> first | (exact absurd rfl (hsa _)) | skip
   all_goals cases hv <;> first | (exact absurd rfl (hsb _)) | (exact absurd ⟨rfl, rfl⟩ hni) | (exact absurd ⟨_, _, rfl, rfl⟩ hag) | (cases op <;> simp)
theorem eqA_ok (hr : Rel φ s w) {op : BinOp} {t : TypeId} {x y : Operand} {a b v : AV} {u z : Value} (hu : VR φ a u) (hv : VR φ b z) (hna : ∀ k n, a ≠ .int k n) (hns : ∀ q, a ≠ .str q) (hnt : ∀ k t, a ≠ .tm k t) (h : eqA D s op t x y a b = some v) :
  ∃ r, VR φ v r ∧ (do eqGuard op t x y u z; binOp op t u z : Sem Value).run P w = .ok r w := by
 unfold eqA at h
 split at h
 ·rename_i yes hop
  split at h
  ·simp at h
  ·rename_i hn
   split at h
   ·rename_i r hq
    simp at h; subst h
    obtain ⟨hsa, hsb⟩ := aeq_nosym hq
    have hg := eqGuard_ok (P := P) (op := op) (w := w) hD hn hq hu hv
    have he := aeq_equal (P := P) hD hr hq hu hv
    unfold isEq at hop
    split at hop <;> simp at hop <;> subst hop
    ·refine ⟨.bool r, .bool _, ?_⟩
     simp only [Sem.run_bind, hg, Result.andThen_ok]
     cases hu <;> first | (exact absurd rfl (hsa _)) | skip
     all_goals cases hv <;> first | (exact absurd rfl (hsb _)) | (exact absurd rfl (hna _ _)) | (exact absurd rfl (hnt _ _)) | (exact absurd rfl (hns _)) | (simp only [binOp, Sem.run_bind, he, Result.andThen_ok, Sem.run_pure]; done)
    ·refine ⟨.bool !r, .bool _, ?_⟩
     simp only [Sem.run_bind, hg, Result.andThen_ok]
     cases hu <;> first | (exact absurd rfl (hsa _)) | skip
     all_goals cases hv <;> first | (exact absurd rfl (hsb _)) | (exact absurd rfl (hna _ _)) | (exact absurd rfl (hnt _ _)) | (exact absurd rfl (hns _)) | (simp only [binOp, Sem.run_bind, he, Result.andThen_ok, Sem.run_pure]; done)
   ·simp at h
 ·simp at h
omit hD in
theorem eqGuard_plain {op : BinOp} {t : TypeId} {x y : Operand} {u v : Value} (h1 : u ≠ .nilIface) (h2 : ∀ xs, u ≠ .agg xs) : (eqGuard op t x y u v).run P w = .ok () w := by
 unfold eqGuard
 cases u <;> first | (exact absurd rfl h1) | (exact absurd rfl (h2 _)) | (cases op <;> simp)
omit hD in
theorem tmOf_ok {a : AV} {u : Value} {k : IntKind} {t : Tm} (hu : VR φ a u) (h : tmOf a = some (k, t)) : u = .int k (t.ev φ.env) := by
 unfold tmOf at h
 split at h
 ·simp at h; obtain ⟨rfl, rfl⟩ := h; cases hu; rfl
 ·simp at h; obtain ⟨rfl, rfl⟩ := h
  cases hu with
  | tm _ _ ht => rw [ht]
 ·simp at h
omit hD in
theorem symA_ok (hr : Rel φ s w) {op : BinOp} {t : TypeId} {x y : Operand} {a b v : AV} {u z : Value} (hu : VR φ a u) (hv : VR φ b z) (h : symA s op a b = some v) :
  ∃ r, VR φ v r ∧ (do eqGuard op t x y u z; binOp op t u z : Sem Value).run P w = .ok r w := by
 unfold symA at h
 split at h
 ·rename_i k p k' q hp hq
  have e1 := tmOf_ok hu hp
  have e2 := tmOf_ok hv hq
  subst e1; subst e2
  split at h
  ·rename_i hk
   subst hk
   have hg := eqGuard_plain (P := P) (w := w) (op := op) (t := t) (x := x) (y := y) (u := .int k (p.ev φ.env)) (v := .int k (q.ev φ.env)) (by simp) (by simp)
   have hns : ∀ v', bin op k (p.ev φ.env) (q.ev φ.env) = some v' → ∃ r, VR φ v' r ∧ (do eqGuard op t x y (.int k (p.ev φ.env)) (.int k (q.ev φ.env)); binOp op t (.int k (p.ev φ.env)) (.int k (q.ev φ.env)) : Sem Value).run P w = .ok r w := by
    intro v' hb
    obtain ⟨r, h1, h2⟩ := bin_ok (P := P) (φ := φ) (w := w) t hb (fun q' => by
     by_cases hq : op = q'
     ·subst hq
      right
      constructor <;> (rintro rfl; simp [bin] at hb)
     ·exact .inl hq)
    exact ⟨r, h1, by simp only [Sem.run_bind, hg, Result.andThen_ok]; exact h2⟩
   split at h
   ·split at h
    ·rename_i r hc
     simp at h; subst h
     exact hns _ (cmpT_ok hr.facts hc)
    ·simp at h
   ·split at h
    ·rename_i ha
     simp at h; subst h
     obtain ⟨r, h1, h2⟩ := hns _ (arith_ok ha k _ _)
     cases h1
     exact ⟨_, .tm k _ (by simp only [Tm.ev]), h2⟩
    ·simp at h
  ·simp at h
 ·simp at h
theorem binB_ok (hr : Rel φ s w) {op : BinOp} {t : TypeId} {x y : Operand} {a b v : AV} {u z : Value} (hnt : ∀ k t, a ≠ .tm k t) (hu : VR φ a u) (hv : VR φ b z) (h : binB D s op t x y a b = some v) :
  ∃ r, VR φ v r ∧ (do eqGuard op t x y u z; binOp op t u z : Sem Value).run P w = .ok r w := by
 unfold binB at h
 split at h
 ·rename_i k n
  split at h
  ·rename_i k' m
   cases hu; cases hv
   have hg := eqGuard_plain (P := P) (w := w) (op := op) (t := t) (x := x) (y := y) (u := .int k n) (v := .int k' m) (by simp) (by simp)
   split at h
   ·obtain ⟨r, h1, h2⟩ := shf_ok (P := P) (φ := φ) (w := w) t h
    exact ⟨r, h1, by simp only [Sem.run_bind, hg, Result.andThen_ok]; exact h2⟩
   ·rename_i hsh
    split at h
    ·rename_i hk
     subst hk
     obtain ⟨r, h1, h2⟩ := bin_ok (P := P) (φ := φ) (w := w) t h (fun q => by
      by_cases hq : op = q
      ·subst hq
       right
       constructor <;> (rintro rfl; simp [isSh] at hsh)
      ·exact .inl hq)
     exact ⟨r, h1, by simp only [Sem.run_bind, hg, Result.andThen_ok]; exact h2⟩
    ·simp at h
  ·simp at h
 ·rename_i p
  split at h
  ·rename_i q
   cases hu; cases hv
   have hg := eqGuard_plain (P := P) (w := w) (op := op) (t := t) (x := x) (y := y) (u := .string p) (v := .string q) (by simp) (by simp)
   obtain ⟨r, h1, h2⟩ := sbin_ok (P := P) (φ := φ) (w := w) t h
   exact ⟨r, h1, by simp only [Sem.run_bind, hg, Result.andThen_ok]; exact h2⟩
  ·simp at h
 ·rename_i h1 h2
  exact eqA_ok hD hr hu hv (fun k n e => h1 k n e) (fun q e => h2 q e) hnt h
theorem binA_ok (hr : Rel φ s w) {op : BinOp} {t : TypeId} {x y : Operand} {a b v : AV} {u z : Value} (hu : VR φ a u) (hv : VR φ b z) (h : binA D s op t x y a b = some v) :
  ∃ r, VR φ v r ∧ (do eqGuard op t x y u z; binOp op t u z : Sem Value).run P w = .ok r w := by
 unfold binA at h
 split at h
 ·exact symA_ok hr hu hv h
 ·rename_i hn
  refine binB_ok hD hr (fun k t e => ?_) hu hv h
  subst e
  simp [isTm] at hn
theorem fnOf_call {f : FuncId} {fi : FnI} (h : D.fn.get f = some fi) : ∃ fn c, P.funcs[f]? = some fn ∧ fn.body = some c ∧ fi.nt = fn.ntmps ∧ fi.body = c ∧ fi.results = fn.results.toList ∧ ∀ args w, (callFunc f args).run P w = .ok (.enter f args) w := by
 have := hD.fn f fi h
 unfold fnOf at this
 split at this
 ·rename_i fn hfn
  split at this
  ·rename_i c hname hb
   simp at this
   subst this
   refine ⟨fn, c, hfn, hb, rfl, rfl, rfl, fun args w => ?_⟩
   simp only [callFunc, Sem.run_bind, run_program, Result.andThen_ok, hfn, hname, hb, Bool.false_eq_true, if_false]
   rfl
  ·simp at this
 ·simp at this
theorem symLoad_ok (hr : Rel φ s w) {t : TypeId} {a v : AV} {av : Value} {p : RowP} (hx : VR φ a av) (hp : rowAt s.h a = some p) (h : symLoad D s.fs t p = some v) :
  ∃ u, VR φ v u ∧ (Instr.loadAt t av).run P w = .ok u w := by
 obtain ⟨hb, r, sh, m, h1, h2, rfl⟩ := rowAt_ok hx hp
 obtain ⟨ro, h3, h4⟩ := hr.row hb h1
 obtain ⟨N, hN, h0, h5⟩ := h4.as_cells
 obtain ⟨hs1, _⟩ := hr.swap hb h1 h3 h5
 unfold symLoad at h
 split at h
 ·simp at h
 ·rename_i i hi
  split at h
  ·rename_i l hin hsz0 hl
   have hsz0 := blt_true hsz0
   obtain ⟨_, q2⟩ := inR_ok hr hin
   have hmN : m < N := by rw [h2, hN] at q2; omega
   obtain ⟨g1, l', g2, g3, g4, g5⟩ := selsFrom_ok (N := N) h2 hmN i.size p.o l hl
   have hvr : ∀ us, VRs φ l' us → VRs φ l us := fun us => VRs.as_tms (by rw [g3, g4]) (fun j hj => by
    obtain ⟨kd, n, e1, e2, e3⟩ := g5 j (by rw [← g4]; exact hj)
    exact ⟨kd, _, n, e1, e2, e3⟩)
   have hle : m * p.ks.length + p.o + i.size ≤ N * p.ks.length ∨ i.size = 0 := by
    by_cases e0 : i.size = 0
    ·exact .inr e0
    ·left
     rw [if_neg e0] at g1
     have : (m + 1) * p.ks.length ≤ N * p.ks.length := Nat.mul_le_mul_right _ hmN
     rw [Nat.add_mul, Nat.one_mul] at this
     omega
   have hgb : (s.h.set p.b (.cells (PT.setAll .nil 0 (rowCells φ.env p.ks p.A N)) (N * p.ks.length) p.tl)).get p.b = some (.cells (PT.setAll .nil 0 (rowCells φ.env p.ks p.A N)) (N * p.ks.length) p.tl) := by simp
   have hagg : ∀ hsz : i.size ≠ 0 ∨ m * p.ks.length + p.o ≤ N * p.ks.length, (i.d.isAgg = true) → ∃ u, VR φ (.agg l) u ∧ (Instr.loadAt t (.pointer (some ⟨r, sh + (m * p.ks.length + p.o), none⟩))).run P w = .ok u w := by
    intro hsz hd
    have hle' : m * p.ks.length + p.o + i.size ≤ N * p.ks.length := by rcases hle with h | h <;> omega
    have hload : loadA D { s with h := s.h.set p.b (.cells (PT.setAll .nil 0 (rowCells φ.env p.ks p.A N)) (N * p.ks.length) p.tl) } t (.ptr p.b (m * p.ks.length + p.o)) = some (.agg l') := by
     have hb' : Nat.ble (m * p.ks.length + p.o + i.size) (N * p.ks.length) = true := by simpa [Nat.ble_eq] using hle'
     unfold loadA
     simp only [hi, hgb]
     unfold TD.isAgg at hd
     split at hd <;> simp at hd
     ·rename_i fs hfs; simp only [hfs]; rw [if_pos hb', g2]; rfl
     ·rename_i k e hfs; simp only [hfs]; rw [if_pos hb', g2]; rfl
    obtain ⟨u, u1, u2⟩ := loadA_ok (P := P) hD hs1 (.ptr h1 _) hload
    cases u1 with
    | agg hus => exact ⟨_, .agg (hvr _ hus), u2⟩
   have hone : i.d.isAgg = false → ∀ v, l = [v] → ∃ u, VR φ v u ∧ (Instr.loadAt t (.pointer (some ⟨r, sh + (m * p.ks.length + p.o), none⟩))).run P w = .ok u w := by
    intro hd v hlv
    subst hlv
    have hsz : i.size = 1 := by simpa using g4.symm
    rw [hsz] at g2 g3 hle
    obtain ⟨x', rfl⟩ : ∃ x', l' = [x'] := by
     cases l' with
     | nil => simp at g3
     | cons x' r' => cases r' with | nil => exact ⟨x', rfl⟩ | cons => simp at g3
    have hlt : m * p.ks.length + p.o < N * p.ks.length := by rcases hle with h | h <;> omega
    have hgx : (PT.setAll .nil 0 (rowCells φ.env p.ks p.A N)).get (m * p.ks.length + p.o) = some x' := by
     simp only [PT.getAll] at g2
     split at g2
     ·simp at g2
     ·rename_i y hy; simp at g2; rw [hy, g2]
    have hload : loadA D { s with h := s.h.set p.b (.cells (PT.setAll .nil 0 (rowCells φ.env p.ks p.A N)) (N * p.ks.length) p.tl) } t (.ptr p.b (m * p.ks.length + p.o)) = some x' := by
     have hb' : Nat.blt (m * p.ks.length + p.o) (N * p.ks.length) = true := by simpa [Nat.blt_eq] using hlt
     unfold loadA
     simp only [hi, hgb]
     unfold TD.isAgg at hd
     cases hid : i.d <;> simp only [hid, Bool.true_eq_false] at hd ⊢ <;> rw [if_pos hb', hgx]
    obtain ⟨u, u1, u2⟩ := loadA_ok (P := P) hD hs1 (.ptr h1 _) hload
    have := hvr [u] (.cons u1 .nil)
    cases this with
    | cons hv _ => exact ⟨u, hv, u2⟩
   split at h
   ·rename_i fs hfs
    simp at h; subst h
    exact hagg (.inl (by omega)) (by rw [hfs]; rfl)
   ·rename_i k e hfs
    simp at h; subst h
    exact hagg (.inl (by omega)) (by rw [hfs]; rfl)
   ·rename_i hn1 hn2
    split at h
    ·rename_i x
     simp at h; subst h
     refine hone ?_ _ rfl
     unfold TD.isAgg
     split
     ·rename_i fs hfs; exact absurd hfs (hn1 fs)
     ·rename_i k e hfs; exact absurd hfs (hn2 k e)
     ·rfl
    ·simp at h
  ·simp at h
theorem symStore_ok (hr : Rel φ s w) {t : TypeId} {a v : AV} {av vv : Value} {p : RowP} {s' : St} (hx : VR φ a av) (hv : VR φ v vv) (hp : rowAt s.h a = some p) (h : symStore D s t p v = some s') :
  ∃ w', (Instr.storeAt t av vv).run P w = .ok () w' ∧ Stp φ s w φ s' w' ∧ Rel φ s' w' := by
 obtain ⟨hb, r, sh, m, h1, h2, rfl⟩ := rowAt_ok hx hp
 obtain ⟨ro, h3, h4⟩ := hr.row hb h1
 obtain ⟨N, hN, h0, h5⟩ := h4.as_cells
 obtain ⟨hs1, ht1⟩ := hr.swap hb h1 h3 h5
 unfold symStore at h
 split at h
 ·simp at h
 ·rename_i i hi
  split at h
  ·rename_i A' hsz hin hA
   simp at h; subst h
   simp only [Bool.and_eq_true] at hin
   have hsz0 := blt_true hin.1
   obtain ⟨_, q2⟩ := inR_ok hr hin.2
   have hmN : m < N := by rw [h2, hN] at q2; omega
   obtain ⟨g1, g2, g3⟩ := row_written h2 hmN hA
   by_cases hne : v.cells = []
   ·have := beq_true hsz
    rw [hne] at this
    simp at this
    omega
   ·have hgb : (s.h.set p.b (.cells (PT.setAll .nil 0 (rowCells φ.env p.ks p.A N)) (N * p.ks.length) p.tl)).get p.b = some (.cells (PT.setAll .nil 0 (rowCells φ.env p.ks p.A N)) (N * p.ks.length) p.tl) := by simp
    have hst : storeA D { s with h := s.h.set p.b (.cells (PT.setAll .nil 0 (rowCells φ.env p.ks p.A N)) (N * p.ks.length) p.tl) } t (.ptr p.b (m * p.ks.length + p.o)) v =
      some { s with h := (s.h.set p.b (.cells (PT.setAll .nil 0 (rowCells φ.env p.ks p.A N)) (N * p.ks.length) p.tl)).set p.b (.cells ((PT.setAll .nil 0 (rowCells φ.env p.ks p.A N)).setAll (m * p.ks.length + p.o) v.cells) (N * p.ks.length) p.tl) } := by
     have hb' : Nat.ble (m * p.ks.length + p.o + v.cells.length) (N * p.ks.length) = true := by simpa [Nat.ble_eq] using g2 hne
     unfold storeA
     simp only [hi, hsz, if_true]
     have hwr : wr p.tl = true := by
      unfold wr
      split
      ·rename_i k heq
       rw [heq] at h4
       exfalso
       generalize hz0 : (0 : Nat) = z0 at h4
       cases h4
       omega
      ·rfl
     unfold writeAll
     simp only [hgb, g1, hb', hwr, Bool.and_self, if_true]
    obtain ⟨w', w1, w2, w3⟩ := storeA_ok (P := P) hD hs1 (.ptr h1 _) hv hst
    have hgb2 : ((s.h.set p.b (.cells (PT.setAll .nil 0 (rowCells φ.env p.ks p.A N)) (N * p.ks.length) p.tl)).set p.b (.cells ((PT.setAll .nil 0 (rowCells φ.env p.ks p.A N)).setAll (m * p.ks.length + p.o) v.cells) (N * p.ks.length) p.tl)).get p.b = some (.cells ((PT.setAll .nil 0 (rowCells φ.env p.ks p.A N)).setAll (m * p.ks.length + p.o) v.cells) (N * p.ks.length) p.tl) := by simp
    rcases w3.obj p.b _ hgb2 with hvoid | ⟨r', sh', ro', k1, k2, k3⟩
    ·exact hvoid.elim
    ·rw [h1] at k1
     simp at k1
     obtain ⟨rfl, rfl⟩ := k1
     have htl : ∀ k z, p.tl = some (k, z) → z = p.ks.length := by
      intro k z htl
      rw [htl] at h4
      cases h4
      rfl
     obtain ⟨z1, z2⟩ := w3.swap hgb2 h1 k2 (k3.as_row (ks := p.ks) (A := A') (n := p.n) h0 hN htl g3) (by
      unfold ownB
      rw [hgb2]
      split
      ·rename_i heq
       simp at heq
       have := htl _ _ heq.2.2
       omega
      ·rfl
      ·rename_i heq; simp at heq)
     obtain ⟨y1, y2⟩ := z1.less (h' := s.h.set p.b (.arr p.ks A' p.n p.tl)) (fun c o hc => by
      simp only [PT.get_set] at hc ⊢
      by_cases e : c = p.b
      ·simpa [e] using hc
      ·simpa [e] using hc)
     exact ⟨w', w1, (((ht1.trans w2).trans z2).trans y2), y1⟩
  ·simp at h
theorem symIdx_ok (hr : Rel φ s w) {t : TypeId} {x i v : AV} {xv iv : Value} (hx : VR φ x xv) (hi : VR φ i iv) (h : symIdx D s.fs t x i = some v) : ∃ u, VR φ v u ∧ (Instr.indexAt t xv iv).run P w = .ok u w := by
 unfold symIdx at h
 split at h
 ·rename_i ti k u hti hu
  have hiv := tmOf_one hu hi
  subst hiv
  have key : ∀ {n : Tm} {N : Nat}, n.ev φ.env = (N : Int) → inR s.fs u n = true → ∃ m : Nat, u.ev φ.env = (m : Int) ∧ m < N := by
   intro n N hN hin
   obtain ⟨q1, q2⟩ := inR_ok hr hin
   refine ⟨(u.ev φ.env).toNat, by omega, by omega⟩
  split at h
  ·rename_i n e hd
   split at h
   ·rename_i ei b o hei
    split at h
    ·rename_i hin
     simp at h; subst h
     cases hx with
     | ptr hrb =>
      rename_i r sh
      obtain ⟨m, hm, hlt⟩ := key (n := .c n) (N := n) (by simp [Tm.ev]) hin
      have hsh : indexAddrA D t (.ptr b o) (.int k (u.ev φ.env)) = some (.ptr b (o + m * ei.size)) := by
       have hb : Nat.blt m n = true := by simpa [Nat.blt_eq] using hlt
       unfold indexAddrA
       simp only [hti, natOf, hm, Int.natCast_nonneg, if_true, Int.toNat_natCast, hd, hei, hb]
      obtain ⟨q, q1, q2⟩ := indexAddrA_ok (P := P) hD (.ptr hrb o) (.int k (u.ev φ.env)) hsh w
      cases q1 with
      | ptr hrb' =>
       rw [hrb] at hrb'
       simp at hrb'
       obtain ⟨rfl, rfl⟩ := hrb'
       refine ⟨_, .sptr hrb hm ei.size o, ?_⟩
       rw [q2, Nat.add_comm o]
    ·simp at h
   ·simp at h
  ·rename_i e hd
   split at h
   ·rename_i ei b len cap hei
    split at h
    ·rename_i hin
     simp at h; subst h
     cases hx with
     | ssl0 _ _ hn =>
      obtain ⟨m, hm, hlt⟩ := key (N := 0) hn hin
      omega
     | ssl hrb hn hc hle =>
      rename_i r sh N c
      obtain ⟨m, hm, hlt⟩ := key hn hin
      have hsh : indexAddrA D t (.slice b 0 N cap) (.int k (u.ev φ.env)) = some (.ptr b (0 + m * ei.size)) := by
       have hb : Nat.blt m N = true := by simpa [Nat.blt_eq] using hlt
       unfold indexAddrA
       simp only [hti, natOf, hm, Int.natCast_nonneg, if_true, Int.toNat_natCast, hd, hei, hb]
      obtain ⟨q, q1, q2⟩ := indexAddrA_ok (P := P) hD (.slice hrb hc 0 N hle) (.int k (u.ev φ.env)) hsh w
      cases q1 with
      | ptr hrb' =>
       rw [hrb] at hrb'
       simp at hrb'
       obtain ⟨rfl, rfl⟩ := hrb'
       refine ⟨_, .sptr hrb hm ei.size 0, ?_⟩
       simpa using q2
    ·simp at h
   ·simp at h
  ·simp at h
 ·simp at h
theorem symAppend_ok (hr : Rel φ s w) {sT xT ty : TypeId} {b k : Nat} {len : Tm} {y v : AV} {xv yv : Value} {s' : St} (hx : VR φ (.ssl b len (.var k 0)) xv) (hy : VR φ y yv) (h : symAppend D s sT xT b len k y = some (v, s')) :
  ∃ φ' u w', VR φ' v u ∧ (Builtin.append_ #[sT, xT] ty #[xv, yv]).run P w = .ok u w' ∧ Stp φ s w φ' s' w' ∧ Rel φ' s' w' := by
 unfold symAppend at h
 split at h
 ·rename_i i xi ks A n k' z' hi hxi hb
  split at h
  ·rename_i e hd
   split at h
   ·rename_i ei hei
    split at h
    ·rename_i z new K hz hy1 hnew hK
     split at h
     ·rename_i hcond
      simp only [Bool.and_eq_true, decide_eq_true_eq] at hcond
      obtain ⟨⟨⟨⟨⟨⟨⟨⟨c1, c2⟩, c3⟩, c4⟩, c5⟩, c6⟩, c7⟩, c8⟩, c9⟩ := hcond
      have c2' := beq_true c2
      have c3 := beq_true c3
      have c4 := beq_true c4
      have c5 := beq_true c5
      have c6 := Tm.beq_eq c6
      have c8 := ble_true c8
      have c9 := blt_true c9
      subst c3; subst c6; subst c4
      split at h
      ·rename_i A' hA
       simp only [Option.some.injEq, Prod.mk.injEq] at h
       obtain ⟨rfl, rfl⟩ := h
       have hKn := ub_ok hr.facts _ _ _ hK
       unfold pow48 at c8
       obtain ⟨m', us, b1, b2, b3, _, _⟩ := sliceCells_ok (P := P) hr hy hnew
       rw [hy1] at b1; simp at b1; subst b1
       have hnl : new.length = ei.size := by rw [b2.length, b3, Nat.one_mul]
       have hones : ones new = true := updsFrom_ones new 0 A A' hA
       have hble : ∀ N : Nat, N ≤ 1000000 → Nat.ble ((N + (0 + 1) + (N + (0 + 1)) / 4 + 600) * ei.bytes) pow48 = true ∧ Nat.ble (N + (0 + 1)) pow48 = true := by
        intro N hN
        unfold pow48
        constructor
        ·rw [Nat.ble_eq]
         exact Nat.le_trans (Nat.mul_le_mul_right ei.bytes (by omega)) c8
        ·rw [Nat.ble_eq]; omega
       cases hx with
       | ssl0 _ _ hn =>
        have hap : appendA D s sT xT .nilslice y = some (growA s s.h ei.size (0 + 1) (rowCells φ.env ks A 0 ++ new)) := by
         obtain ⟨q1, q2⟩ := hble 0 (by omega)
         unfold appendA
         simp only [hi, hxi, hd, hei, hz, c1, c2, Bool.and_self, if_true]
         have e1 : avLen .nilslice = some 0 := rfl
         have e2 : sliceCells s.h ei.size .nilslice = some [] := rfl
         unfold appendB
         simp only [e1, e2, hy1, hnew, q1, q2, Bool.and_self, if_true, appendC]
         simp [rowCells]
        obtain ⟨φ', u, w', v1, v2, v3, v4⟩ := appendA_ok (ty := ty) hD hr (.nilslice) hy hap
        obtain ⟨z1, z2, z3⟩ := grown_row (b := b) (N := 0) hn (by omega) c5 c9 hnl hA rfl rfl rfl (fun c o hc => by
         rw [PT.get_del] at hc
         split at hc
         ·simp at hc
         ·exact hc) v3.ext.env v1 v4 v3
        exact ⟨φ', u, w', z1, v2, z2, z3⟩
       | ssl hrb hn hc hle =>
        rename_i r sh N c
        have hN : N ≤ 1000000 := by rw [hn] at hKn; omega
        obtain ⟨ro, h3, h4⟩ := hr.row hb hrb
        obtain ⟨N', hN', h0, h5⟩ := h4.as_cells
        have : N' = N := by rw [hn] at hN'; omega
        subst this
        obtain ⟨hs1, ht1⟩ := hr.swap hb hrb h3 h5
        have hgb : (s.h.set b (.cells (PT.setAll .nil 0 (rowCells φ.env ks A N')) (N' * ks.length) (some (k, ei.size)))).get b = some (.cells (PT.setAll .nil 0 (rowCells φ.env ks A N')) (N' * ks.length) (some (k, ei.size))) := by simp
        have hnew1 := sliceCells_set (o' := .cells (PT.setAll .nil 0 (rowCells φ.env ks A N')) (N' * ks.length) (some (k, ei.size))) hb (by simp) hnew
        have hold : sliceCells (s.h.set b (.cells (PT.setAll .nil 0 (rowCells φ.env ks A N')) (N' * ks.length) (some (k, ei.size)))) ei.size (.slice b 0 N' (.var k 0)) = some (rowCells φ.env ks A N') := by
         unfold sliceCells
         simp only [hgb]
         rw [if_pos (by rw [Nat.ble_eq, c5]; omega)]
         refine PT.getAll_of _ _ _ _ (by rw [rowCells_length, c5]) (fun i hi => ?_)
         rw [PT.get_setAll, if_pos (by rw [rowCells_length]; rw [c5]; omega)]
         simp
        have hap : appendA D { s with h := s.h.set b (.cells (PT.setAll .nil 0 (rowCells φ.env ks A N')) (N' * ks.length) (some (k, ei.size))) } sT xT (.slice b 0 N' (.var k 0)) y =
          some (growA { s with h := s.h.set b (.cells (PT.setAll .nil 0 (rowCells φ.env ks A N')) (N' * ks.length) (some (k, ei.size))) } ((s.h.set b (.cells (PT.setAll .nil 0 (rowCells φ.env ks A N')) (N' * ks.length) (some (k, ei.size)))).del b) ei.size (N' + 1) (rowCells φ.env ks A N' ++ new)) := by
         obtain ⟨q1, q2⟩ := hble N' hN
         unfold appendA
         simp only [hi, hxi, hd, hei, hz, c1, c2, Bool.and_self, if_true]
         unfold appendB
         have e1 : avLen (.slice b 0 N' (.var k 0)) = some N' := rfl
         simp only [e1, hold, hnew1, hy1, q1, q2, Bool.and_self, if_true]
         unfold appendC
         simp only [hgb]
         rw [if_pos (by simp [hones]; simpa [Nat.blt_eq] using c9)]
        obtain ⟨φ', u, w', v1, v2, v3, v4⟩ := appendA_ok (ty := ty) hD hs1 (.slice hrb hc 0 N' hle) hy hap
        obtain ⟨z1, z2, z3⟩ := grown_row (s := s) (b := b) (N := N') hn hN c5 c9 hnl hA rfl rfl rfl (fun c o hc => by
         rw [PT.get_del] at hc ⊢
         split at hc
         ·simp at hc
         ·rename_i e
          rw [if_neg e, PT.get_set, if_neg e]
          exact hc) v3.ext.env v1 v4 (ht1.trans v3)
        exact ⟨φ', u, w', z1, v2, z2, z3⟩
      ·simp at h
     ·simp at h
    ·simp at h
   ·simp at h
  ·simp at h
 ·simp at h
theorem loadX_ok (hr : Rel φ s w) {t : TypeId} {a v : AV} {av : Value} (hx : VR φ a av) (h : loadX D s t a = some v) : ∃ u, VR φ v u ∧ (Instr.loadAt t av).run P w = .ok u w := by
 unfold loadX at h
 split at h
 ·rename_i p hp
  exact symLoad_ok hD hr hx hp h
 ·exact loadA_ok hD hr hx h
theorem storeX_ok (hr : Rel φ s w) {t : TypeId} {a v : AV} {av vv : Value} {s' : St} (hx : VR φ a av) (hv : VR φ v vv) (h : storeX D s t a v = some s') : ∃ w', (Instr.storeAt t av vv).run P w = .ok () w' ∧ Stp φ s w φ s' w' ∧ Rel φ s' w' := by
 unfold storeX at h
 split at h
 ·rename_i p hp
  exact symStore_ok hD hr hx hv hp h
 ·exact storeA_ok hD hr hx hv h
theorem indexAddrX_ok (hr : Rel φ s w) {t : TypeId} {x i v : AV} {xv iv : Value} (hx : VR φ x xv) (hi : VR φ i iv) (h : indexAddrX D s t x i = some v) : ∃ u, VR φ v u ∧ (Instr.indexAt t xv iv).run P w = .ok u w := by
 unfold indexAddrX at h
 split at h
 ·exact symIdx_ok hD hr hx hi h
 ·exact indexAddrA_ok hD hx hi h w
theorem appendX_ok (hr : Rel φ s w) {sT xT ty : TypeId} {x y v : AV} {xv yv : Value} {s' : St} (hx : VR φ x xv) (hy : VR φ y yv) (h : appendX D s sT xT x y = some (v, s')) :
  ∃ φ' u w', VR φ' v u ∧ (Builtin.append_ #[sT, xT] ty #[xv, yv]).run P w = .ok u w' ∧ Stp φ s w φ' s' w' ∧ Rel φ' s' w' := by
 unfold appendX at h
 split at h
 ·exact symAppend_ok hD hr hx hy h
 ·exact appendA_ok hD hr hx hy h
theorem builtinA_ok (hr : Rel φ s w) {b : Builtin} {ats : Array TypeId} {ty : TypeId} {cs : Array Bool} {args : List AV} {vals : List Value} {v : AV} {s' : St} (ha : VRs φ args vals) (h : builtinA D s b ats.toList args = some (v, s')) :
  ∃ φ' u w', VR φ' v u ∧ (builtin b ats ty cs vals.toArray).run P w = .ok (.value u) w' ∧ Stp φ s w φ' s' w' ∧ Rel φ' s' w' := by
 obtain ⟨at_⟩ := ats
 simp only at h
 have still : ∀ {x : AV} {r : Option AV}, st1 s r = some (v, s') → r = some v ∧ s' = s := fun hst => by
  unfold st1 at hst
  split at hst
  ·simp at hst; obtain ⟨rfl, rfl⟩ := hst; exact ⟨rfl, rfl⟩
  ·simp at hst
 cases b <;> simp only [builtinA] at h <;> first | (simp at h; done) | skip
 case append =>
  split at h
  ·rename_i t u x y
   cases ha with
   | cons hx ha => cases ha with
    | cons hy ha =>
     cases ha
     obtain ⟨φ', u', w', g1, g2, g3, g4⟩ := appendX_ok hD hr (ty := ty) hx hy h
     exact ⟨φ', u', w', g1, by simp [builtin, g2], g3, g4⟩
  ·simp at h
 case cap =>
  split at h
  ·rename_i t x
   obtain ⟨h1, rfl⟩ := still (x := x) h
   cases ha with
   | cons hx ha =>
    cases ha
    obtain ⟨u', g1, g2⟩ := capA_ok hD hx h1 ty w
    exact ⟨φ, u', w, g1, by simp [builtin, g2], Stp.refl _ _ _, hr⟩
  ·simp at h
 case clear =>
  split at h
  ·rename_i t x
   cases ha with
   | cons hx ha =>
    cases ha
    obtain ⟨u', w', g1, g2, g3, g4⟩ := clearA_ok hD hr hx h ty
    exact ⟨φ, u', w', g1, by simp [builtin, g2], g3, g4⟩
  ·simp at h
 case copy =>
  split at h
  ·rename_i t u x y
   cases ha with
   | cons hx ha => cases ha with
    | cons hy ha =>
     cases ha
     obtain ⟨u', w', g1, g2, g3, g4⟩ := copyA_ok hD hr (t2 := u) hx hy h ty
     exact ⟨φ, u', w', g1, by simp [builtin, g2], g3, g4⟩
  ·simp at h
 case delete =>
  split at h
  ·rename_i t u x y
   cases ha with
   | cons hx ha => cases ha with
    | cons hy ha =>
     cases ha
     obtain ⟨u', w', g1, g2, g3, g4⟩ := deleteA_all hD hr (t2 := u) hx hy h ty
     exact ⟨φ, u', w', g1, by simp [builtin, g2], g3, g4⟩
  ·simp at h
 case len =>
  split at h
  ·rename_i t x
   obtain ⟨h1, rfl⟩ := still (x := x) h
   cases ha with
   | cons hx ha =>
    cases ha
    obtain ⟨u', g1, g2⟩ := lenA_ok hD hr hx h1 ty
    exact ⟨φ, u', w, g1, by simp [builtin, g2], Stp.refl _ _ _, hr⟩
  ·simp at h
 case max =>
  split at h
  ·rename_i x r
   obtain ⟨h1, rfl⟩ := still (x := x) h
   cases ha with
   | cons hx ha =>
    obtain ⟨u', g1, g2⟩ := maxA_ok (P := P) r x v true _ _ hx ha h1
    exact ⟨φ, u', w, g1, by have g := g2 w; simp only [if_true] at g; simp [builtin, Builtin.max_, g], Stp.refl _ _ _, hr⟩
  ·simp at h
 case min =>
  split at h
  ·rename_i x r
   obtain ⟨h1, rfl⟩ := still (x := x) h
   cases ha with
   | cons hx ha =>
    obtain ⟨u', g1, g2⟩ := maxA_ok (P := P) r x v false _ _ hx ha h1
    exact ⟨φ, u', w, g1, by have g := g2 w; simp only [Bool.false_eq_true, if_false] at g; simp [builtin, Builtin.min_, g], Stp.refl _ _ _, hr⟩
  ·simp at h
end
end Go.Eng

namespace Go.Eng
variable {P : Program} {D : Tab} {φ : Phi} {s : St} {w : World} {T : PT AV} {ρ : Operand → Value}
def DoOk (P : Program) (φ : Phi) (s : St) (w : World) (r : Result Next) : Do → Prop
 | .val v s' => Res φ s w r v s'
 | .enter g args => ∃ vals : List Value, VRs φ args vals ∧ r = .ok (.enter g vals.toArray) w
 | .round l args => ∃ (vals : List Value) (x sh : Nat), VRs φ args vals ∧ φ.blk l = some (x, sh) ∧ r = (Instr.yield x vals.toArray).run P w
 | .next it str => ∃ (iv : Value) (ty : TypeId), VR φ it iv ∧ r = ((Instr.next iv str ty).run P w).andThen fun v w' => .ok (.value v) w'
theorem v1_ok {x : Option AV} {d : Do} (h : v1 s x = some d) : ∃ v, x = some v ∧ d = .val v s := by
 unfold v1 at h
 split at h
 ·simp at h; exact ⟨_, rfl, h.symm⟩
 ·simp at h
theorem v2_ok {x : Option (AV × St)} {d : Do} (h : v2 x = some d) : ∃ v s', x = some (v, s') ∧ d = .val v s' := by
 unfold v2 at h
 split at h
 ·simp at h; exact ⟨_, _, rfl, h.symm⟩
 ·simp at h
theorem u1_ok {x : Option St} {d : Do} (h : u1 x = some d) : ∃ s', x = some s' ∧ d = .val .undef s' := by
 unfold u1 at h
 split at h
 ·simp at h; exact ⟨_, rfl, h.symm⟩
 ·simp at h
theorem ev1_ok {x : Operand} {k : AV → Option Do} {d : Do} (h : ev1 T x k = some d) : ∃ a, ev T x = some a ∧ k a = some d := by
 unfold ev1 at h
 split at h
 ·exact ⟨_, by assumption, h⟩
 ·simp at h
theorem ev2_ok {x y : Operand} {k : AV → AV → Option Do} {d : Do} (h : ev2 T x y k = some d) : ∃ a b, ev T x = some a ∧ ev T y = some b ∧ k a b = some d := by
 unfold ev2 at h
 split at h
 ·split at h
  ·exact ⟨_, _, by assumption, by assumption, h⟩
  ·simp at h
 ·simp at h
theorem evOpt_ok (hr : Rel φ s w) (he : EvR φ T ρ) {x : Option Operand} {a : Option AV} (h : evOpt T x = some a) : OptR φ a (x.map ρ) := by
 unfold evOpt at h
 split at h
 ·simp at h; subst h; trivial
 ·split at h
  ·rename_i q
   simp at h; subst h
   exact ev_ok hr he q
  ·simp at h
theorem DoOk.still (hr : Rel φ s w) {r : Result Next} {v : AV} {u : Value} (hv : VR φ v u) (h : r = .ok (.value u) w) : DoOk P φ s w r (.val v s) := Res.still hr hv h
section
variable (hD : TabOk P D)
include hD
theorem callA_ok (hr : Rel φ s w) {f : AV} {fv : Value} {args : List AV} {vals : List Value} {d : Do} (hf : VR φ f fv) (ha : VRs φ args vals) (h : callA D s f args = some d) :
  DoOk P φ s w ((do let x ← Deferred.ofValue fv vals.toArray; invoke x.target x.args : Sem Next).run P w) d := by
 unfold callA at h
 split at h
 ·rename_i g first caps
  cases hf with
  | func _ hx hy =>
   rename_i us vs
   have hcat : us.toArray ++ vals.toArray ++ vs.toArray = (us ++ vals ++ vs).toArray := by simp
   split at h
   ·rename_i fi hfi
    simp only [Option.some.injEq] at h; subst h
    obtain ⟨fn, c, _, _, _, _, _, hc⟩ := fnOf_call hD hfi
    refine ⟨us ++ vals ++ vs, (hx.append ha).append hy, ?_⟩
    simp only [Deferred.ofValue, Sem.run_bind, Sem.run_pure, Result.andThen_ok, invoke, hcat]
    exact hc _ _
   ·split at h
    ·rename_i e he
     obtain ⟨v, hv, rfl⟩ := v1_ok h
     obtain ⟨u, u1, u2⟩ := hD.ext g e he φ _ _ v ((hx.append ha).append hy) hv
     refine DoOk.still hr u1 ?_
     simp only [Deferred.ofValue, Sem.run_bind, Sem.run_pure, Result.andThen_ok, invoke, hcat]
     exact u2 w
    ·split at h
     ·rename_i e he
      obtain ⟨v, s', hv, rfl⟩ := v2_ok h
      obtain ⟨φ', w', u, g1, g2, g3, g4⟩ := hD.xst g e he φ s w _ _ _ _ hr ((hx.append ha).append hy) hv
      refine ⟨φ', w', u, .inl ?_, g2, g3, g4⟩
      simp only [Deferred.ofValue, Sem.run_bind, Sem.run_pure, Result.andThen_ok, invoke, hcat]
      exact g1
     ·simp at h
 ·rename_i l
  cases hf with
  | yld hb =>
   simp at h; subst h
   refine ⟨vals, _, _, ha, hb, ?_⟩
   simp only [Deferred.ofValue, Sem.run_bind, Sem.run_pure, Result.andThen_ok, invoke]
   simp
 ·simp at h
omit hD in
theorem method_ok {t : TypeId} {name : String} {f : FuncId} (v : Value) (h : methOf P t name = some f) (w : World) : (method (P.types.size + Made.depth) t v name).run P w = .ok (f, v) w := by
 unfold methOf at h
 split at h
 ·simp at h
 ·rename_i i hi
  split at h
  ·simp at h
  ·rename_i m hm
   split at h
   ·rename_i g pr hp hf
    have hinfo : P.info? t = some i := by
     unfold Tables.info?
     have : t < P.types.size := (Array.getElem?_eq_some_iff.1 hi).1
     rw [if_pos this]; exact hi
    have hty : (typeInfo t).run P w = .ok i w := by simp [typeInfo, hinfo]
    obtain ⟨k, hk⟩ : ∃ k, P.types.size + Made.depth = k + 1 := ⟨P.types.size + (Made.depth - 1), by unfold Made.depth; omega⟩
    rw [hk]
    simp only [method, Sem.run_bind, hty, Result.andThen_ok, hm, hp, follow, Sem.run_pure, hf]
    split at h
    ·rename_i e hu
     simp at h; subst h
     have hun : (underlying t).run P w = .ok (.pointer e) w := by simp [underlying, hu]
     simp [receiverAt, hun, Place.get]
    ·simp at h
    ·rename_i d hnp hu
     simp at h; subst h
     have hun : (underlying t).run P w = .ok d w := by simp [underlying, hu]
     unfold receiverAt
     simp only [Sem.run_bind, hun, Result.andThen_ok]
     cases d <;> first | (exact absurd rfl (hnp _)) | simp [Place.get]
    ·simp at h
   ·simp at h
theorem invokeA_ok (hr : Rel φ s w) {r : AV} {rv : Value} {name : String} {args : List AV} {vals : List Value} {d : Do} (hf : VR φ r rv) (ha : VRs φ args vals) (h : invokeA D s r name args = some d) :
  DoOk P φ s w ((invoke (.fn (.method name) #[]) (#[rv] ++ vals.toArray)).run P w) d := by
 unfold invokeA at h
 split at h
 ·rename_i t v
  split at h
  ·rename_i f hm
   cases hf with
   | iface _ hv =>
    rename_i v'
    have hmeth := method_ok (P := P) v' (hD.ms t name f hm) w
    have := callA_ok hD hr (f := .func f [] []) (fv := .func (.func f) #[] #[]) (VR.func f .nil .nil) (VRs.cons hv ha) h
    have e : (invoke (.fn (.method name) #[]) (#[Value.iface t v'] ++ vals.toArray)).run P w = (do let x ← Deferred.ofValue (.func (.func f) #[] #[]) (v' :: vals).toArray; invoke x.target x.args : Sem Next).run P w := by
     have e1 : (#[Value.iface t v'] ++ vals.toArray)[0]? = some (.iface t v') := by simp
     have e2 : (#[Value.iface t v'] ++ vals.toArray).extract 1 (#[Value.iface t v'] ++ vals.toArray).size = vals.toArray := by
      apply Array.toList_inj.1; simp
     have e3 : (#[] : Array Value) ++ (v' :: vals).toArray ++ #[] = #[v'] ++ vals.toArray := by simp
     simp only [invoke, e1, e2, callMethod, Deferred.ofValue, Sem.run_bind, Sem.run_pure, Result.andThen_ok, e3]
     simp [hmeth]
    rw [e]
    exact this
  ·simp at h
 ·simp at h
theorem assertA_ok {x v : AV} {xv : Value} {xt t : TypeId} {ok : Bool} (hx : VR φ x xv) (h : assertA D x t ok = some v) (w : World) : ∃ u, VR φ v u ∧ (Instr.typeAssert xv xt t ok).run P w = .ok u w := by
 unfold assertA at h
 split at h
 ·simp at h
 ·rename_i i hi
  obtain ⟨de, _, hde, hu⟩ := run_under hD hi w
  have hni : ∀ m, de ≠ .interface m := by
   rintro m rfl
   rw [hde] at h
   simp [tdOf] at h
  split at h
  ·simp at h
  ·split at h
   ·rename_i u y
    cases hx with
    | iface _ hy =>
     rename_i y'
     split at h
     ·rename_i hb
      have := beq_true hb
      subst this
      simp at h; subst h
      refine ⟨_, .tuple (.cons hy (.cons (.bool true) .nil)), ?_⟩
      unfold Instr.typeAssert
      simp only [Sem.run_bind, hu, Result.andThen_ok]
      cases de <;> first | (exact absurd rfl (hni _)) | simp
     ·rename_i hb
      have := beq_true hb
      subst this
      simp at h; subst h
      refine ⟨_, hy, ?_⟩
      unfold Instr.typeAssert
      simp only [Sem.run_bind, hu, Result.andThen_ok]
      cases de <;> first | (exact absurd rfl (hni _)) | simp
     ·rename_i hb
      have hne : u ≠ t := by rintro rfl; simp at hb
      split at h
      ·rename_i z hz
       simp at h; subst h
       obtain ⟨zv, z1, z2⟩ := zeroAV_ok (φ := φ) hD hz w
       refine ⟨_, .tuple (.cons z1 (.cons (.bool false) .nil)), ?_⟩
       unfold Instr.typeAssert
       simp only [Sem.run_bind, hu, Result.andThen_ok]
       cases de <;> first | (exact absurd rfl (hni _)) | simp [hne, z2]
      ·simp at h
     ·simp at h
   ·cases hx
    split at h
    ·split at h
     ·rename_i z hz
      simp at h; subst h
      obtain ⟨zv, z1, z2⟩ := zeroAV_ok (φ := φ) hD hz w
      refine ⟨_, .tuple (.cons z1 (.cons (.bool false) .nil)), ?_⟩
      unfold Instr.typeAssert
      simp only [Sem.run_bind, hu, Result.andThen_ok]
      cases de <;> first | (exact absurd rfl (hni _)) | simp [z2]
     ·simp at h
    ·simp at h
   ·simp at h
theorem opA_ok (hr : Rel φ s w) (he : EvR φ T ρ) {o : Oper} {d : Do} (h : opA D T s o.op = some d) : DoOk P φ s w ((execOp ρ o).run P w) d := by
 obtain ⟨dst, op, ty, pos, after, guard⟩ := o
 simp only at h
 cases op <;> simp only [opA] at h <;> first | (simp at h; done) | skip
 case move x =>
  obtain ⟨v, hv, rfl⟩ := v1_ok h
  exact DoOk.still hr (ev_ok hr he hv) rfl
 case assign x =>
  obtain ⟨v, hv, rfl⟩ := v1_ok h
  exact DoOk.still hr (ev_ok hr he hv) rfl
 case pick c a b =>
  obtain ⟨cv, h1, h⟩ := ev1_ok h
  obtain ⟨v, hv, rfl⟩ := v1_ok h
  obtain ⟨r, h2, h3⟩ := pickA_ok hr he (ev_ok hr he h1) hv
  exact DoOk.still hr h3 (by cases r <;> simp [execOp, h2, asBool])
 case alloc t =>
  obtain ⟨v, s', hv, rfl⟩ := v2_ok h
  obtain ⟨φ', u, w', g1, g2, g3, g4⟩ := allocA_ok hD hr hv
  exact ⟨φ', w', u, .inl (by simp [execOp, g2]), g3, g4, g1⟩
 case box t x =>
  obtain ⟨a, h1, h⟩ := ev1_ok h
  obtain ⟨v, s', hv, rfl⟩ := v2_ok h
  obtain ⟨φ', u, w', g1, g2, g3, g4⟩ := boxA_ok (P := P) hr (ev_ok hr he h1) t
  simp at hv
  rw [hv] at g1 g3 g4
  exact ⟨φ', w', u, .inl (by simp [execOp, g2]), g3, g4, g1⟩
 case build t ps =>
  split at h
  ·rename_i vs hvs
   obtain ⟨v, hv, rfl⟩ := v1_ok h
   have hr' := evAll_ok hr he hvs
   obtain ⟨u, u1, u2⟩ := buildA_ok (ρ := ρ) (ps := ps) hD hr' (by simp) hv w
   exact DoOk.still hr u1 (by simp [execOp]; simp at u2; rw [u2]; rfl)
  ·simp at h
 case buildSlice t n ps =>
  split at h
  ·rename_i vs hvs
   obtain ⟨v, s', hv, rfl⟩ := v2_ok h
   have hr' := evAll_ok hr he hvs
   obtain ⟨φ', u, w', g1, g2, g3, g4⟩ := buildSliceA_ok (ρ := ρ) (ps := ps) hD hr hr' (by simp) hv
   exact ⟨φ', w', u, .inl (by simp [execOp]; simp at g2; rw [g2]; rfl), g3, g4, g1⟩
  ·simp at h
 case load t a =>
  obtain ⟨p, h1, h⟩ := ev1_ok h
  obtain ⟨v, hv, rfl⟩ := v1_ok h
  obtain ⟨u, u1, u2⟩ := loadX_ok (P := P) hD hr (ev_ok hr he h1) hv
  exact DoOk.still hr u1 (by simp [execOp, u2])
 case store t a x =>
  obtain ⟨p, b, h1, h2, h⟩ := ev2_ok h
  obtain ⟨s', hs, rfl⟩ := u1_ok h
  obtain ⟨w', g1, g2, g3⟩ := storeX_ok (P := P) hD hr (ev_ok hr he h1) (ev_ok hr he h2) hs
  exact ⟨φ, w', undef, .inr ⟨by simp [execOp, g1], rfl⟩, g2, g3, VR.undef⟩
 case nilCheck x =>
  obtain ⟨a, h1, h⟩ := ev1_ok h
  obtain ⟨v, hv, rfl⟩ := v1_ok h
  obtain ⟨g1, g2⟩ := nilCheckA_ok (ev_ok hr he h1) hv
  refine DoOk.still hr g1 ?_
  rcases g2 with ⟨p, hp⟩ | ⟨f, a, c, hp⟩
  ·simp [execOp, hp]
  ·simp [execOp, hp]
 case binOp op t x y yt =>
  obtain ⟨a, b, h1, h2, h⟩ := ev2_ok h
  obtain ⟨v, hv, rfl⟩ := v1_ok h
  obtain ⟨u, u1, u2⟩ := binA_ok (P := P) hD hr (ev_ok hr he h1) (ev_ok hr he h2) hv
  refine DoOk.still hr u1 ?_
  simp only [execOp, Sem.run_bind] at u2 ⊢
  simp only [u2, Result.andThen_ok, Sem.run_pure]
 case unOp op t x =>
  obtain ⟨a, h1, h⟩ := ev1_ok h
  obtain ⟨v, hv, rfl⟩ := v1_ok h
  obtain ⟨u, u1, u2⟩ := unA_ok (P := P) (w := w) (ev_ok hr he h1) hv
  exact DoOk.still hr u1 (by simp [execOp, u2])
 case convert a b x =>
  obtain ⟨q, h1, h⟩ := ev1_ok h
  obtain ⟨v, s', hv, rfl⟩ := v2_ok h
  obtain ⟨φ', u, w', g1, g2, g3, g4⟩ := convS_ok hD hr (ev_ok hr he h1) hv
  exact ⟨φ', w', u, .inl (by simp [execOp, g2]), g3, g4, g1⟩
 case makeInterface t x =>
  obtain ⟨a, h1, h⟩ := ev1_ok h
  obtain ⟨v, hv, rfl⟩ := v1_ok h
  obtain ⟨u, u1, u2⟩ := ifaceA_ok hD (ev_ok hr he h1) hv w
  exact DoOk.still hr u1 (by simp [execOp, u2])
 case makeFunc fn first caps =>
  unfold fnOp at h
  split at h
  ·split at h
   ·rename_i a b h1 h2
    simp at h; subst h
    have g1 := evAll_ok hr he h1
    have g2 := evAll_ok hr he h2
    refine DoOk.still hr (.func _ g1 g2) ?_
    have e1 : first.map ρ = (first.toList.map ρ).toArray := by apply Array.toList_inj.1; simp
    have e2 : caps.map ρ = (caps.toList.map ρ).toArray := by apply Array.toList_inj.1; simp
    simp only [execOp, Instr.makeFunc, Sem.run_bind, Sem.run_pure, Result.andThen_ok, e1, e2]
   ·simp at h
  ·simp at h
 case makeMap t r =>
  cases r with
  | some r => simp at h
  | none =>
   simp only at h
   obtain ⟨v, s', hv, rfl⟩ := v2_ok h
   simp at hv
   obtain ⟨rfl, rfl⟩ := hv
   obtain ⟨φ', w', g1, g2, g3, g4⟩ := new_other (P := P) hr (o := .map [] 0) (ro := .map #[] 0) (.map trivial)
   exact ⟨φ', w', _, .inl (by simp only [execOp, Instr.makeMap, Option.map_none, Sem.run_bind, Sem.run_pure, Result.andThen_ok, g1]), g2, g3, .map g4⟩
 case makeSlice t l c =>
  obtain ⟨a, b, h1, h2, h⟩ := ev2_ok h
  obtain ⟨v, s', hv, rfl⟩ := v2_ok h
  obtain ⟨φ', u, w', g1, g2, g3, g4⟩ := makeSliceA_ok hD hr (ev_ok hr he h1) (ev_ok hr he h2) hv
  exact ⟨φ', w', u, .inl (by simp [execOp, g2]), g3, g4, g1⟩
 case slice t x lo hi mx =>
  obtain ⟨a, h1, h⟩ := ev1_ok h
  unfold sliceOp at h
  split at h
  ·rename_i l hh m q1 q2 q3
   obtain ⟨v, hv, rfl⟩ := v1_ok h
   obtain ⟨u, u1, u2⟩ := sliceA_ok hD (ev_ok hr he h1) (evOpt_ok hr he q1) (evOpt_ok hr he q2) (evOpt_ok hr he q3) hv w
   exact DoOk.still hr u1 (by simp [execOp, u2])
  ·simp at h
 case fieldAddr t x f =>
  obtain ⟨a, h1, h⟩ := ev1_ok h
  obtain ⟨v, hv, rfl⟩ := v1_ok h
  obtain ⟨u, u1, u2⟩ := fieldAddrA_ok hD (ev_ok hr he h1) hv w
  exact DoOk.still hr u1 (by simp [execOp, u2])
 case field t x f =>
  obtain ⟨a, h1, h⟩ := ev1_ok h
  obtain ⟨v, hv, rfl⟩ := v1_ok h
  obtain ⟨u, u1, u2⟩ := fieldA_ok hD (ev_ok hr he h1) hv w
  exact DoOk.still hr u1 (by simp [execOp, u2])
 case indexAddr t x i =>
  obtain ⟨a, b, h1, h2, h⟩ := ev2_ok h
  obtain ⟨v, hv, rfl⟩ := v1_ok h
  obtain ⟨u, u1, u2⟩ := indexAddrX_ok (P := P) hD hr (ev_ok hr he h1) (ev_ok hr he h2) hv
  exact DoOk.still hr u1 (by simp [execOp, u2])
 case index t x i =>
  obtain ⟨a, b, h1, h2, h⟩ := ev2_ok h
  obtain ⟨v, hv, rfl⟩ := v1_ok h
  obtain ⟨u, u1, u2⟩ := indexA_ok hD (ev_ok hr he h1) (ev_ok hr he h2) hv w
  exact DoOk.still hr u1 (by simp [execOp, u2])
 case lookup t m k ok =>
  obtain ⟨a, b, h1, h2, h⟩ := ev2_ok h
  obtain ⟨v, hv, rfl⟩ := v1_ok h
  obtain ⟨u, u1, u2⟩ := lookupA_ok hD hr (ev_ok hr he h1) (ev_ok hr he h2) hv
  exact DoOk.still hr u1 (by simp [execOp, u2])
 case mapUpdate t m k x =>
  obtain ⟨a, b, h1, h2, h⟩ := ev2_ok h
  obtain ⟨c, h3, h⟩ := ev1_ok h
  obtain ⟨s', hs, rfl⟩ := u1_ok h
  obtain ⟨w', g1, g2, g3⟩ := mapUpdA_ok hD hr (ev_ok hr he h1) (ev_ok hr he h2) (ev_ok hr he h3) hs
  exact ⟨φ, w', undef, .inr ⟨by simp [execOp, g1], rfl⟩, g2, g3, VR.undef⟩
 case insert t m k x =>
  obtain ⟨a, b, h1, h2, h⟩ := ev2_ok h
  obtain ⟨c, h3, h⟩ := ev1_ok h
  obtain ⟨s', hs, rfl⟩ := u1_ok h
  obtain ⟨w', g1, g2, g3⟩ := mapUpdA_ok hD hr (ev_ok hr he h1) (ev_ok hr he h2) (ev_ok hr he h3) hs
  exact ⟨φ, w', undef, .inr ⟨by simp [execOp, g1], rfl⟩, g2, g3, VR.undef⟩
 case mapEntry t m k =>
  obtain ⟨a, b, h1, h2, h⟩ := ev2_ok h
  obtain ⟨v, s', hv, rfl⟩ := v2_ok h
  obtain ⟨u, w', g1, g2, g3, g4⟩ := mapEntryA_ok hD hr (ev_ok hr he h1) (ev_ok hr he h2) hv
  exact ⟨φ, w', u, .inl (by simp [execOp, g2]), g3, g4, g1⟩
 case entryStore t m st x =>
  obtain ⟨a, b, h1, h2, h⟩ := ev2_ok h
  obtain ⟨c, h3, h⟩ := ev1_ok h
  obtain ⟨s', hs, rfl⟩ := u1_ok h
  obtain ⟨w', g1, g2, g3⟩ := entryStoreA_ok (P := P) (t := t) hr (ev_ok hr he h1) (ev_ok hr he h2) (ev_ok hr he h3) hs
  exact ⟨φ, w', undef, .inr ⟨by simp [execOp, g1], rfl⟩, g2, g3, VR.undef⟩
 case range t x =>
  obtain ⟨a, h1, h⟩ := ev1_ok h
  obtain ⟨v, s', hv, rfl⟩ := v2_ok h
  obtain ⟨φ', u, w', g1, g2, g3, g4⟩ := rangeA_ok hD hr (ev_ok hr he h1) hv
  exact ⟨φ', w', u, .inl (by simp [execOp, g2]), g3, g4, g1⟩
 case next it str =>
  obtain ⟨a, h1, h⟩ := ev1_ok h
  simp at h; subst h
  exact ⟨_, ty, ev_ok hr he h1, by simp only [execOp, Sem.run_bind]; rfl⟩
 case entry it =>
  obtain ⟨a, h1, h⟩ := ev1_ok h
  obtain ⟨v, hv, rfl⟩ := v1_ok h
  obtain ⟨u, u1, u2⟩ := entryA_ok (P := P) hr (ev_ok hr he h1) hv
  exact DoOk.still hr u1 (by simp [execOp, u2])
 case extract x i =>
  obtain ⟨a, h1, h⟩ := ev1_ok h
  obtain ⟨v, hv, rfl⟩ := v1_ok h
  obtain ⟨u, u1, u2⟩ := extractA_ok (P := P) (w := w) (ev_ok hr he h1) hv
  exact DoOk.still hr u1 (by simp [execOp, u2])
 case call c =>
  unfold callOp at h
  split at h
  ·simp at h
  ·rename_i args ha
   have hargs := evAll_ok hr he ha
   have hmap : c.args.map ρ = (c.args.toList.map ρ).toArray := by
    apply Array.toList_inj.1; simp
   split at h
   ·rename_i b hb
    obtain ⟨v, s', hv, rfl⟩ := v2_ok h
    obtain ⟨φ', u, w', g1, g2, g3, g4⟩ := builtinA_ok (ty := ty) (cs := c.args.map fun | .const _ => true | _ => false) hD hr hargs hv
    refine ⟨φ', w', u, .inl ?_, g3, g4, g1⟩
    simp only [execOp, resolve, hb, hmap, Sem.run_bind, Sem.run_pure, Result.andThen_ok, invoke]
    exact g2
   ·rename_i f hf
    obtain ⟨g, h1, h⟩ := ev1_ok h
    have := callA_ok hD hr (ev_ok hr he h1) hargs h
    simp only [execOp, resolve, hf, hmap]
    exact this
   ·rename_i r name hf
    obtain ⟨g, h1, h⟩ := ev1_ok h
    have := invokeA_ok hD hr (ev_ok hr he h1) hargs h
    simp only [execOp, resolve, hf, hmap, Sem.run_bind, Sem.run_pure, Result.andThen_ok]
    exact this
 case typeAssert x xt t ok =>
  obtain ⟨a, h1, h⟩ := ev1_ok h
  obtain ⟨v, hv, rfl⟩ := v1_ok h
  obtain ⟨u, u1, u2⟩ := assertA_ok (P := P) (xt := xt) hD (ev_ok hr he h1) hv w
  exact DoOk.still hr u1 (by simp [execOp, u2])
end
end Go.Eng

