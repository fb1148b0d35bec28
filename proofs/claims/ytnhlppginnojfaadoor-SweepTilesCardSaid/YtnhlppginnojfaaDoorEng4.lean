/-
  The abstract interpreter, its soundness: tries; values against values; states against worlds.
-/
import Derived.Test.YtnhlppginnojfaaDoorEng1to3
import Derived.AtR
set_option linter.unusedVariables false
set_option linter.unusedSimpArgs false
namespace Go.Eng
namespace PT
variable {α : Type}
@[simp] theorem get_nil (k : Nat) : (PT.nil : PT α).get k = none := rfl
@[simp] theorem get_zero (l : PT α) (v : Option α) (r : PT α) : (PT.nd l v r).get 0 = v := rfl
theorem get_succ (l : PT α) (v : Option α) (r : PT α) (k : Nat) : (PT.nd l v r).get (k + 1) = if k % 2 = 0 then l.get (k / 2) else r.get (k / 2) := by
 show sel (k % 2) (l.get (k / 2)) (r.get (k / 2)) = _
 generalize k % 2 = m
 cases m <;> rfl
theorem onL_eq (v : Option α) (r l : PT α) : onL v r l = .nd l v r := by cases l <;> rfl
theorem onR_eq (l : PT α) (v : Option α) (r : PT α) : onR l v r = .nd l v r := by cases r <;> rfl
theorem sel_eq {β : Type} (m : Nat) (a b : β) : sel m a b = if m = 0 then a else b := by cases m <;> rfl
theorem one_succ (x : Option α) (f k : Nat) : one x (f + 1) (k + 1) = if k % 2 = 0 then .nd (one x f (k / 2)) none .nil else .nd .nil none (one x f (k / 2)) := by
 show sel (k % 2) (onL none .nil (one x f (k / 2))) (onR .nil none (one x f (k / 2))) = _
 rw [sel_eq, onL_eq, onR_eq]
theorem get_one (x : Option α) : ∀ (f k j : Nat), k ≤ f → (one x f k).get j = if j = k then x else none
 | 0, k, j, h => by
  have : k = 0 := by omega
  subst this
  cases j with
  | zero => rfl
  | succ j => show (PT.nd .nil x .nil).get (j + 1) = _; rw [get_succ]; simp
 | f + 1, 0, j, _ => by
  show (PT.nd .nil x .nil).get j = _
  cases j with
  | zero => rfl
  | succ j => rw [get_succ]; simp
 | f + 1, k + 1, j, h => by
  rw [one_succ]
  cases j with
  | zero => split <;> simp
  | succ j =>
   split
   ·rw [get_succ]
    split
    ·rw [get_one x f (k / 2) (j / 2) (by omega)]
     by_cases e : j = k
     ·subst e; simp
     ·rw [if_neg (by omega), if_neg (by omega)]
    ·rw [if_neg (by omega)]; rfl
   ·rw [get_succ]
    split
    ·rw [if_neg (by omega)]; rfl
    ·rw [get_one x f (k / 2) (j / 2) (by omega)]
     by_cases e : j = k
     ·subst e; simp
     ·rw [if_neg (by omega), if_neg (by omega)]
theorem put_nil (x : Option α) (k : Nat) : put x .nil k = one x k k := rfl
theorem put_zero (x : Option α) (l : PT α) (v : Option α) (r : PT α) : put x (.nd l v r) 0 = .nd l x r := rfl
theorem put_succ (x : Option α) (l : PT α) (v : Option α) (r : PT α) (k : Nat) : put x (.nd l v r) (k + 1) = if k % 2 = 0 then .nd (put x l (k / 2)) v r else .nd l v (put x r (k / 2)) := by
 show sel (k % 2) (onL v r (put x l (k / 2))) (onR l v (put x r (k / 2))) = _
 rw [sel_eq, onL_eq, onR_eq]
theorem get_put (x : Option α) : ∀ (t : PT α) (k j : Nat), (put x t k).get j = if j = k then x else t.get j
 | .nil, k, j => by rw [put_nil, get_one x k k j (Nat.le_refl _)]; rfl
 | .nd l v r, 0, j => by
  rw [put_zero]
  cases j with
  | zero => rfl
  | succ j => rw [get_succ, get_succ, if_neg (show ¬ j + 1 = 0 by omega)]
 | .nd l v r, k + 1, j => by
  rw [put_succ]
  cases j with
  | zero => split <;> simp
  | succ j =>
   split
   ·rw [get_succ, get_succ]
    split
    ·rw [get_put x l (k / 2) (j / 2)]
     by_cases e : j = k
     ·subst e; simp
     ·rw [if_neg (by omega), if_neg (by omega)]
    ·rw [if_neg (by omega)]
   ·rw [get_succ, get_succ]
    split
    ·rw [if_neg (by omega)]
    ·rw [get_put x r (k / 2) (j / 2)]
     by_cases e : j = k
     ·subst e; simp
     ·rw [if_neg (by omega), if_neg (by omega)]
theorem get_set (t : PT α) (k : Nat) (x : α) (j : Nat) : (t.set k x).get j = if j = k then some x else t.get j := get_put (some x) t k j
theorem get_del (t : PT α) (k j : Nat) : (t.del k).get j = if j = k then none else t.get j := get_put none t k j
@[simp] theorem get_set_same (t : PT α) (k : Nat) (x : α) : (t.set k x).get k = some x := by rw [get_set]; simp
theorem get_setAll : ∀ (l : List α) (t : PT α) (k j : Nat), (t.setAll k l).get j = if k ≤ j ∧ j < k + l.length then l[j - k]? else t.get j := by
 intro l
 induction l with
 | nil => intro t k j; simp only [setAll, List.length_nil]; rw [if_neg (by omega)]
 | cons x r ih =>
  intro t k j
  simp only [setAll, List.length_cons]
  rw [ih, get_set]
  by_cases h1 : j = k
  ·subst h1
   rw [if_neg (by omega), if_pos rfl, if_pos (by omega)]
   simp
  ·by_cases h2 : k + 1 ≤ j ∧ j < k + 1 + r.length
   ·rw [if_pos h2, if_pos (by omega)]
    obtain ⟨m, rfl⟩ : ∃ m, j = k + 1 + m := ⟨j - (k + 1), by omega⟩
    rw [show k + 1 + m - (k + 1) = m by omega, show k + 1 + m - k = m + 1 by omega]
    simp
   ·rw [if_neg h2, if_neg h1, if_neg (by omega)]
theorem getAll_spec : ∀ (n : Nat) (t : PT α) (k : Nat) (l : List α), t.getAll k n = some l → l.length = n ∧ ∀ i, i < n → t.get (k + i) = l[i]? := by
 intro n
 induction n with
 | zero => intro t k l h; simp [getAll] at h; subst h; simp
 | succ n ih =>
  intro t k l h
  simp only [getAll] at h
  cases hx : t.get k with
  | none => rw [hx] at h; simp at h
  | some x =>
   rw [hx] at h
   simp only [] at h
   cases hr : t.getAll (k + 1) n with
   | none => rw [hr] at h; simp at h
   | some r =>
    rw [hr] at h
    simp only [Option.some.injEq] at h
    subst h
    obtain ⟨h1, h2⟩ := ih t (k + 1) r hr
    refine ⟨by simp [h1], fun i hi => ?_⟩
    cases i with
    | zero => simpa using hx
    | succ i => rw [show k + (i + 1) = k + 1 + i by omega, h2 i (by omega)]; simp
end PT
def arith (op : BinOp) (k : IntKind) (a b : Int) : Int :=
 match bin op k a b with
 | some (.int _ n) => n
 | _ => 0
def prim (p : Nat) (a b c : Int) : Int :=
 match p with
 | 0 => Int.ofNat ((a.toNat + b.toNat + c.toNat) % 18446744073709551616)
 | 1 => Int.ofNat ((a.toNat + b.toNat + c.toNat) / 18446744073709551616)
 | 2 => Int.ofNat ((a.toNat + 18446744073709551616 - b.toNat - c.toNat) % 18446744073709551616)
 | 3 => Int.ofNat (if a.toNat < b.toNat + c.toNat then 1 else 0)
 | _ => 0
structure Env where
 int : Nat → Int
 arr : Nat → Nat → Int
 ft : Nat → (Nat → Int) → Int → (Nat → Int) → Int → Int
 fa : Nat → (Nat → Int) → Int → (Nat → Int) → Int → Nat → Int
 fp : Nat → (Nat → Int) → Int → (Nat → Int) → Int → Bool
mutual
def Tm.ev (e : Env) : Tm → Int
 | .c n => n
 | .v i => e.int i
 | .op o k a b => arith o k (a.ev e) (b.ev e)
 | .cv k a => k.wrap (a.ev e)
 | .sel A t z o => A.ev e ((t.ev e).toNat * z + o)
 | .p3 p a b c => prim p (a.ev e) (b.ev e) (c.ev e)
 | .fn f A n B m => e.ft f (A.ev e) (n.ev e) (B.ev e) (m.ev e)
def ATm.ev (e : Env) : ATm → Nat → Int
 | .v i => e.arr i
 | .k n => fun _ => n
 | .upd A t z o x => fun j => if j = (t.ev e).toNat * z + o then x.ev e else A.ev e j
 | .fn f A n B m => e.fa f (A.ev e) (n.ev e) (B.ev e) (m.ev e)
end
def Fm.holds (e : Env) : Fm → Prop
 | .lt a b y => decide (a.ev e < b.ev e) = y
 | .eq a b y => decide (a.ev e = b.ev e) = y
 | .pr p A n B m y => e.fp p (A.ev e) (n.ev e) (B.ev e) (m.ev e) = y
mutual
theorem Tm.beq_eq : ∀ {a b : Tm}, a.beq b = true → a = b
 | .c _, b, h => by cases b <;> simp [Tm.beq] at h; rw [h]
 | .v _, b, h => by cases b <;> simp [Tm.beq] at h; rw [h]
 | .op .., b, h => by
  cases b <;> simp only [Tm.beq, Bool.and_eq_true, decide_eq_true_eq, Bool.false_eq_true] at h
  rw [h.1.1.1, h.1.1.2, Tm.beq_eq h.1.2, Tm.beq_eq h.2]
 | .cv .., b, h => by
  cases b <;> simp only [Tm.beq, Bool.and_eq_true, decide_eq_true_eq, Bool.false_eq_true] at h
  rw [h.1, Tm.beq_eq h.2]
 | .sel .., b, h => by
  cases b <;> simp only [Tm.beq, Bool.and_eq_true, Bool.false_eq_true] at h
  rw [Nat.eq_of_beq_eq_true h.1.1.1, Nat.eq_of_beq_eq_true h.1.1.2, ATm.beq_eq h.1.2, Tm.beq_eq h.2]
 | .p3 .., b, h => by
  cases b <;> simp only [Tm.beq, Bool.and_eq_true, Bool.false_eq_true] at h
  rw [Nat.eq_of_beq_eq_true h.1.1.1, Tm.beq_eq h.1.1.2, Tm.beq_eq h.1.2, Tm.beq_eq h.2]
 | .fn .., b, h => by
  cases b <;> simp only [Tm.beq, Bool.and_eq_true, Bool.false_eq_true] at h
  rw [Nat.eq_of_beq_eq_true h.1.1.1.1, ATm.beq_eq h.1.1.1.2, Tm.beq_eq h.1.1.2, ATm.beq_eq h.1.2, Tm.beq_eq h.2]
theorem ATm.beq_eq : ∀ {a b : ATm}, a.beq b = true → a = b
 | .v _, b, h => by cases b <;> simp [ATm.beq] at h; rw [h]
 | .k _, b, h => by cases b <;> simp [ATm.beq] at h; rw [h]
 | .upd .., b, h => by
  cases b <;> simp only [ATm.beq, Bool.and_eq_true, Bool.false_eq_true] at h
  rw [Nat.eq_of_beq_eq_true h.1.1.1.1, Nat.eq_of_beq_eq_true h.1.1.1.2, ATm.beq_eq h.1.1.2, Tm.beq_eq h.1.2, Tm.beq_eq h.2]
 | .fn .., b, h => by
  cases b <;> simp only [ATm.beq, Bool.and_eq_true, Bool.false_eq_true] at h
  rw [Nat.eq_of_beq_eq_true h.1.1.1.1, ATm.beq_eq h.1.1.1.2, Tm.beq_eq h.1.1.2, ATm.beq_eq h.1.2, Tm.beq_eq h.2]
end
theorem Fm.beq_eq {f g : Fm} (h : f.beq g = true) : f = g := by
 cases f <;> cases g <;> simp only [Fm.beq, Bool.and_eq_true, beq_iff_eq, Bool.false_eq_true] at h
 ·rw [h.1.1, Tm.beq_eq h.1.2, Tm.beq_eq h.2]
 ·rw [h.1.1, Tm.beq_eq h.1.2, Tm.beq_eq h.2]
 ·rw [h.1.1.1.1.1, Nat.eq_of_beq_eq_true h.1.1.1.1.2, ATm.beq_eq h.1.1.1.2, Tm.beq_eq h.1.1.2, ATm.beq_eq h.1.2, Tm.beq_eq h.2]
theorem Fm.both (e : Env) (f : Fm) : f.holds e ∨ f.neg.holds e := by
 cases f with
 | lt a b y => by_cases h : a.ev e < b.ev e <;> cases y <;> simp [Fm.holds, Fm.neg, h]
 | eq a b y => by_cases h : a.ev e = b.ev e <;> cases y <;> simp [Fm.holds, Fm.neg, h]
 | pr p A n B m y => simp only [Fm.holds, Fm.neg]; cases e.fp p (A.ev e) (n.ev e) (B.ev e) (m.ev e) <;> cases y <;> simp
def Known1 (e : Env) (fs : List Fm) : Prop := ∀ f, f ∈ fs → f.holds e
theorem maxO_le {x y : Option Int} {n m : Int} (h : maxO x y = some n) (hx : ∀ a, x = some a → a ≤ m) (hy : ∀ a, y = some a → a ≤ m) : n ≤ m := by
 cases x with
 | none => exact hy n h
 | some a =>
  cases y with
  | none => exact hx n h
  | some b =>
   simp only [maxO, Option.some.injEq] at h
   subst h
   split
   ·exact hy b rfl
   ·exact hx a rfl
theorem minO_ge {x y : Option Int} {n m : Int} (h : minO x y = some n) (hx : ∀ a, x = some a → m ≤ a) (hy : ∀ a, y = some a → m ≤ a) : m ≤ n := by
 cases x with
 | none => exact hy n h
 | some a =>
  cases y with
  | none => exact hx n h
  | some b =>
   simp only [minO, Option.some.injEq] at h
   subst h
   split
   ·exact hx a rfl
   ·exact hy b rfl
theorem lbs_ok {e : Env} {rec : Tm → Option Int} (hrec : ∀ t n, rec t = some n → n ≤ t.ev e) {t : Tm} : ∀ {fs : List Fm} {n : Int}, Known1 e fs → lbs rec t fs = some n → n ≤ t.ev e
 | [], n, _, h => by simp [lbs] at h
 | f :: r, n, hk, h => by
  have hf := hk f (List.mem_cons_self ..)
  have ih := fun {n} => lbs_ok hrec (t := t) (fs := r) (n := n) (fun g hg => hk g (List.mem_cons_of_mem _ hg))
  cases f with
  | lt x y v =>
   cases v with
   | true =>
    simp only [lbs] at h
    split at h
    ·rename_i hb
     have := Tm.beq_eq hb
     subst this
     simp only [Fm.holds, decide_eq_true_eq] at hf
     refine maxO_le h (fun a ha => ?_) (fun a ha => ih ha)
     cases hx : rec x with
     | none => rw [hx] at ha; simp [addO] at ha
     | some q => rw [hx] at ha; simp [addO] at ha; have := hrec x q hx; omega
    ·exact ih h
   | false =>
    simp only [lbs] at h
    split at h
    ·rename_i hb
     have := Tm.beq_eq hb
     subst this
     simp only [Fm.holds, decide_eq_false_iff_not] at hf
     refine maxO_le h (fun a ha => ?_) (fun a ha => ih ha)
     have := hrec y a ha
     omega
    ·exact ih h
  | eq x y v =>
   cases v with
   | true =>
    simp only [lbs] at h
    split at h
    ·rename_i hb
     have := Tm.beq_eq hb
     subst this
     simp only [Fm.holds, decide_eq_true_eq] at hf
     refine maxO_le h (fun a ha => ?_) (fun a ha => ih ha)
     have := hrec y a ha
     omega
    ·exact ih h
   | false => simp only [lbs] at h; exact ih h
  | pr => simp only [lbs] at h; exact ih h
theorem ubs_ok {e : Env} {rec : Tm → Option Int} (hrec : ∀ t n, rec t = some n → t.ev e ≤ n) {t : Tm} : ∀ {fs : List Fm} {n : Int}, Known1 e fs → ubs rec t fs = some n → t.ev e ≤ n
 | [], n, _, h => by simp [ubs] at h
 | f :: r, n, hk, h => by
  have hf := hk f (List.mem_cons_self ..)
  have ih := fun {n} => ubs_ok hrec (t := t) (fs := r) (n := n) (fun g hg => hk g (List.mem_cons_of_mem _ hg))
  cases f with
  | lt x y v =>
   cases v with
   | true =>
    simp only [ubs] at h
    split at h
    ·rename_i hb
     have := Tm.beq_eq hb
     subst this
     simp only [Fm.holds, decide_eq_true_eq] at hf
     refine minO_ge h (fun a ha => ?_) (fun a ha => ih ha)
     cases hx : rec y with
     | none => rw [hx] at ha; simp [addO] at ha
     | some q => rw [hx] at ha; simp [addO] at ha; have := hrec y q hx; omega
    ·exact ih h
   | false =>
    simp only [ubs] at h
    split at h
    ·rename_i hb
     have := Tm.beq_eq hb
     subst this
     simp only [Fm.holds, decide_eq_false_iff_not] at hf
     refine minO_ge h (fun a ha => ?_) (fun a ha => ih ha)
     have := hrec x a ha
     omega
    ·exact ih h
  | eq x y v =>
   cases v with
   | true =>
    simp only [ubs] at h
    split at h
    ·rename_i hb
     have := Tm.beq_eq hb
     subst this
     simp only [Fm.holds, decide_eq_true_eq] at hf
     refine minO_ge h (fun a ha => ?_) (fun a ha => ih ha)
     have := hrec y a ha
     omega
    ·exact ih h
   | false => simp only [ubs] at h; exact ih h
  | pr => simp only [ubs] at h; exact ih h
theorem lb_ok {e : Env} {fs : List Fm} (hk : Known1 e fs) : ∀ (d : Nat) (t : Tm) (n : Int), lb fs d t = some n → n ≤ t.ev e
 | 0, t, n, h => by
  cases t <;> simp [lb] at h
  subst h; simp [Tm.ev]
 | d + 1, t, n, h => by
  cases t with
  | c m => simp [lb] at h; subst h; simp [Tm.ev]
  | _ => exact lbs_ok (lb_ok hk d) hk h
theorem ub_ok {e : Env} {fs : List Fm} (hk : Known1 e fs) : ∀ (d : Nat) (t : Tm) (n : Int), ub fs d t = some n → t.ev e ≤ n
 | 0, t, n, h => by
  cases t <;> simp [ub] at h
  subst h; simp [Tm.ev]
 | d + 1, t, n, h => by
  cases t with
  | c m => simp [ub] at h; subst h; simp [Tm.ev]
  | _ => exact ubs_ok (ub_ok hk d) hk h
theorem seekLt_ok {e : Env} {a b : Tm} : ∀ {fs : List Fm} {v : Bool}, Known1 e fs → seekLt a b fs = some v → decide (a.ev e < b.ev e) = v
 | [], v, _, h => by simp [seekLt] at h
 | f :: r, v, hk, h => by
  have hf := hk f (List.mem_cons_self ..)
  have ih := fun {v} => seekLt_ok (a := a) (b := b) (fs := r) (v := v) (fun g hg => hk g (List.mem_cons_of_mem _ hg))
  cases f with
  | lt x y u =>
   simp only [seekLt] at h
   split at h
   ·rename_i hb
    simp only [Bool.and_eq_true] at hb
    rw [← Tm.beq_eq hb.1, ← Tm.beq_eq hb.2]
    simp at h; subst h
    exact hf
   ·exact ih h
  | eq => simp only [seekLt] at h; exact ih h
  | pr => simp only [seekLt] at h; exact ih h
theorem seekEq_ok {e : Env} {a b : Tm} : ∀ {fs : List Fm} {v : Bool}, Known1 e fs → seekEq a b fs = some v → decide (a.ev e = b.ev e) = v
 | [], v, _, h => by simp [seekEq] at h
 | f :: r, v, hk, h => by
  have hf := hk f (List.mem_cons_self ..)
  have ih := fun {v} => seekEq_ok (a := a) (b := b) (fs := r) (v := v) (fun g hg => hk g (List.mem_cons_of_mem _ hg))
  cases f with
  | eq x y u =>
   simp only [seekEq] at h
   split at h
   ·rename_i hb
    simp only [Bool.and_eq_true] at hb
    rw [← Tm.beq_eq hb.1, ← Tm.beq_eq hb.2]
    simp at h; subst h
    exact hf
   ·exact ih h
  | lt => simp only [seekEq] at h; exact ih h
  | pr => simp only [seekEq] at h; exact ih h
theorem decLt_ok {e : Env} {fs : List Fm} (hk : Known1 e fs) {a b : Tm} {v : Bool} (h : decLt fs a b = some v) : decide (a.ev e < b.ev e) = v := by
 unfold decLt at h
 split at h
 ·rename_i u hu
  simp at h; subst h
  exact seekLt_ok hk hu
 ·split at h
  ·rename_i hb
   simp at h; subst h
   unfold below at hb
   split at hb
   ·rename_i x y hx hy
    simp only [decide_eq_true_eq] at hb ⊢
    have := ub_ok hk _ _ _ hx
    have := lb_ok hk _ _ _ hy
    omega
   ·simp at hb
  ·split at h
   ·rename_i hb
    simp at h; subst h
    unfold notAbove at hb
    split at hb
    ·rename_i x y hx hy
     simp only [decide_eq_true_eq] at hb
     simp only [decide_eq_false_iff_not]
     have := ub_ok hk _ _ _ hx
     have := lb_ok hk _ _ _ hy
     omega
    ·simp at hb
   ·simp at h
theorem decEq_ok {e : Env} {fs : List Fm} (hk : Known1 e fs) {a b : Tm} {v : Bool} (h : decEq fs a b = some v) : decide (a.ev e = b.ev e) = v := by
 unfold decEq at h
 split at h
 ·rename_i u hu
  simp at h; subst h
  exact seekEq_ok hk hu
 ·split at h
  ·rename_i h1
   simp at h; subst h
   have := decLt_ok hk h1
   simp at this ⊢
   omega
  ·rename_i h1 _
   simp at h; subst h
   have := decLt_ok hk h1
   simp at this ⊢
   omega
  ·rename_i h1 h2
   simp at h; subst h
   have := decLt_ok hk h1
   have := decLt_ok hk h2
   simp at *
   omega
  ·simp at h
theorem notO_ok {x : Option Bool} {v : Bool} (h : notO x = some v) : x = some !v := by
 cases x with
 | none => simp [notO] at h
 | some b => simp [notO] at h; subst h; simp
theorem cmpT_ok {e : Env} {fs : List Fm} (hk : Known1 e fs) {op : BinOp} {k : IntKind} {a b : Tm} {v : Bool} (h : cmpT fs op a b = some v) : bin op k (a.ev e) (b.ev e) = some (.bool v) := by
 unfold cmpT at h
 split at h
 ·have := decLt_ok hk h; simp [bin, this]
 ·have := decLt_ok hk (notO_ok h)
  have : decide (a.ev e ≤ b.ev e) = v := by cases v <;> simp at this ⊢ <;> omega
  simp [bin, this]
 ·have := decLt_ok hk h
  have : decide (a.ev e > b.ev e) = v := by cases v <;> simp at this ⊢ <;> omega
  simp [bin, this]
 ·have := decLt_ok hk (notO_ok h)
  have : decide (a.ev e ≥ b.ev e) = v := by cases v <;> simp at this ⊢ <;> omega
  simp [bin, this]
 ·have := decEq_ok hk h
  have : (a.ev e == b.ev e) = v := by cases v <;> simpa using this
  simp [bin, this]
 ·have := decEq_ok hk (notO_ok h)
  have : (a.ev e != b.ev e) = v := by cases v <;> simpa [bne] using this
  simp [bin, this]
 ·simp at h
theorem arith_ok {op : BinOp} (h : isArith op = true) (k : IntKind) (a b : Int) : bin op k a b = some (.int k (arith op k a b)) := by
 unfold isArith at h
 split at h <;> first | rfl | simp at h
structure Phi where
 blk : Nat → Option (Nat × Nat)
 cap : Nat → Option Nat
 sym : Nat → Option Value
 env : Env
structure Phi.le (p q : Phi) : Prop where
 blk : ∀ b x, p.blk b = some x → q.blk b = some x
 cap : ∀ k x, p.cap k = some x → q.cap k = some x
 sym : ∀ k x, p.sym k = some x → q.sym k = some x
 env : q.env = p.env
theorem Phi.le.rfl' (p : Phi) : p.le p := ⟨fun _ _ h => h, fun _ _ h => h, fun _ _ h => h, rfl⟩
theorem Phi.le.trans {p q r : Phi} (h : p.le q) (h' : q.le r) : p.le r := ⟨fun _ _ x => h'.blk _ _ (h.blk _ _ x), fun _ _ x => h'.cap _ _ (h.cap _ _ x), fun _ _ x => h'.sym _ _ (h.sym _ _ x), h'.env.trans h.env⟩
inductive CR (φ : Phi) : ACap → Nat → Prop
 | exact (n : Nat) : CR φ (.exact n) n
 | var {k s c : Nat} (h : φ.cap k = some c) : CR φ (.var k s) (c - s)
def plainV : Value → Bool
 | .agg _ | .tuple _ | .bool _ => false
 | _ => true
mutual
inductive VR (φ : Phi) : AV → Value → Prop
 | bool (b : Bool) : VR φ (.bool b) (.bool b)
 | int (k : IntKind) (n : Int) : VR φ (.int k n) (.int k n)
 | str (s : ByteArray) : VR φ (.str s) (.string s)
 | nilptr : VR φ .nilptr (.pointer none)
 | ptr {b r sh : Nat} (h : φ.blk b = some (r, sh)) (o : Nat) : VR φ (.ptr b o) (.pointer (some ⟨r, sh + o, none⟩))
 | nilslice : VR φ .nilslice (.slice none 0 0)
 | slice {b r sh : Nat} {cap : ACap} {c : Nat} (h : φ.blk b = some (r, sh)) (hc : CR φ cap c) (o n : Nat) (hn : n ≤ c) : VR φ (.slice b o n cap) (.slice (some ⟨r, sh + o, none⟩) n c)
 | slice0 (z : Bool) (a : Addr) (c : Nat) (hz : z = true → c = 0) : VR φ (.slice0 z) (.slice (some a) 0 c)
 | sym {i : Nat} {v : Value} (h : φ.sym i = some v) (hp : plainV v = true) : VR φ (.sym i) v
 | tm (k : IntKind) (t : Tm) {n : Int} (h : t.ev φ.env = n) : VR φ (.tm k t) (.int k n)
 | ssl0 (b : Nat) (cap : ACap) {len : Tm} (hn : len.ev φ.env = 0) : VR φ (.ssl b len cap) (.slice none 0 0)
 | ssl {b r sh n c : Nat} {len : Tm} {cap : ACap} (h : φ.blk b = some (r, sh)) (hn : len.ev φ.env = (n : Int)) (hc : CR φ cap c) (hle : n ≤ c) : VR φ (.ssl b len cap) (.slice (some ⟨r, sh, none⟩) n c)
 | sptr {b r sh n : Nat} {t : Tm} (h : φ.blk b = some (r, sh)) (ht : t.ev φ.env = (n : Int)) (z o : Nat) : VR φ (.sptr b t z o) (.pointer (some ⟨r, sh + (n * z + o), none⟩))
 | nilmap : VR φ .nilmap (.map none)
 | map {b r sh : Nat} (h : φ.blk b = some (r, sh)) : VR φ (.map b) (.map (some r))
 | yld {b r sh : Nat} (h : φ.blk b = some (r, sh)) : VR φ (.yld b) (.func (.yield r) #[] #[])
 | func (f : FuncId) {xs ys : List AV} {us vs : List Value} (hx : VRs φ xs us) (hy : VRs φ ys vs) : VR φ (.func f xs ys) (.func (.func f) us.toArray vs.toArray)
 | nilFunc : VR φ .nilFunc .nilFunc
 | iface (t : TypeId) {a : AV} {v : Value} (h : VR φ a v) : VR φ (.iface t a) (.iface t v)
 | nilIface : VR φ .nilIface .nilIface
 | agg {xs : List AV} {us : List Value} (h : VRs φ xs us) : VR φ (.agg xs) (.agg us.toArray)
 | tuple {xs : List AV} {us : List Value} (h : VRs φ xs us) : VR φ (.tuple xs) (.tuple us.toArray)
inductive VRs (φ : Phi) : List AV → List Value → Prop
 | nil : VRs φ [] []
 | cons {a : AV} {v : Value} {xs : List AV} {us : List Value} (h : VR φ a v) (hs : VRs φ xs us) : VRs φ (a :: xs) (v :: us)
end
theorem CR.mono {p q : Phi} (h : p.le q) {a : ACap} {c : Nat} (hc : CR p a c) : CR q a c :=
 match hc with
 | .exact n => .exact n
 | .var h' => .var (h.cap _ _ h')
mutual
theorem VR.mono {p q : Phi} (h : p.le q) : ∀ {a : AV} {v : Value}, VR p a v → VR q a v
 | _, _, .bool b => .bool b
 | _, _, .int k n => .int k n
 | _, _, .str s => .str s
 | _, _, .nilptr => .nilptr
 | _, _, .ptr hb o => .ptr (h.blk _ _ hb) o
 | _, _, .nilslice => .nilslice
 | _, _, .slice hb hc o n hn => .slice (h.blk _ _ hb) (hc.mono h) o n hn
 | _, _, .slice0 z a c hz => .slice0 z a c hz
 | _, _, .sym hs hp => .sym (h.sym _ _ hs) hp
 | _, _, .tm k t ht => .tm k t (by rw [h.env]; exact ht)
 | _, _, .ssl0 b cap hn => .ssl0 b cap (by rw [h.env]; exact hn)
 | _, _, .ssl hb hn hc hle => .ssl (h.blk _ _ hb) (by rw [h.env]; exact hn) (hc.mono h) hle
 | _, _, .sptr hb ht z o => .sptr (h.blk _ _ hb) (by rw [h.env]; exact ht) z o
 | _, _, .nilmap => .nilmap
 | _, _, .map hb => .map (h.blk _ _ hb)
 | _, _, .yld hb => .yld (h.blk _ _ hb)
 | _, _, .func f hx hy => .func f (VRs.mono h hx) (VRs.mono h hy)
 | _, _, .nilFunc => .nilFunc
 | _, _, .iface t hv => .iface t (VR.mono h hv)
 | _, _, .nilIface => .nilIface
 | _, _, .agg hx => .agg (VRs.mono h hx)
 | _, _, .tuple hx => .tuple (VRs.mono h hx)
theorem VRs.mono {p q : Phi} (h : p.le q) : ∀ {a : List AV} {v : List Value}, VRs p a v → VRs q a v
 | _, _, .nil => .nil
 | _, _, .cons hv hs => .cons (VR.mono h hv) (VRs.mono h hs)
end
theorem VRs.length {p : Phi} : ∀ {a : List AV} {v : List Value}, VRs p a v → a.length = v.length
 | _, _, .nil => rfl
 | _, _, .cons _ hs => by simp [hs.length]
theorem VRs.append {p : Phi} : ∀ {a b : List AV} {v u : List Value}, VRs p a v → VRs p b u → VRs p (a ++ b) (v ++ u)
 | _, _, _, _, .nil, h => h
 | _, _, _, _, .cons h hs, h' => .cons h (hs.append h')
theorem VRs.get {p : Phi} : ∀ {a : List AV} {v : List Value}, VRs p a v → ∀ (i : Nat) (x : AV), a[i]? = some x → ∃ u, v[i]? = some u ∧ VR p x u
 | _, _, .nil, i, x, h => by simp at h
 | _, _, .cons hv hs, i, x, h => by
  cases i with
  | zero => simp at h; subst h; exact ⟨_, rfl, hv⟩
  | succ i => simp at h; simpa using hs.get i x h
theorem VRs.take {p : Phi} (n : Nat) : ∀ {a : List AV} {v : List Value}, VRs p a v → VRs p (a.take n) (v.take n) := by
 induction n with
 | zero => intro a v _; simp; exact .nil
 | succ n ih => intro a v h; cases h with
  | nil => exact .nil
  | cons hv hs => exact .cons hv (ih hs)
theorem VRs.drop {p : Phi} (n : Nat) : ∀ {a : List AV} {v : List Value}, VRs p a v → VRs p (a.drop n) (v.drop n) := by
 induction n with
 | zero => intro a v h; simpa using h
 | succ n ih => intro a v h; cases h with
  | nil => exact .nil
  | cons hv hs => exact ih hs
theorem VR.cells {p : Phi} {a : AV} {v : Value} (h : VR p a v) : VRs p a.cells v.cells.toList := by
 cases h with
 | sym hs hp =>
  have : v.cells = #[v] := by cases v <;> first | rfl | simp [plainV] at hp
  rw [this]
  exact .cons (.sym hs hp) .nil
 | agg hx => simpa [AV.cells, Value.cells] using hx
 | tuple hx => simp only [AV.cells, Value.cells]; exact .cons (by constructor <;> assumption) .nil
 | _ => simp only [AV.cells, Value.cells]; exact .cons (by constructor <;> assumption) .nil
def TR (φ : Phi) (T : PT AV) (tmps : Array Value) : Prop := ∀ i a, T.get i = some a → ∃ v, tmps[i]? = some v ∧ VR φ a v
theorem TR.mono {p q : Phi} (h : p.le q) {T : PT AV} {t : Array Value} (ht : TR p T t) : TR q T t := fun i a hi => let ⟨v, h1, h2⟩ := ht i a hi; ⟨v, h1, h2.mono h⟩
def ER (φ : Phi) : List (AV × AV × Nat) → List MapEntry → Prop
 | [], [] => True
 | (k, v, b) :: r, e :: s => VR φ k e.key ∧ VR φ v e.val ∧ e.born = b ∧ ER φ r s
 | _, _ => False
theorem ER.mono {p q : Phi} (h : p.le q) : ∀ {l : List (AV × AV × Nat)} {m : List MapEntry}, ER p l m → ER q l m
 | [], [], _ => trivial
 | (_, _, _) :: _, _ :: _, ⟨h1, h2, h3, h4⟩ => ⟨h1.mono h, h2.mono h, h3, ER.mono h h4⟩
def CellsR (φ : Phi) (sh : Nat) (c : PT AV) (n : Nat) (arr : Array Value) : Prop :=
 sh + n ≤ arr.size ∧ ∀ i a, i < n → c.get i = some a → ∃ v, arr[sh + i]? = some v ∧ VR φ a v
theorem CellsR.mono {p q : Phi} (h : p.le q) {sh : Nat} {c : PT AV} {n : Nat} {arr : Array Value} (hc : CellsR p sh c n arr) : CellsR q sh c n arr :=
 ⟨hc.1, fun i a hi ha => let ⟨v, h2, h3⟩ := hc.2 i a hi ha; ⟨v, h2, h3.mono h⟩⟩
def RowR (φ : Phi) (sh : Nat) (ks : List IntKind) (A : ATm) (N : Nat) (arr : Array Value) : Prop :=
 0 < ks.length ∧ sh + N * ks.length ≤ arr.size ∧ ∀ j, j < N * ks.length → ∃ k, ks[j % ks.length]? = some k ∧ arr[sh + j]? = some (.int k (A.ev φ.env j))
theorem RowR.mono {p q : Phi} (h : p.le q) {sh : Nat} {ks : List IntKind} {A : ATm} {N : Nat} {arr : Array Value} (hc : RowR p sh ks A N arr) : RowR q sh ks A N arr := by
 unfold RowR; rw [h.env]; exact hc
theorem CellsR.of_total {φ : Phi} {sh : Nat} {c : PT AV} {n : Nat} {arr : Array Value} (h1 : sh + n ≤ arr.size) (h2 : ∀ i, i < n → ∃ a v, c.get i = some a ∧ arr[sh + i]? = some v ∧ VR φ a v) : CellsR φ sh c n arr :=
 ⟨h1, fun i a hi ha => by
  obtain ⟨a', v, g1, g2, g3⟩ := h2 i hi
  rw [ha] at g1
  simp at g1
  subst g1
  exact ⟨v, g2, g3⟩⟩
inductive OR (φ : Phi) : Nat → AObj → Obj → Prop
 | cells {sh : Nat} {c : PT AV} {n : Nat} {arr : Array Value} {e : TypeId} (h : CellsR φ sh c n arr) : OR φ sh (.cells c n none) (.cells arr e (0, 0))
 | tail {sh : Nat} {c : PT AV} {n k z cp : Nat} {arr : Array Value} {e : TypeId} {fz : Nat × Nat} (h : CellsR φ sh c n arr) (hk : φ.cap k = some cp) (hs : arr.size = sh + cp * z) (hf : fz = (0, 0) ∨ z = 1 ∧ arr.size ≤ fz.1) :
   OR φ sh (.cells c n (some (k, z))) (.cells arr e fz)
 | rom {sh : Nat} {c : PT AV} {n k : Nat} {arr : Array Value} {e : TypeId} {fz : Nat × Nat} (h : CellsR φ sh c n arr) : OR φ sh (.cells c n (some (k, 0))) (.cells arr e fz)
 | arr {sh N : Nat} {ks : List IntKind} {A : ATm} {n : Tm} {arr : Array Value} {e : TypeId} (hn : n.ev φ.env = (N : Int)) (h : RowR φ sh ks A N arr) : OR φ sh (.arr ks A n none) (.cells arr e (0, 0))
 | arrT {sh N k cp : Nat} {ks : List IntKind} {A : ATm} {n : Tm} {arr : Array Value} {e : TypeId} {fz : Nat × Nat} (hn : n.ev φ.env = (N : Int)) (h : RowR φ sh ks A N arr) (hk : φ.cap k = some cp) (hs : arr.size = sh + cp * ks.length) (hf : fz = (0, 0) ∨ ks.length = 1 ∧ arr.size ≤ fz.1) :
   OR φ sh (.arr ks A n (some (k, ks.length))) (.cells arr e fz)
 | map {sh : Nat} {es : List (AV × AV × Nat)} {clock : Nat} {fs : Array MapEntry} (h : ER φ es fs.toList) : OR φ sh (.map es clock) (.map fs clock)
 | iter0 (since : Nat) (seen : List Nat) (st : Nat) : OR φ 0 (.iter none since seen st) (.mapIter none since seen.toArray st)
 | iter1 {m r sh : Nat} (h : φ.blk m = some (r, sh)) (since : Nat) (seen : List Nat) (st : Nat) : OR φ 0 (.iter (some m) since seen st) (.mapIter (some r) since seen.toArray st)
 | siter (s : ByteArray) (pos : Nat) : OR φ 0 (.siter s pos) (.stringIter s pos)
 | loop {sh : Nat} {t : PT AV} {ds rd shd : Nat} {L : Loop} (ht : TR φ t L.tmps) (hd : φ.blk ds = some (rd, shd)) (hd' : L.defers = rd) :
   OR φ sh (.loop L.state L.pending L.fn t L.tmps.size L.params.toList L.assign L.body ds) (.loop L)
 | dfd {sh : Nat} (b : Bool) : OR φ sh (.dfd b) (.deferred (if b then some [] else none))
theorem OR.mono {p q : Phi} (h : p.le q) {sh : Nat} {o : AObj} {r : Obj} (ho : OR p sh o r) : OR q sh o r := by
 cases ho with
 | cells hc => exact .cells (hc.mono h)
 | tail hc hk hs hf => exact .tail (hc.mono h) (h.cap _ _ hk) hs hf
 | rom hc => exact .rom (hc.mono h)
 | arr hn hc => exact .arr (by rw [h.env]; exact hn) (hc.mono h)
 | arrT hn hc hk hs hf => exact .arrT (by rw [h.env]; exact hn) (hc.mono h) (h.cap _ _ hk) hs hf
 | map he => exact .map (he.mono h)
 | iter0 a b c => exact .iter0 a b c
 | iter1 hm a b c => exact .iter1 (h.blk _ _ hm) a b c
 | siter s p => exact .siter s p
 | loop ht hd hd' => exact .loop (ht.mono h) (h.blk _ _ hd) hd'
 | dfd b => exact .dfd b
def Void (φ : Phi) (b : Nat) : AObj → Prop
 | .arr _ _ n _ => n.ev φ.env = 0 ∧ φ.blk b = none ∧ b < GB
 | _ => False
structure Rel (φ : Phi) (s : St) (w : World) : Prop where
 obj : ∀ b o, s.h.get b = some o → Void φ b o ∨ ∃ r sh ro, φ.blk b = some (r, sh) ∧ w.heap[r]? = some ro ∧ OR φ sh o ro
 inj : ∀ b b' r sh sh', (s.h.get b).isSome = true → (s.h.get b').isSome = true → φ.blk b = some (r, sh) → φ.blk b' = some (r, sh') → b = b'
 fresh : ∀ b, s.nx ≤ b → φ.blk b = none
 freshc : ∀ k, s.nc ≤ k → φ.cap k = none
 glob : ∀ g, g < GG → φ.blk g = some (g, 0)
 gnx : GB ≤ s.nx
 facts : Known1 φ.env s.fs
theorem Void.none {φ : Phi} {b : Nat} {o : AObj} (h : Void φ b o) : φ.blk b = .none := by
 cases o <;> first | exact h.2.1 | exact h.elim
theorem Void.lt {φ : Phi} {b : Nat} {o : AObj} (h : Void φ b o) : b < GB := by
 cases o <;> first | exact h.2.2 | exact h.elim
theorem Void.mono {p q : Phi} {b : Nat} {o : AObj} (h : Void p b o) (he : q.env = p.env) (hq : q.blk b = .none) : Void q b o := by
 cases o <;> first | exact ⟨by rw [he]; exact h.1, hq, h.2.2⟩ | exact h.elim
theorem Void.arr {φ : Phi} {b : Nat} {o : AObj} (h : Void φ b o) : ∃ ks A n tl, o = .arr ks A n tl := by
 cases o <;> first | exact ⟨_, _, _, _, rfl⟩ | exact h.elim
theorem Rel.objS {φ : Phi} {s : St} {w : World} (h : Rel φ s w) {b r sh : Nat} {o : AObj} (ho : s.h.get b = some o) (hr : φ.blk b = some (r, sh)) : ∃ ro, w.heap[r]? = some ro ∧ OR φ sh o ro := by
 rcases h.obj b o ho with hv | ⟨r', sh', ro, h1, h2, h3⟩
 ·rw [hv.none] at hr; simp at hr
 ·rw [hr] at h1
  simp at h1
  obtain ⟨rfl, rfl⟩ := h1
  exact ⟨ro, h2, h3⟩
theorem Rel.objN {φ : Phi} {s : St} {w : World} (h : Rel φ s w) {b : Nat} {o : AObj} (ho : s.h.get b = some o) (hn : ∀ ks A n tl, o ≠ .arr ks A n tl) : ∃ r sh ro, φ.blk b = some (r, sh) ∧ w.heap[r]? = some ro ∧ OR φ sh o ro := by
 rcases h.obj b o ho with hv | hx
 ·obtain ⟨ks, A, n, tl, e⟩ := hv.arr; exact absurd e (hn _ _ _ _)
 ·exact hx
noncomputable def ownB (h : PT AObj) (b : Nat) : Bool :=
 match h.get b with
 | some (.cells _ _ (some (_, 0))) => false
 | some _ => true
 | none => false
theorem ownB.some {h : PT AObj} {b : Nat} (hb : ownB h b = true) : (h.get b).isSome = true := by
 unfold ownB at hb
 split at hb <;> simp_all
theorem ownB.eq {h h' : PT AObj} {b c : Nat} (e : h'.get c = h.get b) : ownB h' c = ownB h b := by
 unfold ownB; rw [e]
def Loose (e : Env) : Prop := e.fp 999999 (fun _ => 0) 0 (fun _ => 0) 0 = true
def FL : Fm := .pr 999999 (.k 0) (.c 0) (.k 0) (.c 0) true
structure Stp (φ : Phi) (s : St) (w : World) (φ' : Phi) (s' : St) (w' : World) : Prop where
 ext : φ.le φ'
 own : ∀ b r sh, (s'.h.get b).isSome = true → φ'.blk b = some (r, sh) → w.heap.size ≤ r ∨ ∃ b0 sh0, (s.h.get b0).isSome = true ∧ φ.blk b0 = some (r, sh0)
 owb : ∀ b r sh, ownB s'.h b = true → φ'.blk b = some (r, sh) → w.heap.size ≤ r ∨ ∃ b0 sh0, ownB s.h b0 = true ∧ φ.blk b0 = some (r, sh0)
 keep : ∀ r, r < w.heap.size → (∀ b sh, ownB s.h b = true → φ.blk b ≠ some (r, sh)) → w'.heap[r]? = w.heap[r]?
 size : w.heap.size ≤ w'.heap.size
 os : w'.os = w.os
 out : w'.output = w.output
 tape : w'.tape = w.tape
 nx : s.nx ≤ s'.nx
 nc : s.nc ≤ s'.nc
 old : ∀ b, b < s.nx → φ'.blk b = φ.blk b
 shape : ∀ (r : Nat) (arr : Array Value) (e : TypeId) (fz : Nat × Nat), w.heap[r]? = some (.cells arr e fz) → ∃ arr' fz', w'.heap[r]? = some (.cells arr' e fz') ∧ arr'.size = arr.size
 dr : ¬ Loose φ.env → w.drawn ≤ w'.drawn
theorem Stp.refl (φ : Phi) (s : St) (w : World) : Stp φ s w φ s w :=
 ⟨Phi.le.rfl' φ, fun b _ sh h h' => .inr ⟨b, sh, h, h'⟩, fun b _ sh h h' => .inr ⟨b, sh, h, h'⟩, fun _ _ _ => rfl, Nat.le_refl _, rfl, rfl, rfl, Nat.le_refl _, Nat.le_refl _, fun _ _ => rfl, fun _ arr _ fz h => ⟨arr, fz, h, rfl⟩, fun _ => Nat.le_refl _⟩
theorem Stp.trans {φ φ₁ φ₂ : Phi} {s s₁ s₂ : St} {w w₁ w₂ : World} (h : Stp φ s w φ₁ s₁ w₁) (h' : Stp φ₁ s₁ w₁ φ₂ s₂ w₂) : Stp φ s w φ₂ s₂ w₂ where
 ext := h.ext.trans h'.ext
 own := fun b r sh hb hr => by
  rcases h'.own b r sh hb hr with h1 | ⟨b0, sh0, h1, h2⟩
  ·exact .inl (Nat.le_trans h.size h1)
  ·exact h.own b0 r sh0 h1 h2
 owb := fun b r sh hb hr => by
  rcases h'.owb b r sh hb hr with h1 | ⟨b0, sh0, h1, h2⟩
  ·exact .inl (Nat.le_trans h.size h1)
  ·exact h.owb b0 r sh0 h1 h2
 keep := fun r hr hn => by
  rw [h'.keep r (Nat.lt_of_lt_of_le hr h.size) ?_, h.keep r hr hn]
  intro b sh hb he
  rcases h.owb b r sh hb he with h1 | ⟨b0, sh0, h1, h2⟩
  ·omega
  ·exact hn b0 sh0 h1 h2
 size := Nat.le_trans h.size h'.size
 os := h'.os.trans h.os
 out := h'.out.trans h.out
 tape := h'.tape.trans h.tape
 nx := Nat.le_trans h.nx h'.nx
 nc := Nat.le_trans h.nc h'.nc
 old := fun b hb => (h'.old b (Nat.lt_of_lt_of_le hb h.nx)).trans (h.old b hb)
 shape := fun r arr e fz hr => by
  obtain ⟨a1, f1, h1, e1⟩ := h.shape r arr e fz hr
  obtain ⟨a2, f2, h2, e2⟩ := h'.shape r a1 e f1 h1
  exact ⟨a2, f2, h2, e2.trans e1⟩
 dr := fun hn => Nat.le_trans (h.dr hn) (h'.dr (by rw [h.ext.env]; exact hn))
end Go.Eng

