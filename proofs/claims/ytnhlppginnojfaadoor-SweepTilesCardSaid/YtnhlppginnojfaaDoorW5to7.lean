/-
  What is to be shown of operations that read, make blocks, change the state, call.
  Nothing is where new blocks come, whatever is done.
  Loops over functions: a round, the loop.
  What is put behind a slice whose old value lives on: two outcomes.
  What is to be shown of regions and of code.
-/
import Derived.Test.YtnhlppginnojfaaDoorW1to4
set_option linter.unusedVariables false
set_option linter.unusedSimpArgs false
namespace Go.Eng
noncomputable section
variable {P : Program} {D : Tab}
def plainE : AV → Bool
 | .int _ _ => false
 | .str _ => false
 | .tm _ _ => false
 | _ => true
theorem bin_eqA {s : St} {op : BinOp} {t : TypeId} {x y : Operand} {a b : AV} (ha : plainE a = true) (hb : plainE b = true) : binA D s op t x y a b = eqA D s op t x y a b := by
 cases a <;> simp [plainE] at ha <;> cases b <;> simp [plainE] at hb <;> rfl
theorem fieldOf_plain {i : TyI} {a u : AV} {o : Nat} (h : fieldOf i a o = some u) : plainE a = true := by
 unfold fieldOf at h
 split at h
 ·rfl
 ·simp at h
theorem aeqs_plain {h : PT AObj} {a b : AV} : ∀ (d : Nat) (fs : List (TypeId × Nat × Bool)) (r : Bool), aeqs D h d fs a b = some r → plainE a = true ∧ plainE b = true
 | 0, fs, r, e => by simp [aeqs] at e
 | d + 1, [], r, e => by
  simp only [aeqs] at e
  cases a <;> cases b <;> first | exact ⟨rfl, rfl⟩ | (simp at e; done)
 | d + 1, (t, off, nm) :: fs, r, e => by
  simp only [aeqs] at e
  cases nm with
  | false => exact aeqs_plain d _ _ e
  | true =>
   simp only at e
   split at e
   ·simp at e
   ·split at e
    ·rename_i p q hp hq
     exact ⟨fieldOf_plain hp, fieldOf_plain hq⟩
    ·simp at e
theorem aeq_plain {h : PT AObj} {d : Nat} {t : TypeId} {i : TyI} {a b : AV} {r : Bool} (hi : D.ty.get t = some i) (h1 : ∀ k, i.d ≠ .int k) (h2 : i.d ≠ .string) (e : aeq D h (d + 1) t a b = some r) : plainE a = true ∧ plainE b = true := by
 simp only [aeq, hi] at e
 split at e
 ·unfold eqBool at e; split at e <;> first | exact ⟨rfl, rfl⟩ | (simp at e; done)
 ·rename_i k hd; exact absurd hd (h1 k)
 ·rename_i hd; exact absurd hd h2
 ·unfold eqPtr at e; split at e <;> first | exact ⟨rfl, rfl⟩ | (simp at e; done)
 ·unfold eqIface at e; split at e <;> first | exact ⟨rfl, rfl⟩ | (simp at e; done)
 ·unfold eqSlice at e; split at e <;> first | exact ⟨rfl, rfl⟩ | (simp at e; done)
 ·unfold eqMap at e; split at e <;> first | exact ⟨rfl, rfl⟩ | (simp at e; done)
 ·unfold eqFunc at e; split at e <;> first | exact ⟨rfl, rfl⟩ | (simp at e; done)
 ·split at e
  ·simp at e
  ·exact aeqs_plain _ _ _ e
 ·simp at e
theorem eqA_some {s : St} {op : BinOp} {t : TypeId} {x y : Operand} {a b v : AV} (h : eqA D s op t x y a b = some v) : ∃ r, aeq D s.h depth t a b = some r := by
 unfold eqA at h
 split at h
 ·split at h
  ·simp at h
  ·split at h
   ·exact ⟨_, by assumption⟩
   ·simp at h
 ·simp at h
theorem eqA_of {s : St} {op : BinOp} {t : TypeId} {x y : Operand} {a b : AV} {r : Bool} (ho : isEqOp op = true) (hn : nilIfs x y a b = false) (h : aeq D s.h depth t a b = some r) : eqA D s op t x y a b = some (.bool (if yesOf op then r else !r)) := by
 cases op <;> simp [isEqOp] at ho <;> simp [eqA, isEq, hn, h, yesOf]
theorem nilT_aeq {h : PT AObj} {t : TypeId} {i : TyI} {v z : AV} {r : Bool} (hi : D.ty.get t = some i) (e : nilT i.d v = some r) (hz : nilFit i.d z = true) :
  aeq D h depth t v z = some r ∧ aeq D h depth t z v = some r ∧ (∀ x y, nilIfs x y v z = false) ∧ (∀ x y, nilIfs x y z v = false) ∧ plainE v = true ∧ plainE z = true := by
 unfold nilT at e
 split at e
 ·rename_i hd
  rw [hd] at hz
  cases z <;> simp [nilFit] at hz
  split at e <;> simp at e <;> subst e <;> simp [aeq, depth, hi, hd, eqPtr, nilIfs, plainE]
 ·rename_i hd
  rw [hd] at hz
  cases z <;> simp [nilFit] at hz
  split at e <;> simp at e <;> subst e <;> simp [aeq, depth, hi, hd, eqSlice, nilIfs, plainE]
 ·rename_i hd
  rw [hd] at hz
  cases z <;> simp [nilFit] at hz
  split at e <;> simp at e <;> subst e <;> simp [aeq, depth, hi, hd, eqMap, nilIfs, plainE]
 ·rename_i hd
  rw [hd] at hz
  cases z <;> simp [nilFit] at hz
  split at e <;> simp at e <;> subst e <;> simp [aeq, depth, hi, hd, eqFunc, nilIfs, plainE]
 ·simp at e
theorem nilIfs_agg {x y : Operand} {a b : AV} {h : PT AObj} {t : TypeId} {i : TyI} {r : Bool} (hi : D.ty.get t = some i) (hne : i.d ≠ .iface) (e : aeq D h depth t a b = some r) : nilIfs x y a b = false := by
 cases ha : nilIfs x y a b with
 | false => rfl
 | true =>
  exfalso
  unfold nilIfs at ha
  split at ha
  ·simp only [aeq, depth, hi] at e
   split at e <;> first | (simp [eqBool, eqInt, eqStr, eqPtr, eqSlice, eqMap, eqFunc] at e; done) | skip
   ·rename_i hd; exact hne hd
   ·rename_i fs hd
    split at e
    ·simp at e
    ·have key : ∀ (d : Nat) (fs : List (TypeId × Nat × Bool)) (r : Bool), aeqs D h d fs .nilIface .nilIface = some r → False := by
      intro d
      induction d with
      | zero => intro fs r h; simp [aeqs] at h
      | succ d ih =>
       intro fs r h
       cases fs with
       | nil => simp [aeqs] at h
       | cons f fs =>
        obtain ⟨t', off, nm⟩ := f
        simp only [aeqs] at h
        cases nm with
        | false => exact ih _ _ h
        | true =>
         simp only [fieldOf] at h
         split at h <;> simp at h
     exact key _ _ _ e
  ·simp at ha
theorem cmpK_ok {s : St} {op : BinOp} {t : TypeId} {x y : Operand} {a b : AV} {K : AV → Prop} (h : cmpK D s op t x y a b K) : ∃ u, binA D s op t x y a b = some u ∧ K u := by
 unfold cmpK at h
 split at h
 ·exact h.elim
 ·rename_i i hi
  split at h
  ·split at h
   ·rename_i k n
    split at h
    ·rename_i k' m
     split at h
     ·rename_i hk
      have hk : k = k' := by simpa using hk
      obtain ⟨u, h1, h2⟩ := optK_ok h
      refine ⟨u, ?_, h2⟩
      have hsh : isSh op = false := by
       cases op <;> first | rfl | (simp [bin] at h1)
      show binB D s op t x y (.int k n) (.int k' m) = some u
      simp only [binB, hsh, hk, if_true]
      rw [← hk]; exact h1
     ·exact h.elim
    ·exact h.elim
   ·exact h.elim
  ·split at h
   ·split at h
    ·obtain ⟨u, h1, h2⟩ := optK_ok h
     exact ⟨u, h1, h2⟩
    ·exact h.elim
   ·exact h.elim
  ·rename_i hd
   split at h
   ·rename_i heq
    obtain ⟨u, h1, h2⟩ := optK_ok h
    split at h1
    ·rename_i r hr
     refine ⟨u, ?_, h2⟩
     have hae : aeq D s.h depth t a b = some r := by simp [aeq, depth, hi, hd, hr]
     obtain ⟨p1, p2⟩ := aeq_plain hi (by simp [hd]) (by simp [hd]) hae
     rw [bin_eqA p1 p2, eqA_of heq (nilIfs_agg hi (by simp [hd]) hae) hae]
     exact h1
    ·simp at h1
   ·exact h.elim
  ·rename_i fs hd
   split at h
   ·rename_i heq
    split at h
    ·rename_i r hr
     have hae := aeqS_ok (h := s.h) hr
     obtain ⟨p1, p2⟩ := aeq_plain hi (by simp [hd]) (by simp [hd]) hae
     exact ⟨_, by rw [bin_eqA p1 p2, eqA_of heq (nilIfs_agg hi (by simp [hd]) hae) hae], h⟩
    ·obtain ⟨v, h1, h2⟩ := h
     obtain ⟨r, hae⟩ := eqA_some h1
     obtain ⟨p1, p2⟩ := aeq_plain hi (by simp [hd]) (by simp [hd]) hae
     exact ⟨v, by rw [bin_eqA p1 p2]; exact h1, h2⟩
   ·exact h.elim
  ·rename_i d h1 h2 h3 h4
   split at h
   ·rename_i heq
    have gen : (∃ r : Bool, eqA D s op t x y a b = some (.bool r) ∧ K (.bool r)) → ∃ u, binA D s op t x y a b = some u ∧ K u := fun h => by
     obtain ⟨r, hr, hk⟩ := h
     obtain ⟨r', hae⟩ := eqA_some hr
     obtain ⟨p1, p2⟩ := aeq_plain hi (fun k hk => h1 k hk) (fun hk => h2 hk) hae
     exact ⟨_, by rw [bin_eqA p1 p2]; exact hr, hk⟩
    split at h
    ·split at h
     ·rename_i hz
      unfold nilK at h
      split at h
      ·rename_i r hr
       obtain ⟨g1, g2, g3, g4, g5, g6⟩ := nilT_aeq (h := s.h) hi hr hz
       exact ⟨_, by rw [bin_eqA g5 g6, eqA_of heq (g3 x y) g1], h⟩
      ·exact h.elim
     ·split at h
      ·rename_i hz
       unfold nilK at h
       split at h
       ·rename_i r hr
        obtain ⟨g1, g2, g3, g4, g5, g6⟩ := nilT_aeq (h := s.h) hi hr hz
        exact ⟨_, by rw [bin_eqA g6 g5, eqA_of heq (g4 x y) g2], h⟩
       ·exact h.elim
      ·exact gen h
    ·exact gen h
   ·exact h.elim
def slLen (x : AV) : Option Nat :=
 match x with
 | .nilslice => some 0
 | .slice _ _ n _ => some n
 | .slice0 _ => some 0
 | _ => none
def slenK (x : AV) (K : Nat → Prop) : Prop :=
 match slLen x with
 | some n => K n
 | none => False
def lnK (D : Tab) (s : St) (t : TypeId) (x : AV) (K : AV → Prop) : Prop :=
 match D.ty.get t with
 | some i =>
  match i.d with
  | .string => (match x with | .str b => K (.int .i64 b.size) | _ => False)
  | .slice _ => slenK x fun n => K (.int .i64 (n : Nat))
  | .map _ _ => ∃ es, entriesA s x = some es ∧ K (.int .i64 (es.length : Nat))
  | .array n _ => K (.int .i64 n)
  | _ => False
 | none => False
theorem lnK_ok {s : St} {t : TypeId} {x : AV} {K : AV → Prop} (h : lnK D s t x K) : ∃ u, lenA D s t x = some u ∧ K u := by
 unfold lnK at h
 split at h
 ·rename_i i hi
  split at h
  ·rename_i hd
   split at h
   ·exact ⟨_, by simp [lenA, hi, hd], h⟩
   ·exact h.elim
  ·rename_i e hd
   unfold slenK slLen at h
   split at h
   ·rename_i n hn
    refine ⟨_, ?_, h⟩
    simp only [lenA, hi, hd]
    split at hn <;> simp at hn <;> subst hn <;> rfl
   ·exact h.elim
  ·rename_i k e hd
   obtain ⟨es, h1, h2⟩ := h
   refine ⟨_, ?_, h2⟩
   unfold entriesA at h1
   simp only [lenA, hi, hd]
   split at h1
   ·simp at h1; subst h1; rfl
   ·rename_i b
    split at h1
    ·rename_i es' clk hb
     simp at h1; subst h1
     simp [hb]
    ·simp at h1
   ·simp at h1
  ·rename_i n e hd
   exact ⟨_, by simp only [lenA, hi, hd], h⟩
  ·exact h.elim
 ·exact h.elim
def lkK (D : Tab) (s : St) (t : TypeId) (m k : AV) (ok : Bool) (K : AV → Prop) : Prop :=
 match D.ty.get t with
 | some i =>
  match i.d with
  | .map _ et =>
   match ok with
   | true => ∃ r : Bool, exT D et fun u => lookupA D s t m k true = some (.tuple [u, .bool r]) ∧ K (.tuple [u, .bool r])
   | false => exT D et fun u => lookupA D s t m k false = some u ∧ K u
  | _ => False
 | none => False
theorem lkK_ok {s : St} {t : TypeId} {m k : AV} {ok : Bool} {K : AV → Prop} (h : lkK D s t m k ok K) : ∃ u, lookupA D s t m k ok = some u ∧ K u := by
 unfold lkK at h
 split at h
 ·split at h
  ·split at h
   ·obtain ⟨r, h⟩ := h
    obtain ⟨u, h1, h2⟩ := exT_ok h
    exact ⟨_, h1, h2⟩
   ·exact exT_ok h
  ·exact h.elim
 ·exact h.elim
def readK (D : Tab) (T : PT AV) (s : St) (op : Op) (K : AV → Prop) : Prop :=
 match op with
 | .binOp op t x y _ => evK T x fun a => evK T y fun b => cmpK D s op t x y a b K
 | .load t a => evK T a fun p => ldK D s t p K
 | .lookup t m k ok => evK T m fun a => evK T k fun b => lkK D s t a b ok K
 | .indexAddr t x i => evK T x fun v => evK T i fun n => ixaK D t v n K
 | .call c =>
  match c.callee with
  | .builtin .len => (match c.argTypes.toList with | [t] => evsK T c.args.toList fun vs => (match vs with | [x] => lnK D s t x K | _ => False) | _ => False)
  | _ => False
 | _ => False
theorem readK_ok {T : PT AV} {s : St} {op : Op} {K : AV → Prop} (h : readK D T s op K) : ∃ v, K v ∧ opA D T s op = some (.val v s) := by
 unfold readK at h
 split at h
 ·obtain ⟨a, h1, h⟩ := optK_ok h
  obtain ⟨b, h2, h⟩ := optK_ok h
  obtain ⟨u, h3, h⟩ := cmpK_ok h
  exact ⟨u, h, by simp [opA, ev2, h1, h2, h3, v1]⟩
 ·obtain ⟨p, h1, h⟩ := optK_ok h
  obtain ⟨u, h2, h⟩ := ldK_ok h
  exact ⟨u, h, by simp [opA, ev1, h1, h2, v1]⟩
 ·obtain ⟨a, h1, h⟩ := optK_ok h
  obtain ⟨b, h2, h⟩ := optK_ok h
  obtain ⟨u, h3, h⟩ := lkK_ok h
  exact ⟨u, h, by simp [opA, ev2, h1, h2, h3, v1]⟩
 ·obtain ⟨a, h1, h⟩ := optK_ok h
  obtain ⟨b, h2, h⟩ := optK_ok h
  obtain ⟨u, h3, h⟩ := ixaK_ok h
  exact ⟨u, h, by simp [opA, ev2, h1, h2, h3, v1]⟩
 ·rename_i c
  split at h
  ·rename_i hc
   split at h
   ·rename_i t ht
    obtain ⟨vs, h1, h⟩ := evsK_ok h
    split at h
    ·obtain ⟨u, h2, h⟩ := lnK_ok h
     exact ⟨u, h, by simp [opA, callOp, h1, hc, builtinA, ht, h2, st1, v2]⟩
    ·exact h.elim
   ·exact h.elim
  ·exact h.elim
 ·exact h.elim
def noSym (v : AV) (R : Prop) : Prop :=
 match v with
 | .tm _ _ => False
 | .ssl _ _ _ => False
 | .sptr _ _ _ _ => False
 | _ => R
theorem noSym_ok {v : AV} {R : Prop} (h : noSym v R) : isTm v = false ∧ isSsl v = false ∧ R := by
 cases v <;> first | exact h.elim | exact ⟨rfl, rfl, h⟩
def reK (D : Tab) (T : PT AV) (s : St) (op : Op) (v : AV) (R : Prop) : Prop :=
 match op with
 | .load t a =>
  evK T a fun p =>
   match D.ty.get t with
   | none => False
   | some i =>
    match isAggT i.d with
    | true => (match v with | .agg cs => ldN s p i.size = some cs ∧ R | _ => False)
    | false => ld1 s p = some v ∧ R
 | .indexAddr _ x i => evK T x fun a => evK T i fun b => noSym a (noSym b R)
 | .call c => (match c.callee with | .builtin .len => (match c.argTypes.toList with | [t] => (match D.ty.get t with | some i => (match i.d with | .map _ _ => readAt D T s op = some v ∧ R | _ => R) | none => False) | _ => False) | _ => False)
 | .binOp o t x y _ => evK T x fun a => evK T y fun b =>
  (match a with
  | .int _ _ => (match b with | .int _ _ => R | _ => False)
  | .str _ => (match b with | .str _ => R | _ => False)
  | _ => binA D s o t x y a b = some v ∧ R)
 | _ => readAt D T s op = some v ∧ R
theorem lenA_any {s0 s : St} {t : TypeId} {i : TyI} {x v : AV} (hi : D.ty.get t = some i) (hm : ∀ k e, i.d ≠ .map k e) (h : lenA D s0 t x = some v) : lenA D s t x = some v := by
 unfold lenA at h ⊢
 rw [hi] at h ⊢
 simp only at h ⊢
 split at h <;> rename_i hd <;> first | exact absurd hd (hm _ _) | skip
 all_goals first | exact h | (simp only [hd]; exact h) | (simp at h; done)
theorem reK_ok {T : PT AV} {s0 s : St} {op : Op} {v : AV} {R : Prop} (h0 : opA D T s0 op = some (.val v s0)) (h : reK D T s op v R) : readAt D T s op = some v ∧ R := by
 unfold reK at h
 split at h
 ·obtain ⟨p, h1, h⟩ := optK_ok h
  split at h
  ·exact h.elim
  ·rename_i i hi
   split at h
   ·rename_i ha
    split at h
    ·rename_i cs
     refine ⟨?_, h.2⟩
     have := ldN_ok h.1 hi ha
     simp [readAt, opA, ev1, h1, this, v1]
    ·exact h.elim
   ·rename_i ha
    refine ⟨?_, h.2⟩
    have := ld1_ok h.1 hi ha
    simp [readAt, opA, ev1, h1, this, v1]
 ·rename_i t x i
  obtain ⟨a, e1, h⟩ := optK_ok h
  obtain ⟨b, e2, h⟩ := optK_ok h
  obtain ⟨q1, q2, h⟩ := noSym_ok h
  obtain ⟨q3, q4, h⟩ := noSym_ok h
  refine ⟨?_, h⟩
  simp only [opA, ev2, e1, e2, indexAddrX, q3, q2, Bool.or_self] at h0
  have : indexAddrX D s t a b = some v := by
   simp only [indexAddrX, q3, q2, Bool.or_self]
   obtain ⟨u, h4, h5⟩ := v1_ok h0
   simp at h5
   rw [h5]; exact h4
  simp [readAt, opA, ev2, e1, e2, this, v1]
 ·rename_i c
  split at h
  ·rename_i hc
   split at h
   ·rename_i t ht
    split at h
    ·rename_i i hi
     split at h
     ·exact h
     ·rename_i hm
      refine ⟨?_, h⟩
      simp only [opA, callOp, hc] at h0
      split at h0
      ·simp at h0
      ·rename_i args ha
       simp only [builtinA, ht] at h0
       split at h0
       ·rename_i heq
        simp at heq
        subst heq
        rename_i x
        cases hl : lenA D s0 t x with
        | none => rw [hl] at h0; simp [st1, v2] at h0
        | some u =>
         rw [hl] at h0
         simp [st1, v2] at h0
         subst h0
         have := lenA_any (s := s) hi (fun k e hd => hm k e hd) hl
         simp [readAt, opA, callOp, ha, hc, builtinA, ht, this, st1, v2]
       ·simp [v2] at h0
    ·exact h.elim
   ·exact h.elim
  ·exact h.elim
 ·rename_i op t x y u
  obtain ⟨a, e1, h⟩ := optK_ok h
  obtain ⟨b, e2, h⟩ := optK_ok h
  obtain ⟨w, h4, h5⟩ := v1_ok (show v1 s0 (binA D s0 op t x y a b) = some (.val v s0) by simpa [opA, ev2, e1, e2] using h0)
  simp at h5
  subst h5
  split at h
  ·split at h
   ·refine ⟨?_, h⟩
    have : binA D s op t x y (.int _ _) (.int _ _) = some v := h4
    simp [readAt, opA, ev2, e1, e2, this, v1]
   ·exact h.elim
  ·split at h
   ·refine ⟨?_, h⟩
    have : binA D s op t x y (.str _) (.str _) = some v := h4
    simp [readAt, opA, ev2, e1, e2, this, v1]
   ·exact h.elim
  ·exact ⟨by simp [readAt, opA, ev2, e1, e2, h.1, v1], h.2⟩
 ·exact h
end
end Go.Eng

namespace Go.Eng
noncomputable section
variable {P : Program} {D : Tab}
def Fr (s : St) : Prop := ∀ b, s.nx ≤ b → s.h.get b = none
theorem Rel.fr {φ : Phi} {s : St} {w : World} (h : Rel φ s w) : Fr s := fun b hb => by
 cases hx : s.h.get b with
 | none => rfl
 | some o => have := h.dom_lt (b := b) (by simp [hx]); omega
def Gro (s s' : St) : Prop := Fr s' ∧ s.nx ≤ s'.nx ∧ ∀ b, b < s.nx → s.h.get b = none → s'.h.get b = none
theorem Gro.refl {s : St} (h : Fr s) : Gro s s := ⟨h, Nat.le_refl _, fun _ _ h => h⟩
theorem Gro.trans {s s1 s2 : St} (h : Gro s s1) (h' : Gro s1 s2) : Gro s s2 := ⟨h'.1, Nat.le_trans h.2.1 h'.2.1, fun b hb hn => h'.2.2 b (Nat.lt_of_lt_of_le hb h.2.1) (h.2.2 b hb hn)⟩
theorem Gro.set {s : St} (h : Fr s) {b : Nat} {o o' : AObj} (hb : s.h.get b = some o) {nc : Nat} : Gro s { s with h := s.h.set b o', nc := nc } :=
 ⟨fun c hc => by
  have hc : s.nx ≤ c := hc
  have : c ≠ b := by rintro rfl; rw [h c hc] at hb; simp at hb
  simp [PT.get_set, this, h c hc], Nat.le_refl _, fun c _ hn => by
  have : c ≠ b := by rintro rfl; rw [hb] at hn; simp at hn
  simp [PT.get_set, this, hn]⟩
theorem Gro.set1 {s : St} (h : Fr s) {b : Nat} {o o' : AObj} (hb : s.h.get b = some o) : Gro s { s with h := s.h.set b o' } := Gro.set h hb
theorem Gro.new {s : St} (h : Fr s) {h' : PT AObj} (hh : ∀ c, s.h.get c = none → h'.get c = none) (o : AObj) (nc : Nat) : Gro s { s with h := h'.set s.nx o, nx := s.nx + 1, nc := nc } :=
 ⟨fun c hc => by
  have hc : s.nx + 1 ≤ c := hc
  have : c ≠ s.nx := by omega
  simp [PT.get_set, this, hh c (h c (by omega))], Nat.le_succ _, fun c hc hn => by
  have : c ≠ s.nx := by omega
  simp [PT.get_set, this, hh c hn]⟩
theorem Gro.stNew {s : St} (h : Fr s) (o : AObj) : Gro s (s.new o).2 := Gro.new h (fun _ h => h) o s.nc
theorem writeAll_gro {s s' : St} {b o : Nat} {vs : List AV} (h : Fr s) (hw : writeAll s b o vs = some s') : Gro s s' := by
 unfold writeAll at hw
 split at hw
 ·rename_i hb
  split at hw
  ·simp at hw; subst hw; exact .set1 h hb
  ·simp at hw
 ·simp at hw
theorem storeX_gro {s s' : St} {t : TypeId} {a v : AV} (h : Fr s) (hw : storeX D s t a v = some s') : Gro s s' := by
 unfold storeX at hw
 split at hw
 ·rename_i p hp
  have hb : ∃ o, s.h.get p.b = some o := by
   unfold rowAt at hp
   split at hp
   ·split at hp
    ·rename_i hb
     split at hp <;> simp at hp
     subst hp; exact ⟨_, hb⟩
    ·simp at hp
   ·split at hp
    ·rename_i hb
     simp at hp
     subst hp; exact ⟨_, hb⟩
    ·simp at hp
   ·simp at hp
  obtain ⟨o, hb⟩ := hb
  unfold symStore at hw
  split at hw
  ·simp at hw
  ·split at hw
   ·simp at hw; subst hw; exact .set1 h hb
   ·simp at hw
 ·unfold storeA at hw
  split at hw
  ·simp only at hw
   split at hw
   ·exact writeAll_gro h hw
   ·simp at hw
  ·simp at hw
theorem mapUpd_gro {s s' : St} {t : TypeId} {a b c : AV} (h : Fr s) (hw : mapUpdA D s t a b c = some s') : Gro s s' := by
 unfold mapUpdA at hw
 split at hw
 ·split at hw
  ·simp at hw
  ·split at hw
   ·rename_i hb
    split at hw <;> simp at hw <;> subst hw <;> exact .set1 h hb
   ·simp at hw
 ·simp at hw
theorem mapEntry_gro {s s' : St} {t : TypeId} {a b v : AV} (h : Fr s) (hw : mapEntryA D s t a b = some (v, s')) : Gro s s' := by
 unfold mapEntryA at hw
 split at hw
 ·split at hw
  ·simp at hw
  ·split at hw
   ·rename_i hb
    split at hw
    ·simp at hw
    ·split at hw
     ·simp at hw; rw [← hw.2]; exact .refl h
     ·simp at hw
    ·split at hw
     ·simp at hw; rw [← hw.2]; exact .set1 h hb
     ·simp at hw
   ·simp at hw
 ·simp at hw
theorem entryStore_gro {s s' : St} {a b c : AV} (h : Fr s) (hw : entryStoreA s a b c = some s') : Gro s s' := by
 unfold entryStoreA at hw
 split at hw
 ·split at hw
  ·rename_i hb
   split at hw
   ·split at hw
    ·simp at hw; subst hw; exact .set1 h hb
    ·simp at hw
   ·simp at hw
  ·simp at hw
 ·simp at hw
theorem range_gro {s s' : St} {t : TypeId} {a v : AV} (h : Fr s) (hw : rangeA D s t a = some (v, s')) : Gro s s' := by
 unfold rangeA at hw
 split at hw
 ·split at hw
  ·split at hw
   ·simp at hw; rw [← hw.2]; exact .stNew h _
   ·split at hw
    ·simp at hw; rw [← hw.2]; exact .stNew h _
    ·simp at hw
   ·simp at hw
  ·simp at hw
 ·simp at hw
theorem delete_gro {s s' : St} {t : TypeId} {a b v : AV} (h : Fr s) (hw : deleteA D s t a b = some (v, s')) : Gro s s' := by
 unfold deleteA at hw
 split at hw
 ·split at hw
  ·split at hw
   ·split at hw
    ·simp at hw; rw [← hw.2]; exact .refl h
    ·split at hw
     ·rename_i hb
      split at hw
      ·simp at hw
      ·simp at hw; rw [← hw.2]; exact .set1 h hb
      ·simp at hw; rw [← hw.2]; exact .set1 h hb
     ·simp at hw
    ·simp at hw
   ·simp at hw
  ·simp at hw
 ·simp at hw
theorem clear_gro {s s' : St} {t : TypeId} {a v : AV} (h : Fr s) (hw : clearA D s t a = some (v, s')) : Gro s s' := by
 unfold clearA at hw
 split at hw
 ·split at hw
  ·split at hw
   ·split at hw
    ·split at hw
     ·rename_i hx
      simp at hw; rw [← hw.2]; exact writeAll_gro h hx
     ·simp at hw
    ·simp at hw
   ·simp at hw
  ·simp at hw
 ·simp at hw; rw [← hw.2]; exact .refl h
 ·simp at hw; rw [← hw.2]; exact .refl h
 ·simp at hw; rw [← hw.2]; exact .refl h
 ·split at hw
  ·rename_i hb
   simp at hw; rw [← hw.2]; exact .set1 h hb
  ·simp at hw
 ·simp at hw
theorem copy_gro {s s' : St} {t : TypeId} {a b v : AV} (h : Fr s) (hw : copyA D s t a b = some (v, s')) : Gro s s' := by
 unfold copyA at hw
 split at hw
 ·split at hw
  ·split at hw
   ·split at hw
    ·split at hw
     ·split at hw
      ·simp at hw; rw [← hw.2]; exact .refl h
      ·split at hw
       ·rename_i hx
        simp at hw; rw [← hw.2]; exact writeAll_gro h hx
       ·simp at hw
      ·simp at hw
     ·simp at hw
    ·simp at hw
   ·simp at hw
  ·simp at hw
 ·simp at hw
theorem growA_gro {s : St} (h : Fr s) {h' : PT AObj} (hh : ∀ c, s.h.get c = none → h'.get c = none) (size need : Nat) (cells : List AV) : Gro s (growA s h' size need cells).2 := Gro.new h hh _ _
theorem growA_gro' {s s' : St} (h : Fr s) {h' : PT AObj} (hh : ∀ c, s.h.get c = none → h'.get c = none) {size need : Nat} {cells : List AV} {v : AV} (hw : growA s h' size need cells = (v, s')) : Gro s s' := by
 have := congrArg (·.2) hw
 simp only at this
 rw [← this]; exact growA_gro h hh _ _ _
theorem appendC_gro {s s' : St} {size m : Nat} {x v : AV} {old new : List AV} (h : Fr s) (hw : appendC s size x m old new = some (v, s')) : Gro s s' := by
 unfold appendC at hw
 split at hw
 ·simp at hw; exact growA_gro' h (fun _ h => h) hw
 ·simp at hw; exact growA_gro' h (fun _ h => h) hw
 ·split at hw
  ·split at hw
   ·rename_i hx
    simp at hw; rw [← hw.2]; exact writeAll_gro h hx
   ·simp at hw
  ·simp at hw
   exact growA_gro' h (fun _ h => h) hw
 ·split at hw
  ·split at hw
   ·simp at hw
    exact growA_gro' h (fun c hc => by rw [PT.get_del]; split <;> simp [hc]) hw
   ·simp at hw
  ·simp at hw
 ·simp at hw
theorem appendX_gro {s s' : St} {t u : TypeId} {a b v : AV} (h : Fr s) (hw : appendX D s t u a b = some (v, s')) : Gro s s' := by
 unfold appendX at hw
 split at hw
 ·unfold symAppend at hw
  split at hw
  ·rename_i hb
   split at hw
   ·split at hw
    ·split at hw
     ·split at hw
      ·split at hw
       ·simp at hw
        rw [← hw.2]
        exact Gro.new h (fun c hc => by rw [PT.get_del]; split <;> simp [hc]) _ _
       ·simp at hw
      ·simp at hw
     ·simp at hw
    ·simp at hw
   ·simp at hw
  ·simp at hw
 ·unfold appendA at hw
  split at hw
  ·split at hw
   ·split at hw
    ·split at hw
     ·split at hw
      ·unfold appendB at hw
       split at hw
       ·split at hw
        ·split at hw
         ·simp at hw; rw [← hw.2]; exact .refl h
         ·simp at hw
        ·split at hw
         ·exact appendC_gro h hw
         ·simp at hw
       ·simp at hw
      ·simp at hw
     ·simp at hw
    ·simp at hw
   ·simp at hw
  ·simp at hw
theorem convS_gro {s s' : St} {t u : TypeId} {a v : AV} (h : Fr s) (hw : convS D s t u a = some (v, s')) : Gro s s' := by
 unfold convS at hw
 split at hw
 ·split at hw
  ·split at hw
   ·simp at hw; rw [← hw.2]; exact .refl h
   ·simp at hw; rw [← hw.2]; exact .refl h
   ·simp at hw
  ·split at hw
   ·simp at hw; rw [← hw.2]; exact .refl h
   ·simp at hw
  ·split at hw
   ·split at hw
    ·simp at hw; rw [← hw.2]; exact .refl h
    ·simp at hw
   ·simp at hw
  ·split at hw
   ·split at hw
    ·simp at hw
     rename_i tx
     rw [show s' = (newBytes s tx).2 by rw [hw]]; exact Gro.new h (fun _ h => h) _ _
    ·simp at hw
   ·simp at hw
  ·split at hw
   ·unfold markA at hw
    split at hw
    ·split at hw
     ·rename_i hb
      simp at hw; rw [← hw.2]; exact Gro.set h hb
     ·simp at hw
    ·simp at hw
   ·simp at hw
  ·simp at hw
 ·simp at hw
theorem makeSlice_gro {s s' : St} {t : TypeId} {a b v : AV} (h : Fr s) (hw : makeSliceA D s t a b = some (v, s')) : Gro s s' := by
 unfold makeSliceA at hw
 split at hw
 ·split at hw
  ·split at hw
   ·split at hw
    ·split at hw
     ·simp at hw; rw [← hw.2]; exact .stNew h _
     ·simp at hw
    ·simp at hw
   ·simp at hw
  ·simp at hw
 ·simp at hw
theorem buildSlice_gro {s s' : St} {t : TypeId} {n : Nat} {is : List Nat} {vs : List AV} {v : AV} (h : Fr s) (hw : buildSliceA D s t n is vs = some (v, s')) : Gro s s' := by
 unfold buildSliceA at hw
 split at hw
 ·split at hw
  ·split at hw
   ·split at hw
    ·split at hw
     ·split at hw
      ·simp at hw; rw [← hw.2]; exact .stNew h _
      ·simp at hw
     ·simp at hw
    ·simp at hw
   ·simp at hw
  ·simp at hw
 ·simp at hw
theorem alloc_gro {s s' : St} {t : TypeId} {v : AV} (h : Fr s) (hw : allocA D s t = some (v, s')) : Gro s s' := by
 unfold allocA at hw
 split at hw
 ·split at hw
  ·simp at hw; rw [← hw.2]; exact .stNew h _
  ·simp at hw
 ·simp at hw
theorem v1_gro {s s' : St} {x : Option AV} {v : AV} (h : Fr s) (hw : v1 s x = some (.val v s')) : Gro s s' := by
 cases x <;> simp [v1] at hw
 rw [← hw.2]; exact .refl h
theorem v2_gro {s s' : St} {x : Option (AV × St)} {v : AV} (hx : ∀ v s', x = some (v, s') → Gro s s') (hw : v2 x = some (.val v s')) : Gro s s' := by
 cases x with
 | none => simp [v2] at hw
 | some p => obtain ⟨a, b⟩ := p; simp [v2] at hw; obtain ⟨rfl, rfl⟩ := hw; exact hx _ _ rfl
theorem u1_gro {s s' : St} {x : Option St} {v : AV} (hx : ∀ s', x = some s' → Gro s s') (hw : u1 x = some (.val v s')) : Gro s s' := by
 cases x with
 | none => simp [u1] at hw
 | some p => simp [u1] at hw; obtain ⟨_, rfl⟩ := hw; exact hx _ rfl
theorem st1_gro {s s' : St} {x : Option AV} {v : AV} (h : Fr s) (hw : st1 s x = some (v, s')) : Gro s s' := by
 cases x <;> simp [st1] at hw
 rw [← hw.2]; exact .refl h
theorem builtin_gro {s s' : St} {b : Builtin} {ats : List TypeId} {args : List AV} {v : AV} (h : Fr s) (hw : builtinA D s b ats args = some (v, s')) : Gro s s' := by
 unfold builtinA at hw
 split at hw
 ·split at hw
  ·exact st1_gro h hw
  ·simp at hw
 ·split at hw
  ·exact st1_gro h hw
  ·simp at hw
 ·split at hw
  ·exact st1_gro h hw
  ·simp at hw
 ·split at hw
  ·exact st1_gro h hw
  ·simp at hw
 ·split at hw
  ·exact appendX_gro h hw
  ·simp at hw
 ·split at hw
  ·exact copy_gro h hw
  ·simp at hw
 ·split at hw
  ·exact delete_gro h hw
  ·simp at hw
 ·split at hw
  ·exact clear_gro h hw
  ·simp at hw
 ·simp at hw
theorem callA_gro (hX : D.xst = []) {s s' : St} {f : AV} {args : List AV} {v : AV} (h : Fr s) (hw : callA D s f args = some (.val v s')) : Gro s s' := by
 unfold callA at hw
 split at hw
 ·split at hw
  ·simp at hw
  ·split at hw
   ·exact v1_gro h hw
   ·rw [hX] at hw; simp [lookN] at hw
 ·simp at hw
 ·simp at hw
theorem ev1_some {T : PT AV} {x : Operand} {k : AV → Option Do} {d : Do} (h : ev1 T x k = some d) : ∃ a, k a = some d := by
 unfold ev1 at h
 split at h
 ·exact ⟨_, h⟩
 ·simp at h
theorem ev2_some {T : PT AV} {x y : Operand} {k : AV → AV → Option Do} {d : Do} (h : ev2 T x y k = some d) : ∃ a b, k a b = some d := by
 unfold ev2 at h
 split at h
 ·split at h
  ·exact ⟨_, _, h⟩
  ·simp at h
 ·simp at h
theorem opA_gro (hX : D.xst = []) {T : PT AV} {s s' : St} {op : Op} {v : AV} (h : Fr s) (hw : opA D T s op = some (.val v s')) : Gro s s' := by
 unfold opA at hw
 split at hw
 case h_1 => exact v1_gro h hw
 case h_2 => exact v1_gro h hw
 case h_3 => obtain ⟨a, hw⟩ := ev1_some hw; exact v1_gro h hw
 case h_4 => exact v2_gro (fun _ _ => alloc_gro h) hw
 case h_5 =>
  obtain ⟨a, hw⟩ := ev1_some hw
  exact v2_gro (fun v' s' e => by
   simp at e
   rw [show s' = (boxA s a).2 by rw [e]]
   exact .stNew h _) hw
 case h_6 =>
  split at hw
  ·exact v1_gro h hw
  ·simp at hw
 case h_7 =>
  split at hw
  ·exact v2_gro (fun _ _ => buildSlice_gro h) hw
  ·simp at hw
 case h_8 => obtain ⟨a, hw⟩ := ev1_some hw; exact v1_gro h hw
 case h_9 => obtain ⟨a, b, hw⟩ := ev2_some hw; exact u1_gro (fun _ => storeX_gro h) hw
 case h_10 => obtain ⟨a, hw⟩ := ev1_some hw; exact v1_gro h hw
 case h_11 => obtain ⟨a, b, hw⟩ := ev2_some hw; exact v1_gro h hw
 case h_12 => obtain ⟨a, hw⟩ := ev1_some hw; exact v1_gro h hw
 case h_13 => obtain ⟨a, hw⟩ := ev1_some hw; exact v2_gro (fun _ _ => convS_gro h) hw
 case h_14 => obtain ⟨a, hw⟩ := ev1_some hw; exact v1_gro h hw
 case h_15 =>
  unfold fnOp at hw
  split at hw
  ·split at hw
   ·simp at hw; rw [← hw.2]; exact .refl h
   ·simp at hw
  ·simp at hw
 case h_16 => exact v2_gro (fun v' s' e => by simp at e; rw [← e.2]; exact .stNew h _) hw
 case h_17 => obtain ⟨a, b, hw⟩ := ev2_some hw; exact v2_gro (fun _ _ => makeSlice_gro h) hw
 case h_18 =>
  obtain ⟨a, hw⟩ := ev1_some hw
  unfold sliceOp at hw
  split at hw
  ·exact v1_gro h hw
  ·simp at hw
 case h_19 => obtain ⟨a, hw⟩ := ev1_some hw; exact v1_gro h hw
 case h_20 => obtain ⟨a, hw⟩ := ev1_some hw; exact v1_gro h hw
 case h_21 => obtain ⟨a, b, hw⟩ := ev2_some hw; exact v1_gro h hw
 case h_22 => obtain ⟨a, b, hw⟩ := ev2_some hw; exact v1_gro h hw
 case h_23 => obtain ⟨a, b, hw⟩ := ev2_some hw; exact v1_gro h hw
 case h_24 => obtain ⟨a, b, hw⟩ := ev2_some hw; obtain ⟨c, hw⟩ := ev1_some hw; exact u1_gro (fun _ => mapUpd_gro h) hw
 case h_25 => obtain ⟨a, b, hw⟩ := ev2_some hw; obtain ⟨c, hw⟩ := ev1_some hw; exact u1_gro (fun _ => mapUpd_gro h) hw
 case h_26 => obtain ⟨a, b, hw⟩ := ev2_some hw; exact v2_gro (fun _ _ => mapEntry_gro h) hw
 case h_27 => obtain ⟨a, b, hw⟩ := ev2_some hw; obtain ⟨c, hw⟩ := ev1_some hw; exact u1_gro (fun _ => entryStore_gro h) hw
 case h_28 => obtain ⟨a, hw⟩ := ev1_some hw; exact v2_gro (fun _ _ => range_gro h) hw
 case h_29 => obtain ⟨a, hw⟩ := ev1_some hw; exact v1_gro h hw
 case h_30 => obtain ⟨a, hw⟩ := ev1_some hw; simp at hw
 case h_31 => obtain ⟨a, hw⟩ := ev1_some hw; exact v1_gro h hw
 case h_32 => obtain ⟨a, hw⟩ := ev1_some hw; exact v1_gro h hw
 case h_33 =>
  unfold callOp at hw
  split at hw
  ·simp at hw
  ·split at hw
   ·exact v2_gro (fun _ _ => builtin_gro h) hw
   ·obtain ⟨a, hw⟩ := ev1_some hw; exact callA_gro hX h hw
   ·obtain ⟨a, hw⟩ := ev1_some hw
    unfold invokeA at hw
    split at hw
    ·split at hw
     ·exact callA_gro hX h hw
     ·simp at hw
    ·simp at hw
 case h_34 => simp at hw
end
end Go.Eng

namespace Go.Eng
noncomputable section
variable {P : Program} {D : Tab}
def RoundA (P : Program) (l : Nat) (args : List AV) (s : St) (Q : AV → St → Prop) : Prop :=
 ∀ (φ : Phi) (vals : List Value) (w : World) (c : Frame) (cs : List Frame) (r sh : Nat), Rel φ s w → VRs φ args vals → φ.blk l = some (r, sh) →
  ∃ v s', Q v s' ∧ ∃ (φ' : Phi) (u : Value) (w' : World) (fn : FuncId) (tmps : Array Value) (assign body : Code), Stp φ s w φ' s' w' ∧ Rel φ' s' w' ∧ VR φ' v u ∧
   (Instr.yield r vals.toArray).run P w = .ok (.round r fn tmps assign body) w ∧ Steps P (lone (Frame.round r fn tmps assign body .normal) (c :: cs) w) (lone (c.finish u) cs w')
theorem RoundA.mono {l : Nat} {args : List AV} {s : St} {Q Q' : AV → St → Prop} (h : RoundA P l args s Q) (hq : ∀ v s', Q v s' → Q' v s') : RoundA P l args s Q' :=
 fun φ vals w c cs r sh h1 h2 h3 => let ⟨v, s', q, z⟩ := h φ vals w c cs r sh h1 h2 h3; ⟨v, s', hq v s' q, z⟩
def RoundD (P : Program) (l : Nat) (args : List AV) (s : St) (Q : AV → St → Prop) : Prop :=
 Fr s → ∃ v s', Q v s' ∧ Gro s s' ∧ RoundA P l args s fun v' s'' => v' = v ∧ s'' = s'
theorem OperA.round (hD : TabOk P D) {T : PT AV} {s : St} {o : Oper} {l : Nat} {args : List AV} {K : AV → St → Prop} (h : opA D T s o.op = some (.round l args)) (hk : RoundA P l args s K) : OperA P T s o K := by
 intro φ a w b k cs ops i rest ho hw ht hr
 have hg := stepGR_op (P := P) (b := b) (k := k) (cs := cs) (w := w) (rest := rest) ho hw
 have hfin : ∀ v, (b.atR a (.inRegion ops (i :: rest) :: k)).finish v = b.atR (a.put o.dst v) (.inRegion ops rest :: k) := by
  intro v; rw [Frame.finish_atR, ho]; rfl
 have hok := opA_ok hD hr (EvR.of_act ht) h
 rw [Oper.semAt_eq _ _ _ (opA_nodefer h)] at hg
 obtain ⟨vals, x, sh, h1, h2, h3⟩ := hok
 obtain ⟨v, s', m, φ', u, w', fn, tmps, assign, body, q1, q2, q3, q4, q5⟩ := hk φ vals w (b.atR a (.inRegion ops (i :: rest) :: k)) cs x sh hr h1 h2
 refine ⟨v, s', m, φ', u, w', q1, q2, q3, ?_⟩
 have henter : step P (lone (b.atR a (.inRegion ops (i :: rest) :: k)) cs w) =
   .next (lone (Frame.round x fn tmps assign body .normal) (b.atR a (.inRegion ops (i :: rest) :: k) :: cs) w) :=
  step_lone_go (by rw [hg]; simp [stepG.apply, h3, q4, Frame.atR])
 refine .head henter ?_
 rw [← hfin]
 exact q5
def jmpOf : Ex → Option Code
 | .normal => none
 | .exit id => some (.exit id)
 | .ret => some .ret
theorem RoundA.of {l : Nat} {args : List AV} {s : St} {Q : AV → St → Prop} {st : LoopState} {pd : Option Code} {fn : FuncId} {t t' : PT AV} {n : Nat} {ps : List Tmp} {assign body : Code} {ds : Nat}
  (hl : s.h.get l = some (.loop st pd fn t n ps assign body ds)) (ht' : setPs n t ps args = some t')
  (h : RunA P (some l) fn assign { t := t', n, s, ds := [] } fun e cf => e = .normal ∧ ∃ pd2 fn2 t2 n2 ps2 as2 bd2 ds2, cf.s.h.get l = some (.loop .ready pd2 fn2 t2 n2 ps2 as2 bd2 ds2) ∧
   RunA P (some l) fn body { cf with s := { cf.s with h := cf.s.h.set l (.loop .busy pd2 fn2 t2 n2 ps2 as2 bd2 ds2) } } fun e cf' => cf'.ds = [] ∧ ∃ x, endRound l cf'.s (jmpOf e) = some x ∧ Q x.1 x.2) : RoundA P l args s Q := by
 intro φ vals w c cs r sh hr hv hb
 obtain ⟨L, g1, g2, g3, g4, g5, g6, g7, g8, g9, rd, shd, g10, g11⟩ := hr.loop hl hb
 obtain ⟨p1, p2, p3⟩ := setPs_ok ps args vals t t' L.tmps hv g5 g6 ht'
 let tm : Array Value := (ps.zip vals).foldl (fun tmps (x : Tmp × Value) => tmps.setIfInBounds x.1 x.2) L.tmps
 let b : Frame := { (default : Frame) with fn := fn, kind := .normal, roundOf := some r }
 let a0 : Act := { tmps := tm, defers := [] }
 have hround : Frame.round r fn tm assign body .normal = b.atR a0 [.code assign, .beginRound, .code body] := by
  simp [Frame.round, Frame.atR, b, a0]
 have hcf : CfR φ { t := t', n, s, ds := [] } a0 w := ⟨p2, p3, trivial, hr⟩
 obtain ⟨e1, cf1, ⟨rfl, pd2, fn2, t2, n2, ps2, as2, bd2, ds2, hl2, hbody⟩, φ1, a1, w1, q1, q2, q3⟩ := h φ a0 w b [.beginRound, .code body] (c :: cs) hcf rfl rfl ⟨sh, hb⟩
 have hb1 : φ1.blk l = some (r, sh) := q1.ext.blk _ _ hb
 obtain ⟨L2, d1, d2, d3, d4, d5, d6, d7, d8, d9, rd2, shd2, d10, d11⟩ := q2.s.loop hl2 hb1
 have hput := q2.s.put_loop (L := { L2 with state := .busy }) (by simp [ownB, hl2]) hb1 d5 d10 d11 (fun _ _ _ hx => by rw [d1] at hx; simp at hx)
 subst d3 d4 d6 d7 d8 d9
 have hbegin : (Instr.beginRound r).run P w1 = .ok () { w1 with heap := w1.heap.setIfInBounds r (.loop { L2 with state := .busy }) } := by
  simp only [Instr.beginRound, Instr.getLoop, Sem.run_bind, run_getLoop' d1, Result.andThen_ok, Sem.run_pure, setObj, Sem.run, d1, d2]
 obtain ⟨e2, cf2, ⟨_, ⟨v, s'⟩, hend, mx⟩, φ2, a2, w2, q4, q5, q6⟩ := hbody φ1 a1 _ b [] (c :: cs) ⟨q2.t, q2.n, q2.ds, hput.1⟩ rfl rfl ⟨sh, hb1⟩
 have hb2 : φ2.blk l = some (r, sh) := q4.ext.blk _ _ hb1
 obtain ⟨u, w3, z1, z2, z3, z4⟩ := endRound_ok (P := P) q5.s hb2 hend
 have s1 : Steps P (lone (Frame.round r fn tm assign body .normal) (c :: cs) w) (lone (b.atR a1 [.beginRound, .code body]) (c :: cs) w1) := by rw [hround]; exact q3
 have s2 := s1.trans (.one (stepR_beginRound (P := P) (b := b) (a := a1) (k := [.code body]) (cs := c :: cs) rfl hbegin))
 refine ⟨v, s', mx, φ2, u, w3, fn, tm, assign, body, ((q1.trans hput.2).trans q4).trans z3, z4, z2, ?_, ?_⟩
 ·have hsz : ¬ (vals.toArray.size ≠ L.params.size) := by
   have : L.params.size = ps.length := by rw [← g7]; simp
   rw [this, p1]; simp
  simp only [Instr.yield, Instr.getLoop, Sem.run_bind, run_getLoop' g1, Result.andThen_ok, Sem.run_pure]
  rw [if_neg hsz]
  simp only [Sem.run_pure, g4, g8, g9]
  congr 2
  simp only [tm]
  rw [← Array.foldl_toList, Array.toList_zip, g7]
 ·cases e2 with
  | normal => exact s2.trans (q6.trans (.one (stepR_round_end rfl rfl z1)))
  | exit id =>
   obtain ⟨k1, y1, y2⟩ := q6
   exact s2.trans (y2.trans (.one (stepR_round_exit rfl rfl y1 z1)))
  | ret =>
   obtain ⟨k1, y2⟩ := q6
   exact s2.trans (y2.trans (.one (stepR_round_ret rfl rfl z1)))
theorem RunA.rangeFunc (hD : TabOk P D) {fn : FuncId} {cf : Cf} {Q : Ex → Cf → Prop} {g : Operand} {ps : Array Tmp} {assign body : Code} {q : FuncId} {first caps : List AV} {fi : FnI} (hev : ev cf.t g = some (.func q first caps)) (hfi : D.fn.get q = some fi)
  (h : Fr cf.s → CallsA P q (first ++ [.yld ((cf.s.new (.dfd true)).2.new (.loop .ready none fn cf.t cf.n ps.toList assign body (cf.s.new (.dfd true)).1)).1] ++ caps) ((cf.s.new (.dfd true)).2.new (.loop .ready none fn cf.t cf.n ps.toList assign body (cf.s.new (.dfd true)).1)).2
   fun _ s3 => ∃ e st, s3.h.get ((cf.s.new (.dfd true)).2.new (.loop .ready none fn cf.t cf.n ps.toList assign body (cf.s.new (.dfd true)).1)).1 = some (.loop st (jmpOf e) fn cf.t cf.n ps.toList assign body (cf.s.new (.dfd true)).1) ∧ st ≠ .busy ∧
    Q e { t := cf.t, n := cf.n, s := { s3 with h := s3.h.set ((cf.s.new (.dfd true)).2.new (.loop .ready none fn cf.t cf.n ps.toList assign body (cf.s.new (.dfd true)).1)).1 (.loop .exhausted (jmpOf e) fn cf.t cf.n ps.toList assign body (cf.s.new (.dfd true)).1) }, ds := (cf.s.new (.dfd true)).1 :: cf.ds }) :
  RunA P none fn (.rangeFunc g ps assign body) cf Q := by
 intro φ a w b k cs hc hb hk hrnd
 have h := h hc.s.fr
 cases hro : b.roundOf with
 | some r => rw [hro] at hrnd; exact absurd hrnd (by simp [RndR])
 | none =>
 obtain ⟨φ1, w1, g1, b1, b2, g4⟩ := new_other (P := P) hc.s (o := .dfd true) (ro := .deferred (some [])) (.dfd true)
 have b5 : (Instr.enterLoop b.fn a.tmps ps assign body b.roundOf).run P w = ((newObj (.loop { state := .ready, pending := none, fn := b.fn, tmps := a.tmps, params := ps, assign, body, defers := w.heap.size })).run P w1).andThen fun l w' => .ok (l, [{ target := .collected w.heap.size, args := #[] }]) w' := by
  rw [hro]
  simp only [Instr.enterLoop, Sem.run_bind, g1, Result.andThen_ok, Sem.run_pure]
 generalize hx : cf.s.new (.dfd true) = x at h b1 b2 g4
 obtain ⟨ds, s1⟩ := x
 simp only at h b1 b2 g4
 have hT1 : TR φ1 cf.t a.tmps := hc.t.mono b1.ext
 obtain ⟨φ2, w2, c1, c2, c3, c4⟩ := new_other (P := P) b2 (o := .loop .ready none fn cf.t cf.n ps.toList assign body ds) (ro := .loop { state := .ready, pending := none, fn := b.fn, tmps := a.tmps, params := ps, assign, body, defers := w.heap.size }) (by
  have := OR.loop (φ := φ1) (sh := 0) (L := { state := .ready, pending := none, fn := b.fn, tmps := a.tmps, params := ps, assign, body, defers := w.heap.size }) hT1 g4 rfl
  simp only [hb, hc.n] at this ⊢
  exact this)
 rw [c1] at b5
 simp only [Result.andThen_ok] at b5
 have hfv : VR φ2 (.func q first caps) (a.eval g) := (ev_ok hc.s (EvR.of_act hc.t) hev).mono (b1.ext.trans c2.ext)
 generalize hgv : a.eval g = gv at hfv
 cases hfv with
 | func _ hx' hy =>
  rename_i us vs
  have hargs : VRs φ2 (first ++ [.yld (s1.new (.loop .ready none fn cf.t cf.n ps.toList assign body ds)).1] ++ caps) (us ++ [Value.func (.yield w1.heap.size) #[] #[]] ++ vs) := (hx'.append (.cons (.yld c4) .nil)).append hy
  obtain ⟨v, s2, ⟨e, st, hl, hbusy, hQ⟩, φ3, u, w3, fr, d1, d2, d3, d4, d5, d6⟩ := h φ2 _ w2 (b.atR { a with defers := [{ target := .collected w.heap.size, args := #[] }] ++ a.defers } (.inRangeFunc w1.heap.size :: k) :: cs) c3 hargs
  obtain ⟨_, _, _, _, _, _, _, hcf⟩ := fnOf_call hD hfi
  have henter := stepR_rangeFunc (P := P) (b := b) (a := a) (k := k) (cs := cs) (w := w) (g := g) (ps := ps) (assign := assign) (body := body) (l := w1.heap.size) (mark := [{ target := .collected w.heap.size, args := #[] }]) (w₁ := w2) (w₁' := w2) (w₂ := w2)
   (d := { target := .fn (.func q) vs.toArray, args := us.toArray ++ #[Value.func (.yield w1.heap.size) #[] #[]] }) (f := q) (args := (us ++ [Value.func (.yield w1.heap.size) #[] #[]] ++ vs).toArray) b5
   (by simp only [resolve, hgv, Deferred.ofValue, Sem.run_pure]; simp [Act.eval])
   (by
    have e : us.toArray ++ #[Value.func (.yield w1.heap.size) #[] #[]] ++ vs.toArray = (us ++ [Value.func (.yield w1.heap.size) #[] #[]] ++ vs).toArray := by simp
    simp only [invoke, e]
    exact hcf _ _)
  have s1' := Steps.head henter (d4.trans (.one (step_leave_returned d6)))
  rw [finish_atR_inRangeFunc] at s1'
  have hbl : φ3.blk (s1.new (.loop .ready none fn cf.t cf.n ps.toList assign body ds)).1 = some (w1.heap.size, 0) := d1.ext.blk _ _ c4
  obtain ⟨L, g1, g2, g3, g4', g5, g6, g7, g8, g9, rd2, shd2, g10, g11⟩ := d2.loop hl hbl
  obtain ⟨lst, lpd, lfn, ltm, lps, las, lbd, ldf⟩ := L
  simp only at g2 g3 g4' g5 g6 g7 g8 g9 g10 g11
  subst g2 g3 g4' g8 g9
  have hput := d2.put_loop (L := ⟨.exhausted, jmpOf e, lfn, ltm, lps, las, lbd, ldf⟩) (by simp [ownB, hl]) hbl g5 g10 g11 (fun _ _ _ hx => by rw [g1] at hx; simp at hx)
  have hend : (Instr.endLoop w1.heap.size).run P w3 = .ok (jmpOf e) { w3 with heap := w3.heap.setIfInBounds w1.heap.size (.loop ⟨.exhausted, jmpOf e, lfn, ltm, lps, las, lbd, ldf⟩) } := by
   simp only [Instr.endLoop, Instr.getLoop, Sem.run_bind, run_getLoop' g1, Result.andThen_ok, Sem.run_pure, setObj]
   rw [if_neg (by simpa using hbusy)]
   simp [Sem.run, g1]
  have s2' := s1'.trans (.one (stepR_endRangeFunc (P := P) (b := b) (a := { a with defers := [{ target := .collected w.heap.size, args := #[] }] ++ a.defers }) (k := k) (cs := cs) hend))
  have hstp := ((b1.trans c2).trans d1).trans hput.2
  simp only [g6, g7] at hput hstp
  have hcr : CfR φ3 { t := cf.t, n := cf.n, s := { s2 with h := s2.h.set (s1.new (.loop .ready none lfn cf.t cf.n ps.toList las lbd ds)).1 (.loop .exhausted (jmpOf e) lfn cf.t cf.n ps.toList las lbd ds) }, ds := ds :: cf.ds } { a with defers := [{ target := .collected w.heap.size, args := #[] }] ++ a.defers } { w3 with heap := w3.heap.setIfInBounds w1.heap.size (.loop ⟨.exhausted, jmpOf e, lfn, ltm, lps, las, lbd, ldf⟩) } :=
   ⟨hc.t.mono hstp.ext, hc.n, ⟨⟨_, _, (c2.ext.trans d1.ext).blk _ _ g4, rfl⟩, hc.ds.mono hstp.ext⟩, hput.1⟩
  refine ⟨e, _, hQ, φ3, _, _, hstp, hcr, ?_⟩
  cases e with
  | normal => exact s2'
  | exit id => exact ⟨k, rfl, s2'⟩
  | ret => exact ⟨k, s2'⟩
end
end Go.Eng

namespace Go.Eng
noncomputable section
variable {P : Program} {D : Tab} {φ : Phi} {s : St} {w : World}
def growIn (s : St) (b : Nat) (c : PT AV) (N k z o : Nat) (new : List AV) : St :=
 { s with h := s.h.set b (.cells (c.setAll o new) (max N (o + new.length)) (some (k, z))) }
theorem CellsR.writeG {sh : Nat} {c : PT AV} {n : Nat} {arr : Array Value} (h : CellsR φ sh c n arr) {o : Nat} {vs : List AV} {us : List Value} (hv : VRs φ vs us) (ho : o ≤ n) (hs2 : sh + o + vs.length ≤ arr.size) :
  CellsR φ sh (c.setAll o vs) (max n (o + vs.length)) (arr.toList.take (sh + o) ++ us ++ arr.toList.drop (sh + o + us.length)).toArray ∧
   (arr.toList.take (sh + o) ++ us ++ arr.toList.drop (sh + o + us.length)).toArray.size = arr.size := by
 have hl := hv.length
 have hs := h.1
 have hsize : (arr.toList.take (sh + o) ++ us ++ arr.toList.drop (sh + o + us.length)).toArray.size = arr.size := by
  simp; omega
 refine ⟨⟨by rw [hsize]; omega, fun i a hi => ?_⟩, hsize⟩
 rw [PT.get_setAll]
 by_cases hin : o ≤ i ∧ i < o + vs.length
 ·rw [if_pos hin]
  intro ha
  obtain ⟨u, h1, h2⟩ := hv.get (i - o) _ ha
  refine ⟨u, ?_, h2⟩
  simp only [List.getElem?_toArray]
  rw [List.append_assoc, List.getElem?_append_right (by simp; omega), List.getElem?_append_left (by simp; omega)]
  simp only [List.length_take, Array.length_toList]
  rw [show sh + i - min (sh + o) arr.size = i - o by omega]
  exact h1
 ·rw [if_neg hin]
  intro ha
  have hi' : i < n := by omega
  obtain ⟨v, h2, h3⟩ := h.2 i a hi' ha
  refine ⟨v, ?_, h3⟩
  simp only [List.getElem?_toArray]
  by_cases hlo : i < o
  ·rw [List.append_assoc, List.getElem?_append_left (by simp; omega), List.getElem?_take_of_lt (by omega)]
   simpa using h2
  ·rw [List.getElem?_append_right (by simp; omega)]
   simp only [List.length_append, List.length_take, Array.length_toList, List.getElem?_drop]
   rw [show sh + o + us.length + (sh + i - (min (sh + o) arr.size + us.length)) = sh + i by omega]
   simpa using h2
theorem grow_in (h : Rel φ s w) {b n m k size cp r sh nn : Nat} {cc : PT AV} {new : List AV} {us : List Value} (hb : s.h.get b = some (.cells cc nn (some (k, size)))) (hr : φ.blk b = some (r, sh)) (hk : φ.cap k = some cp)
  (hroom : n + m ≤ cp) (hz : 0 < size) (hon : n * size ≤ nn) (h1 : ones new = true) (hv : VRs φ new us) (hul : us.length = m * size) :
  ∃ w', (storeCells ⟨r, sh + n * size, none⟩ us 0).run P w = .ok () w' ∧ Stp φ s w φ (growIn s b cc nn k size (n * size) new) w' ∧ Rel φ (growIn s b cc nn k size (n * size) new) w' := by
 obtain ⟨r', sh', arr, e, fz, g1, g2, g3, g4⟩ := h.cells hb
 rw [hr] at g1
 simp at g1
 obtain ⟨rfl, rfl⟩ := g1
 have hown : ownB s.h b = true := by
  obtain ⟨z, rfl⟩ : ∃ z, size = z + 1 := ⟨size - 1, by omega⟩
  simp [ownB, hb]
 rcases g4 with ⟨g4, _⟩ | ⟨k', z, cp', g5, g6, g7, g8⟩ | ⟨_, g5⟩
 ·simp at g4
 ·simp at g5
  obtain ⟨rfl, rfl⟩ := g5
  rw [hk] at g6
  simp at g6
  subst g6
  have hmul : (n + m) * size = n * size + m * size := Nat.add_mul _ _ _
  have hle : (n + m) * size ≤ cp * size := Nat.mul_le_mul_right _ hroom
  have hl := hv.length
  obtain ⟨h5, h6⟩ := g3.writeG (o := n * size) hv hon (by omega)
  have hfz : fz = (0, 0) ∨ arr.size ≤ fz.1 := by
   rcases g8 with g8 | g8
   ·exact .inl g8
   ·exact .inr g8.2
  have hrun := storeCells_run (P := P) r (sh + n * size) e fz us 0 arr w g2 hfz (by omega) (ones_ok h1 hv)
  rw [setRow_eq g2] at hrun
  simp only [Nat.add_zero] at hrun
  have hput := h.put_old (b := b) (r := r) (sh := sh) (o := .cells (cc.setAll (n * size) new) (max nn (n * size + new.length)) (some (k, size))) (ro := .cells (arr.toList.take (sh + n * size) ++ us ++ arr.toList.drop (sh + n * size + us.length)).toArray e fz) hown hr
   (.tail h5 hk (by rw [h6]; exact g7) (by rw [h6]; exact g8))
   (fun arr' e' fz' hx => by rw [g2] at hx; simp at hx; obtain ⟨rfl, rfl, rfl⟩ := hx; exact ⟨_, _, rfl, h6⟩)
  exact ⟨_, hrun, hput.2, hput.1⟩
 ·simp at g5
  omega
def appTwo (D : Tab) (s : St) (sT xT : TypeId) (x y : AV) : Option ((AV × St) × (AV × St)) :=
 match x with
 | .slice b 0 n (.var k 0) =>
  match D.ty.get sT, D.ty.get xT with
  | some i, some xi =>
   match i.d with
   | .slice e =>
    match D.ty.get e with
    | some ei =>
     match ei.zero, avLen y, sliceCells s.h ei.size x, sliceCells s.h ei.size y, s.h.get b with
     | some z, some m, some old, some new, some (.cells c N (some (k', sz))) =>
      if isSeq xi.d && Nat.beq z.cells.length ei.size && Nat.beq k k' && Nat.beq sz ei.size && ones new && Nat.blt 0 sz && Nat.blt 0 m && Nat.ble ((n + m + (n + m) / 4 + 600) * ei.bytes) pow48 && Nat.ble (n + m) pow48 then
       some ((.slice b 0 (n + m) (.var k 0), growIn s b c N k sz (n * sz) new), growA s s.h ei.size (n + m) (old ++ new))
      else none
     | _, _, _, _, _ => none
    | none => none
   | _ => none
  | _, _ => none
 | _ => none
theorem appTwo_ok (hD : TabOk P D) (hr : Rel φ s w) {sT xT ty : TypeId} {x y : AV} {xv yv : Value} {r1 r2 : AV × St} (hx : VR φ x xv) (hy : VR φ y yv) (h : appTwo D s sT xT x y = some (r1, r2)) :
  ∃ r : AV × St, (r = r1 ∨ r = r2) ∧ ∃ φ' u w', VR φ' r.1 u ∧ (Builtin.append_ #[sT, xT] ty #[xv, yv]).run P w = .ok u w' ∧ Stp φ s w φ' r.2 w' ∧ Rel φ' r.2 w' := by
 unfold appTwo at h
 split at h
 ·rename_i b n k
  split at h
  ·rename_i i xi hi hxi
   split at h
   ·rename_i e hid
    obtain ⟨de, hq, hde, _⟩ := run_under hD hi w
    rw [hid] at hde
    obtain rfl : de = .slice e := by cases de <;> simp [tdOf] at hde; rw [hde]
    have hus : ∀ w, (underlying sT).run P w = .ok (.slice e) w := fun w => by simp [underlying, hq]
    split at h
    ·rename_i ei hei
     split at h
     ·rename_i z m old new c N k' sz hz hm hold hnew hb
      split at h
      ·rename_i hcond
       simp only [Bool.and_eq_true] at hcond
       obtain ⟨⟨⟨⟨⟨⟨⟨⟨c0, c1⟩, c2⟩, c3⟩, c4⟩, c5⟩, c6⟩, c7⟩, c8⟩ := hcond
       have hzl := beq_true c1
       have e1 := beq_true c2
       have e2 := beq_true c3
       have hz0 := blt_true c5
       have hm0 := blt_true c6
       have hb1 := ble_true c7
       have hb2 := ble_true c8
       unfold pow48 at hb1 hb2
       subst e1
       subst e2
       obtain ⟨dx, hux, hxm⟩ := seq_ok hD hxi c0 w
       simp only [Option.some.injEq, Prod.mk.injEq] at h
       obtain ⟨rfl, rfl⟩ := h
       cases hx with
       | slice hrb hc o n' hle =>
        cases hc with
        | var hk =>
         rename_i r sh cp
         by_cases hroom : n + m ≤ cp - 0
         ·obtain ⟨m', vs, b1, b2, b3, b4, b5⟩ := sliceCells_ok (P := P) hr hy hnew
          rw [hm] at b1; simp at b1; subst b1
          have hon : n * ei.size ≤ N := by
           simp only [sliceCells, hb] at hold
           split at hold
           ·rename_i hle'
            have := ble_true hle'
            omega
           ·simp at hold
          obtain ⟨w', g1, g2, g3⟩ := grow_in (P := P) hr hb hrb hk (by omega) hz0 hon c4 b2 b3
          refine ⟨_, .inl rfl, φ, _, w', ?_, append_room hD hus hux hxm hei b4 b5 hroom (w' := w') ?_, g2, g3⟩
          ·exact VR.slice hrb (.var hk) 0 (n + m) hroom
          ·have hadd : (⟨r, sh + 0, none⟩ : Addr).add (n * ei.size) = ⟨r, sh + n * ei.size, none⟩ := by unfold Addr.add; split <;> simp_all
           rw [hadd]
           exact g1
         ·obtain ⟨φ', u, w', g1, g2, g3, g4⟩ := append_grow hD hr (ty := ty) hus hux hxm hei hz hzl rfl rfl (.slice hrb (.var hk) _ _ hle) hy rfl hm hold hnew (by omega) hb1 hb2 (h' := s.h) (fun _ _ h => h)
          exact ⟨_, .inr rfl, φ', u, w', g1, g2, g3, g4⟩
      ·simp at h
     ·simp at h
    ·simp at h
   ·simp at h
  ·simp at h
 ·simp at h
def appK (D : Tab) (s : St) (t u : TypeId) (x y : AV) (K : AV → St → Prop) : Prop :=
 (∃ v s', appendX D s t u x y = some (v, s') ∧ K v s') ∨ ∃ r1 r2 : AV × St, appTwo D s t u x y = some (r1, r2) ∧ K r1.1 r1.2 ∧ K r2.1 r2.2
theorem OperA.app (hD : TabOk P D) {T : PT AV} {o : Oper} {c : Call} {t u : TypeId} {x y : AV} {r1 r2 : AV × St} {K : AV → St → Prop} (ho : o.op = .call c) (hc : c.callee = .builtin .append) (hts : c.argTypes.toList = [t, u]) (has : evAll T c.args.toList = some [x, y])
  (h : appTwo D s t u x y = some (r1, r2)) (k1 : K r1.1 r1.2) (k2 : K r2.1 r2.2) : OperA P T s o K := by
 obtain ⟨dst, op, ty, pos, after, guard⟩ := o
 simp only at ho
 subst ho
 intro φ a w b k cs ops i rest hoi hw ht hr
 have hg := stepGR_op (P := P) (b := b) (k := k) (cs := cs) (w := w) (rest := rest) hoi hw
 have hfin : ∀ v, (b.atR a (.inRegion ops (i :: rest) :: k)).finish v = b.atR (a.put dst v) (.inRegion ops rest :: k) := by
  intro v; rw [Frame.finish_atR, hoi]; rfl
 have he := EvR.of_act ht
 have hargs := evAll_ok hr he has
 obtain ⟨xv, yv, hxy, hx, hy⟩ : ∃ xv yv, c.args.toList.map a.eval = [xv, yv] ∧ VR φ x xv ∧ VR φ y yv := by
  generalize c.args.toList.map a.eval = l at hargs
  cases hargs with
  | cons h1 h2 => cases h2 with
   | cons h2 h3 => cases h3; exact ⟨_, _, rfl, h1, h2⟩
 have hmap : c.args.map a.eval = #[xv, yv] := by
  apply Array.toList_inj.1; simpa using hxy
 have hta : c.argTypes = #[t, u] := by apply Array.toList_inj.1; simpa using hts
 rw [Oper.semAt_eq _ _ _ (by simp)] at hg
 obtain ⟨r, hrr, φ', uv, w', g1, g2, g3, g4⟩ := appTwo_ok (ty := ty) hD hr hx hy h
 refine ⟨r.1, r.2, (by rcases hrr with rfl | rfl <;> assumption), φ', uv, w', g3, g4, g1, .one (step_lone_go ?_)⟩
 rw [hg, ← hfin]
 have : (execOp a.eval { dst := dst, op := .call c, type := ty, pos := pos, after := after, guard := guard }).run P w = .ok (.value uv) w' := by
  simp only [execOp, resolve, hc, hmap, hta, Sem.run_bind, Sem.run_pure, Result.andThen_ok, invoke, builtin, g2]
 simp [stepG.apply, this]
end
end Go.Eng

namespace Go.Eng
noncomputable section
variable {P : Program} {D : Tab}
structure Cx where
 D : Tab
 rt : FuncId → List TypeId
 its : List (Nat × TypeId)
 lps : List (Nat × List Nat × List Nat)
 msk : List (Nat × List Bool) := []
 det : Bool := false
 jns : List (Nat × List Nat × List Nat × List AV) := []
 vrt : Option (List TypeId) := none
 rf : List (Nat × List TypeId) := []
 app2 : Bool := false
def Cx.norf (C : Cx) : Cx := { C with rf := [] }
def cellsO (cs : List AV) : AObj := .cells (PT.setAll .nil 0 cs) cs.length none
def mapO : AObj := .map [] 0
def NewO (s : St) (ob : AObj) (b : Nat) (s' : St) : Prop := b = s.nx ∧ s' = (s.new ob).2 ∧ Fr s
def zcells (D : Tab) (t : TypeId) : List AV :=
 match D.ty.get t with
 | some i => (match i.zero with | some z => z.cells | none => [])
 | none => []
def obK (D : Tab) (T : PT AV) (op : Op) (K : (Nat → AV) → AObj → Prop) : Prop :=
 match op with
 | .alloc t =>
  match D.ty.get t with
  | some i => (match i.zero with | some z => (match Nat.ble i.size 64 with | true => K (fun b => .ptr b 0) (cellsO z.cells) | false => K (fun b => .ptr b 0) (cellsO (zcells D t))) | none => False)
  | none => False
 | .box t x =>
  evK T x fun v =>
   match D.ty.get t with
   | some i => (match isAggT i.d with | true => (match v with | .agg cs => K (fun b => .ptr b 0) (cellsO cs) | _ => False) | false => oneK v (K (fun b => .ptr b 0) (cellsO [v])))
   | none => False
 | .buildSlice t n ps =>
  match D.ty.get t with
  | some i =>
   match i.d with
   | .slice e =>
    match D.ty.get e with
    | some ei =>
     match ei.zero with
     | some z =>
      match Nat.ble (n * ei.size) 10000 && Nat.beq z.cells.length ei.size with
      | true => evsK T (ps.toList.map (·.2)) fun vs => fillK ((List.range n).map fun i => (i * ei.size, ei.size, isAggT ei.d)) (zeros z.cells n) ((ps.toList.map (·.1)).zip vs) fun cs => K (fun b => .slice b 0 n (.exact n)) (cellsO cs)
      | false => False
     | none => False
    | none => False
   | _ => False
  | none => False
 | .makeMap _ r => (match r with | none => K (fun b => .map b) mapO | some _ => False)
 | _ => False
theorem obK_ok {T : PT AV} {op : Op} {K : (Nat → AV) → AObj → Prop} (h : obK D T op K) : ∃ f ob, K f ob ∧ ∀ s, opA D T s op = some (.val (f s.nx) (s.new ob).2) := by
 unfold obK at h
 split at h
 ·rename_i t
  split at h
  ·rename_i i hi
   split at h
   ·rename_i z hz
    split at h
    ·exact ⟨_, _, h, fun s => by simp [opA, allocA, hi, hz, v2, newCells, cellsO, St.new]⟩
    ·exact ⟨_, _, h, fun s => by simp [opA, allocA, hi, hz, v2, newCells, cellsO, St.new, zcells]⟩
   ·exact h.elim
  ·exact h.elim
 ·rename_i t x
  obtain ⟨v, h1, h⟩ := optK_ok h
  split at h
  ·split at h
   ·split at h
    ·exact ⟨_, _, h, fun s => by simp [opA, ev1, h1, boxA, v2, newCells, cellsO, St.new, AV.cells]⟩
    ·exact h.elim
   ·obtain ⟨h0, h⟩ := oneK_ok h
    exact ⟨_, _, h, fun s => by simp [opA, ev1, h1, boxA, v2, newCells, cellsO, St.new, h0]⟩
  ·exact h.elim
 ·rename_i t n ps
  split at h
  ·rename_i i hi
   split at h
   ·rename_i e hd
    split at h
    ·rename_i ei hei
     split at h
     ·rename_i z hz
      split at h
      ·rename_i hc
       obtain ⟨vs, h1, h⟩ := evsK_ok h
       obtain ⟨cs, h2, h⟩ := fillK_ok h
       refine ⟨_, _, h, fun s => ?_⟩
       simp only [List.map_map] at h2
       have h2' : fillP (List.map (fun i => (i * ei.size, ei.size)) (List.range n)) (zeros z.cells n) ((ps.toList.map (·.1)).zip vs) = some cs := h2
       simp only [opA, h1, buildSliceA, hi, hd, hei, hz, hc, if_true, h2', v2, newCells, cellsO, St.new]
      ·exact h.elim
     ·exact h.elim
    ·exact h.elim
   ·exact h.elim
  ·exact h.elim
 ·split at h
  ·exact ⟨_, _, h, fun s => by simp [opA, v2, St.new, mapO]⟩
  ·exact h.elim
 ·exact h.elim
def CallsD (P : Program) (g : FuncId) (args : List AV) (s : St) (Q : AV → St → Prop) : Prop :=
 Fr s → ∃ v s', Q v s' ∧ Gro s s' ∧ CallsA P g args s fun v' s'' => v' = v ∧ s'' = s'
theorem CallsD.mono {g : FuncId} {args : List AV} {s : St} {Q Q' : AV → St → Prop} (h : CallsD P g args s Q) (hq : ∀ v s', Q v s' → Q' v s') : CallsD P g args s Q' :=
 fun hf => let ⟨v, s', q, r⟩ := h hf; ⟨v, s', hq v s' q, r⟩
theorem CallsD.of {g : FuncId} {args : List AV} {s : St} {Q : AV → St → Prop} (h : Fr s → CallsD P g args s Q) : CallsD P g args s fun v s' => Q v s' ∧ Fr s' :=
 fun hf => let ⟨v, s', q, g, r⟩ := h hf hf; ⟨v, s', ⟨q, g.1⟩, g, r⟩
theorem CallsD.gro {g : FuncId} {args : List AV} {s : St} {Q : AV → St → Prop} (h : CallsD P g args s Q) : CallsD P g args s fun v s' => Q v s' ∧ Gro s s' :=
 fun hf => let ⟨v, s', q, g, r⟩ := h hf; ⟨v, s', ⟨q, g⟩, g, r⟩
theorem CallsD.fr {g : FuncId} {args : List AV} {s : St} {Q : AV → St → Prop} (h : Fr s → CallsD P g args s Q) : CallsD P g args s Q := fun hf => h hf hf
theorem CallsD.a {g : FuncId} {args : List AV} {s : St} {Q : AV → St → Prop} (h : CallsD P g args s Q) : CallsA P g args s Q :=
 fun φ vals w cs hr hv => by
  obtain ⟨v, s', q, _, hc⟩ := h hr.fr
  obtain ⟨v', s'', ⟨rfl, rfl⟩, r⟩ := hc φ vals w cs hr hv
  exact ⟨v', s'', q, r⟩
def fnK (P : Program) (D : Tab) (rt : FuncId → List TypeId) (det : Bool) (s : St) (g : FuncId) (as : List AV) (K : AV → St → Prop) : Prop :=
 match D.fn.get g with
 | some _ =>
  match det with
  | false => CallsA P g as s fun v s' => exRes D (rt g) fun u => v = u ∧ K u s'
  | true => CallsD P g as s fun v s' => exRes D (rt g) fun u => v = u ∧ K u s'
 | none =>
  match lookN D.ext g with
  | some e => exRes D (rt g) fun u => e as = some u ∧ K u s
  | none =>
   match lookN D.xst g with
   | some e => exRes D (rt g) fun u => ∃ s', e s as = some (u, s') ∧ K u s'
   | none => False
def callK (P : Program) (D : Tab) (rt : FuncId → List TypeId) (det : Bool) (s : St) (f : AV) (as : List AV) (K : AV → St → Prop) : Prop :=
 match f with
 | .func g first caps => fnK P D rt det s g (first ++ as ++ caps) K
 | .yld l => (match det with | false => RoundA P l as s K | true => RoundD P l as s K)
 | _ => False
def asT (D : Tab) (vr : Option (List TypeId)) (K : AV → St → Prop) : AV → St → Prop :=
 match vr with
 | none => K
 | some ts => fun v s' => exRes D ts fun u => v = u ∧ K u s'
theorem asT_ok {vr : Option (List TypeId)} {K : AV → St → Prop} {v : AV} {s' : St} (h : asT D vr K v s') : K v s' := by
 unfold asT at h
 split at h
 ·exact h
 ·obtain ⟨u, rfl, h⟩ := exRes_ok h
  exact h
def asO (D : Tab) (vr : Option (List TypeId)) (f : Operand) (K : AV → St → Prop) : AV → St → Prop :=
 match f with
 | .tmp _ => asT D vr K
 | _ => K
theorem asO_ok {vr : Option (List TypeId)} {f : Operand} {K : AV → St → Prop} {v : AV} {s' : St} (h : asO D vr f K v s') : K v s' := by
 unfold asO at h
 split at h
 ·exact asT_ok h
 ·exact h
def OneA (P : Program) (D : Tab) (det : Bool) (T : PT AV) (s : St) (op : Op) (K : AV → St → Prop) : Prop :=
 match det with
 | false => ∀ o : Oper, o.op = op → OperA P T s o K
 | true => Fr s → ∃ v s', K v s' ∧ Gro s s' ∧ ∀ o : Oper, o.op = op → OperA P T s o fun v' s'' => v' = v ∧ s'' = s'
theorem OneA.val (hD : TabOk P D) (hX : D.xst = []) {det : Bool} {T : PT AV} {s s' : St} {op : Op} {v : AV} {K : AV → St → Prop} (h : opA D T s op = some (.val v s')) (hk : K v s') : OneA P D det T s op K := by
 cases det with
 | false => exact fun o ho => .val hD (by rw [ho]; exact h) hk
 | true => exact fun hf => ⟨v, s', hk, opA_gro hX hf h, fun o ho => .val hD (by rw [ho]; exact h) ⟨rfl, rfl⟩⟩
theorem OneA.mono {D : Tab} {det : Bool} {T : PT AV} {s : St} {op : Op} {K K' : AV → St → Prop} (h : OneA P D det T s op K) (hk : ∀ v s', K v s' → K' v s') : OneA P D det T s op K' := by
 cases det with
 | false => exact fun o ho => (h o ho).mono hk
 | true => exact fun hf => let ⟨v, s', q, g, r⟩ := h hf; ⟨v, s', hk v s' q, g, r⟩
theorem fnK_ok {rt : FuncId → List TypeId} (hD : TabOk P D) (hX : D.xst = []) {det : Bool} {T : PT AV} {s : St} {op : Op} {g : FuncId} {first as caps : List AV} {K : AV → St → Prop} (ho : opA D T s op = callA D s (.func g first caps) as) (h : fnK P D rt det s g (first ++ as ++ caps) K) : OneA P D det T s op K := by
 unfold fnK at h
 simp only [callA] at ho
 split at h
 ·rename_i fi hfi
  rw [hfi] at ho
  simp only at ho
  split at h
  ·intro o e
   refine .enter hD (by rw [e]; exact ho) (h.mono fun v s' hv => ?_)
   obtain ⟨u, rfl, hk⟩ := exRes_ok hv
   exact hk
  ·intro hf
   obtain ⟨v, s', h1, h2, h3⟩ := h hf
   obtain ⟨u, rfl, hk⟩ := exRes_ok h1
   exact ⟨v, s', hk, h2, fun o e => .enter hD (by rw [e]; exact ho) h3⟩
 ·rename_i hfi
  rw [hfi] at ho
  simp only at ho
  split at h
  ·rename_i e he
   rw [he] at ho
   obtain ⟨u, h1, h2⟩ := exRes_ok h
   exact .val hD hX (by rw [ho]; simp only [h1, v1]) h2
  ·rename_i he
   rw [he] at ho
   simp only at ho
   split at h
   ·rename_i e he
    rw [he] at ho
    obtain ⟨u, s', h1, h2⟩ := exRes_ok h
    exact .val hD hX (by rw [ho]; simp only [h1, v2]) h2
   ·exact h.elim
def nextK (C : Cx) (s : St) (i : Nat) (it : AV) (K : AV → St → Prop) : Prop :=
 match lookN C.its i with
 | some t =>
  match C.D.ty.get t with
  | some ti =>
   match ti.d with
   | .map kt et => ∃ l, nextA s it false = some l ∧ ∀ v s', (v, s') ∈ l → (v = .tuple [.bool false] ∧ K (.tuple [.bool false]) s') ∨ exT C.D kt fun k => exT C.D et fun e => v = .tuple [.bool true, k, e] ∧ K (.tuple [.bool true, k, e]) s'
   | _ => False
  | none => False
 | none => False
def entK (C : Cx) (s : St) (i : Nat) (it : AV) (K : AV → AV → Prop) : Prop :=
 match lookN C.its i with
 | some t =>
  match C.D.ty.get t with
  | some ti =>
   match ti.d with
   | .map kt et => exT C.D kt fun k => exT C.D et fun e => entryA s it = some (.tuple [k, e]) ∧ K k e
   | _ => False
  | none => False
 | none => False
def isStr (D : Tab) (t : TypeId) : Bool :=
 match D.ty.get t with
 | some i => (match i.d with | .string => true | _ => false)
 | none => false
def heavyK (P : Program) (C : Cx) (det : Bool) (T : PT AV) (s : St) (op : Op) (K : AV → St → Prop) : Prop :=
 match op with
 | .store t a v => evK T a fun p => evK T v fun x => stK C.D s t p x fun s' => K .undef s'
 | .mapUpdate t m k v => evK T m fun a => evK T k fun b => evK T v fun c => ∃ s', mapUpdA C.D s t a b c = some s' ∧ K .undef s'
 | .insert t m k v => evK T m fun a => evK T k fun b => evK T v fun c => ∃ s', mapUpdA C.D s t a b c = some s' ∧ K .undef s'
 | .mapEntry t m k => evK T m fun a => evK T k fun b =>
  (match C.D.ty.get t with | some i => (match i.d with | .map _ et => ∃ n : Int, exT C.D et fun u => ∃ s', mapEntryA C.D s t a b = some (.tuple [u, .int .i64 n], s') ∧ K (.tuple [u, .int .i64 n]) s' | _ => False) | none => False)
 | .entryStore _ m st x => evK T m fun a => evK T st fun b => evK T x fun c => ∃ s', entryStoreA s a b c = some s' ∧ K .undef s'
 | .range t x => evK T x fun v => ∃ b s', rangeA C.D s t v = some (.ptr b 0, s') ∧ K (.ptr b 0) s'
 | .entry it => (match it with | .tmp i => evK T it fun v => entK C s i v fun k e => K (.tuple [k, e]) s | _ => False)
 | .next it str => (match det, str, it with | false, false, .tmp i => evK T it fun v => nextK C s i v K | _, _, _ => False)
 | .convert a b x => evK T x fun v => (match isStr C.D b with | true => ∃ (u : ByteArray) (s' : St), convS C.D s a b v = some (.str u, s') ∧ K (.str u) s' | false => ∃ u s', convS C.D s a b v = some (u, s') ∧ K u s')
 | .makeSlice t l c => evK T l fun a => evK T c fun b => ∃ u s', makeSliceA C.D s t a b = some (u, s') ∧ K u s'
 | .typeAssert x _ t ok => evK T x fun v => (match ok with | true => ∃ r : Bool, exT C.D t fun u => assertA C.D v t true = some (.tuple [u, .bool r]) ∧ K (.tuple [u, .bool r]) s | false => exT C.D t fun u => assertA C.D v t false = some u ∧ K u s)
 | .call c =>
  evsK T c.args.toList fun as =>
   match c.callee with
   | .builtin .append => (match c.argTypes.toList with | [t, u] => (match as with | [x, y] => (match C.app2 && !det with | false => ∃ v s', appendX C.D s t u x y = some (v, s') ∧ K v s' | true => appK C.D s t u x y K) | _ => False) | _ => False)
   | .builtin .copy => (match c.argTypes.toList with | [t, _] => (match as with | [x, y] => ∃ (n : Int) (s' : St), copyA C.D s t x y = some (.int .i64 n, s') ∧ K (.int .i64 n) s' | _ => False) | _ => False)
   | .builtin .delete => (match c.argTypes.toList with | [t, _] => (match as with | [x, y] => ∃ s', deleteA C.D s t x y = some (.tuple [], s') ∧ K (.tuple []) s' | _ => False) | _ => False)
   | .builtin .clear => (match c.argTypes.toList with | [t] => (match as with | [x] => ∃ s', clearA C.D s t x = some (.tuple [], s') ∧ K (.tuple []) s' | _ => False) | _ => False)
   | .value f => evK T f fun fv => callK P C.D C.rt det s fv as (asO C.D C.vrt f K)
   | .invoke r name => evK T r fun v => (match v with | .iface t u => (match C.D.ms t name with | some f => fnK P C.D C.rt det s f ([] ++ (u :: as) ++ []) K | none => False) | _ => False)
   | _ => False
 | _ => False
theorem heavyK_ok {C : Cx} (hD : TabOk P C.D) (hX : C.D.xst = []) {det : Bool} {T : PT AV} {s : St} {op : Op} {K : AV → St → Prop} (h : heavyK P C det T s op K) : OneA P C.D det T s op K := by
 unfold heavyK at h
 split at h
 ·obtain ⟨p, h1, h⟩ := optK_ok h
  obtain ⟨x, h2, h⟩ := optK_ok h
  obtain ⟨s', h3, h⟩ := stK_ok h
  exact .val hD hX (by simp [opA, ev2, h1, h2, h3, u1]) h
 ·obtain ⟨a, h1, h⟩ := optK_ok h
  obtain ⟨b, h2, h⟩ := optK_ok h
  obtain ⟨c, h3, h⟩ := optK_ok h
  obtain ⟨s', h4, h⟩ := h
  exact .val hD hX (by simp [opA, ev2, ev1, h1, h2, h3, h4, u1]) h
 ·obtain ⟨a, h1, h⟩ := optK_ok h
  obtain ⟨b, h2, h⟩ := optK_ok h
  obtain ⟨c, h3, h⟩ := optK_ok h
  obtain ⟨s', h4, h⟩ := h
  exact .val hD hX (by simp [opA, ev2, ev1, h1, h2, h3, h4, u1]) h
 ·obtain ⟨a, h1, h⟩ := optK_ok h
  obtain ⟨b, h2, h⟩ := optK_ok h
  split at h
  ·split at h
   ·obtain ⟨n, h⟩ := h
    obtain ⟨u, h⟩ := exT_ok h
    obtain ⟨s', h3, h⟩ := h
    exact .val hD hX (by simp [opA, ev2, h1, h2, h3, v2]) h
   ·exact h.elim
  ·exact h.elim
 ·obtain ⟨a, h1, h⟩ := optK_ok h
  obtain ⟨b, h2, h⟩ := optK_ok h
  obtain ⟨c, h3, h⟩ := optK_ok h
  obtain ⟨s', h4, h⟩ := h
  exact .val hD hX (by simp [opA, ev2, ev1, h1, h2, h3, h4, u1]) h
 ·obtain ⟨v, h1, h⟩ := optK_ok h
  obtain ⟨b, s', h2, h⟩ := h
  exact .val hD hX (by simp [opA, ev1, h1, h2, v2]) h
 ·split at h
  ·obtain ⟨v, h1, h⟩ := optK_ok h
   unfold entK at h
   split at h
   ·split at h
    ·split at h
     ·obtain ⟨k, h⟩ := exT_ok h
      obtain ⟨e, h⟩ := exT_ok h
      exact .val hD hX (by simp [opA, ev1, h1, h.1, v1]) h.2
     ·exact h.elim
    ·exact h.elim
   ·exact h.elim
  ·exact h.elim
 ·split at h
  ·rename_i it i
   obtain ⟨v, h1, h⟩ := optK_ok h
   unfold nextK at h
   split at h
   ·split at h
    ·split at h
     ·obtain ⟨l, h2, h⟩ := h
      intro o e
      refine .next hD (it := v) (str := false) (by rw [e]; simp [opA, ev1, h1]) h2 fun v s' hm => ?_
      rcases h v s' hm with ⟨rfl, h⟩ | h
      ·exact h
      ·obtain ⟨k, g1⟩ := exT_ok h
       obtain ⟨e', g2⟩ := exT_ok g1
       rw [g2.1]
       exact g2.2
     ·exact h.elim
    ·exact h.elim
   ·exact h.elim
  ·exact h.elim
 ·obtain ⟨v, h1, h⟩ := optK_ok h
  split at h
  ·obtain ⟨u, s', h2, h⟩ := h
   exact .val hD hX (by simp [opA, ev1, h1, h2, v2]) h
  ·obtain ⟨u, s', h2, h⟩ := h
   exact .val hD hX (by simp [opA, ev1, h1, h2, v2]) h
 ·obtain ⟨a, h1, h⟩ := optK_ok h
  obtain ⟨b, h2, h⟩ := optK_ok h
  obtain ⟨u, s', h3, h⟩ := h
  exact .val hD hX (by simp [opA, ev2, h1, h2, h3, v2]) h
 ·obtain ⟨v, h1, h⟩ := optK_ok h
  split at h
  ·obtain ⟨r, h⟩ := h
   obtain ⟨u, h2, h⟩ := exT_ok h
   exact .val hD hX (by simp [opA, ev1, h1, h2, v1]) h
  ·obtain ⟨u, h2, h⟩ := exT_ok h
   exact .val hD hX (by simp [opA, ev1, h1, h2, v1]) h
 ·rename_i c
  obtain ⟨as, h1, h⟩ := evsK_ok h
  split at h
  ·rename_i hc
   split at h
   ·rename_i ht
    split at h
    ·split at h
     ·obtain ⟨v, s', h2, h⟩ := h
      exact .val hD hX (by simp [opA, callOp, h1, hc, builtinA, ht, h2, v2]) h
     ·rename_i hdet
      have hd : det = false := by cases det <;> simp at hdet ⊢
      rcases h with ⟨v, s', h2, h⟩ | ⟨r1, r2, h2, k1, k2⟩
      ·exact .val hD hX (by simp [opA, callOp, h1, hc, builtinA, ht, h2, v2]) h
      ·rw [hd]
       exact fun o e => .app hD e hc ht h1 h2 k1 k2
    ·exact h.elim
   ·exact h.elim
  ·rename_i hc
   split at h
   ·rename_i ht
    split at h
    ·obtain ⟨v, s', h2, h⟩ := h
     exact .val hD hX (by simp [opA, callOp, h1, hc, builtinA, ht, h2, v2]) h
    ·exact h.elim
   ·exact h.elim
  ·rename_i hc
   split at h
   ·rename_i ht
    split at h
    ·obtain ⟨s', h2, h⟩ := h
     exact .val hD hX (by simp [opA, callOp, h1, hc, builtinA, ht, h2, v2]) h
    ·exact h.elim
   ·exact h.elim
  ·rename_i hc
   split at h
   ·rename_i ht
    split at h
    ·obtain ⟨s', h2, h⟩ := h
     exact .val hD hX (by simp [opA, callOp, h1, hc, builtinA, ht, h2, v2]) h
    ·exact h.elim
   ·exact h.elim
  ·rename_i f hc
   obtain ⟨fv, h2, h⟩ := optK_ok h
   unfold callK at h
   split at h
   ·exact (fnK_ok hD hX (by simp only [opA, callOp, h1, hc, ev1, h2]) h).mono fun v s' => asO_ok
   ·split at h
    ·exact fun o e => .round hD (by rw [e]; simp only [opA, callOp, h1, hc, ev1, h2, callA]) (h.mono fun v s' => asO_ok)
    ·intro hf
     obtain ⟨v, s', q, g, r⟩ := h hf
     exact ⟨v, s', asO_ok q, g, fun o e => .round hD (by rw [e]; simp only [opA, callOp, h1, hc, ev1, h2, callA]) r⟩
   ·exact h.elim
  ·rename_i r name hc
   obtain ⟨v, h2, h⟩ := optK_ok h
   split at h
   ·split at h
    ·rename_i f hf
     exact fnK_ok hD hX (by simp only [opA, callOp, h1, hc, ev1, h2, invokeA, hf]) h
    ·exact h.elim
   ·exact h.elim
  ·exact h.elim
 ·exact h.elim
end
end Go.Eng

namespace Go.Eng
noncomputable section
variable {P : Program} {D : Tab}
theorem PT.put_same {α : Type} : ∀ (t : PT α) (k : Nat) (x : α), t.get k = some x → PT.put (some x) t k = t
 | .nil, k, x, h => by simp at h
 | .nd l v r, 0, x, h => by rw [PT.put_zero]; simp at h; rw [h]
 | .nd l v r, k + 1, x, h => by
  rw [PT.get_succ] at h
  rw [PT.put_succ]
  split at h
  ·rename_i e; rw [if_pos e, PT.put_same l _ x h]
  ·rename_i e; rw [if_neg e, PT.put_same r _ x h]
theorem PT.set_same {α : Type} {t : PT α} {k : Nat} {x : α} (h : t.get k = some x) : t.set k x = t := PT.put_same t k x h
theorem cut_of {T : PT AV} : ∀ {l : List Nat} {t : Nat} {x : AV}, t ∈ l → T.get t = some x → (cut T l).get t = some x
 | [], t, x, h, _ => by simp at h
 | u :: r, t, x, h, hx => by
  simp only [cut]
  by_cases e : t = u
  ·subst e
   rw [hx]
   simp
  ·have hm : t ∈ r := by rcases List.mem_cons.1 h with h | h; exact absurd h e; exact h
   split
   ·rw [PT.get_set, if_neg e]; exact cut_of hm hx
   ·exact cut_of hm hx
def guardK (T : PT AV) (ops : Array Oper) (o : Oper) (K : PT AV → Bool → Prop) : Prop :=
 match o.guard with
 | none => K T true
 | some q =>
  match ops[q.1]? with
  | some g =>
   match g.dst with
   | some d =>
    match T.get d with
    | some v => (match v with | .bool y => bsel y (K (T.set d (.bool true)) (true == q.2)) (K (T.set d (.bool false)) (false == q.2)) | _ => K T false)
    | none => False
   | none => False
  | none => False
theorem guardK_ok {T : PT AV} {ops : Array Oper} {o : Oper} {K : PT AV → Bool → Prop} (h : guardK T ops o K) : ∃ g, guardOk T ops o = some g ∧ K T g := by
 unfold guardK at h
 unfold guardOk
 split at h
 ·rename_i hg; simp only [hg]; exact ⟨_, rfl, h⟩
 ·rename_i q hg
  obtain ⟨j, want⟩ := q
  simp only [hg]
  simp only at h
  split at h
  ·rename_i g hj
   simp only [hj]
   split at h
   ·rename_i d hd
    simp only [hd]
    split at h
    ·rename_i v hv
     split at h
     ·rename_i y
      rcases bsel_ok h with ⟨rfl, h⟩ | ⟨rfl, h⟩
      ·rw [PT.set_same hv] at h; simp only [hv]; exact ⟨_, rfl, h⟩
      ·rw [PT.set_same hv] at h; simp only [hv]; exact ⟨_, rfl, h⟩
     ·rename_i hnb
      simp only [hv]
      exact ⟨false, rfl, h⟩
    ·exact h.elim
   ·exact h.elim
  ·exact h.elim
theorem guardOk_cut {T : PT AV} {ops : Array Oper} {o : Oper} {g : Bool} (h : guardOk T ops o = some g) : guardOk (cut T (looksOf ops o)) ops o = some g := by
 unfold guardOk at h ⊢
 split at h
 ·exact h
 ·rename_i j want hg
  split at h
  ·rename_i x hx
   split at h
   ·rename_i d hd
    have hmem : d ∈ looksOf ops o := by simp [looksOf, hg, hx, hd]
    split at h
    ·rename_i b hb
     rw [cut_of hmem hb]; exact h
    ·rename_i v hnb hv
     rw [cut_of hmem hv]
     cases v <;> first | exact h | exact absurd rfl (hnb _)
    ·simp at h
   ·simp at h
  ·simp at h
def isMk : Op → Bool
 | .makeSlice .. => true
 | _ => false
def opK (P : Program) (C : Cx) (T : PT AV) (s : St) (op : Op) (K : AV → St → Prop) : Prop :=
 match isMk op with
 | true => heavyK P C C.det T s op K
 | false =>
  match kindOf C.D op with
  | .pure => pureK C.D T op fun v => K v s
  | .read => readK C.D T s op fun v => K v s
  | .alloc => obK C.D T op fun f ob => ∀ b s', NewO s ob b s' → K (f b) s'
  | .heavy => heavyK P C C.det T s op K
theorem OneA.a {D : Tab} {det : Bool} {T : PT AV} {s : St} {op : Op} {K : AV → St → Prop} (h : OneA P D det T s op K) : ∀ o : Oper, o.op = op → OperA P T s o K := by
 cases det with
 | false => exact h
 | true =>
  intro o ho φ a w b k cs ops i rest h1 h2 h3 h4
  obtain ⟨v, s', hk, _, hc⟩ := h h4.fr
  obtain ⟨v', s'', ⟨rfl, rfl⟩, r⟩ := hc o ho φ a w b k cs ops i rest h1 h2 h3 h4
  exact ⟨v', s'', hk, r⟩
theorem opK_one {C : Cx} (hD : TabOk P C.D) (hX : C.D.xst = []) (hdet : C.det = true) {T : PT AV} {s : St} {op : Op} {K : AV → St → Prop} (h : opK P C T s op K) : OneA P C.D true T s op K := by
 unfold opK at h
 rw [hdet] at h
 split at h
 ·exact heavyK_ok hD hX h
 ·split at h
  ·obtain ⟨v, h1, h2⟩ := pureK_ok h
   exact .val hD hX (h2 s) h1
  ·obtain ⟨v, h1, h2⟩ := readK_ok h
   exact .val hD hX h2 h1
  ·obtain ⟨f, ob, h1, h2⟩ := obK_ok h
   intro hf
   exact OneA.val (det := true) hD hX (h2 s) (h1 _ _ ⟨rfl, rfl, hf⟩) hf
  ·exact heavyK_ok hD hX h
theorem opK_ok {C : Cx} (hD : TabOk P C.D) (hX : C.D.xst = []) {T : PT AV} {s : St} {o : Oper} {K : AV → St → Prop} (h : opK P C T s o.op K) : OperA P T s o K := by
 unfold opK at h
 split at h
 ·exact (heavyK_ok hD hX h).a o rfl
 ·split at h
  ·obtain ⟨v, h1, h2⟩ := pureK_ok h
   exact .val hD (h2 s) h1
  ·obtain ⟨v, h1, h2⟩ := readK_ok h
   exact .val hD h2 h1
  ·obtain ⟨f, ob, h1, h2⟩ := obK_ok h
   intro φ a w b k cs ops i rest g1 g2 g3 g4
   exact OperA.val hD (h2 s) (h1 _ _ ⟨rfl, rfl, g4.fr⟩) φ a w b k cs ops i rest g1 g2 g3 g4
  ·exact (heavyK_ok hD hX h).a o rfl
def seqK (P : Program) (C : Cx) (ops : Array Oper) : List Oper → PT AV → Nat → St → (PT AV → St → Prop) → Prop
 | [], T, _, s, K => K T s
 | o :: r, T, n, s, K =>
  guardK T ops o fun T g =>
   match g with
   | false => seqK P C ops r (putA T n o.dst .undef) n s K
   | true => opK P C T s o.op fun v s' => seqK P C ops r (putA T n o.dst v) n s' K
def dstIn (asg : Nat → Bool) (o : Oper) : Bool :=
 match o.dst with
 | some d => asg d
 | none => true
def Pres (asg : Nat → Bool) (T T' : PT AV) : Prop := ∀ i, asg i = false → T'.get i = T.get i
theorem Pres.refl (asg : Nat → Bool) (T : PT AV) : Pres asg T T := fun _ _ => rfl
theorem Pres.trans {asg : Nat → Bool} {T T1 T2 : PT AV} (h : Pres asg T T1) (h' : Pres asg T1 T2) : Pres asg T T2 := fun i hi => (h' i hi).trans (h i hi)
theorem Pres.put {asg : Nat → Bool} {T : PT AV} {n : Nat} {o : Oper} {v : AV} (h : dstIn asg o = true) : Pres asg T (putA T n o.dst v) := by
 intro i hi
 refine putA_ne ?_
 intro e
 simp [dstIn, e, hi] at h
theorem seqK_ok {C : Cx} (hD : TabOk P C.D) (hX : C.D.xst = []) {ops : Array Oper} {asg : Nat → Bool} : ∀ (l : List Oper) (i : Nat) (cf : Cf) (K : PT AV → St → Prop), ops.toList.drop i = l → (∀ o, o ∈ l → dstIn asg o = true) → seqK P C ops l cf.t cf.n cf.s K →
  RegA P ops i l cf fun cf' => K cf'.t cf'.s ∧ Pres asg cf.t cf'.t ∧ cf'.n = cf.n ∧ cf'.ds = cf.ds
 | [], i, cf, K, _, _, h => .nil ⟨h, .refl _ _, rfl, rfl⟩
 | o :: r, i, cf, K, hl, hd, h => by
  have ho : ops[i]? = some o := by
   have h1 : (ops.toList.drop i)[0]? = some o := by rw [hl]; rfl
   simpa using h1
  have hr : ops.toList.drop (i + 1) = r := by
   have : ops.toList.drop (i + 1) = (ops.toList.drop i).drop 1 := by simp
   rw [this, hl]; rfl
  have hdo := hd o (List.mem_cons_self ..)
  have hdr := fun x hx => hd x (List.mem_cons_of_mem _ hx)
  simp only [seqK] at h
  obtain ⟨g, hg, h⟩ := guardK_ok h
  cases g with
  | false =>
   refine .skip ho hg ?_
   have := seqK_ok hD hX r (i + 1) { cf with t := putA cf.t cf.n o.dst .undef } K hr hdr h
   intro φ a w b k cs hc
   obtain ⟨cf', ⟨q1, q2, q3, q4⟩, q⟩ := this φ a w b k cs hc
   exact ⟨cf', ⟨q1, (Pres.put hdo).trans q2, q3, q4⟩, q⟩
  | true =>
   refine .cons ho hg ((opK_ok hD hX h).mono fun v s' hv => ?_)
   have := seqK_ok hD hX r (i + 1) { cf with t := putA cf.t cf.n o.dst v, s := s' } K hr hdr hv
   intro φ a w b k cs hc
   obtain ⟨cf', ⟨q1, q2, q3, q4⟩, q⟩ := this φ a w b k cs hc
   exact ⟨cf', ⟨q1, (Pres.put hdo).trans q2, q3, q4⟩, q⟩
def hsetS (s : St) (b : Nat) (o : AObj) : St := { s with h := s.h.set b o }
def flS (m : Nat) : List (Nat × Nat × AObj) → St → St
 | [], s => s
 | x :: r, s => (match bitOf m x.1 with | true => flS m r (hsetS s x.2.1 x.2.2) | false => flS m r s)
theorem flS_eq (m : Nat) : ∀ (pend : List (Nat × Nat × AObj)) (s : St), flS m pend s = { s with h := flush m pend s.h }
 | [], _ => rfl
 | (i, b, o) :: r, s => by
  simp only [flS, flush]
  cases hb : bitOf m i with
  | true => simp only [if_true]; rw [flS_eq m r]; rfl
  | false => simp only [Bool.false_eq_true, if_false]; rw [flS_eq m r]
def flA : List (Nat × Nat × AObj) → St → St
 | [], s => s
 | x :: r, s => flA r (hsetS s x.2.1 x.2.2)
theorem flA_eq : ∀ (pend : List (Nat × Nat × AObj)) (s : St), flA pend s = { s with h := flushAll pend s.h }
 | [], _ => rfl
 | (i, b, o) :: r, s => by
  simp only [flA, flushAll]
  rw [flA_eq r]; rfl
def pastK (D : Tab) (T : PT AV) (op : Op) (m : Nat) (pend : List (Nat × Nat × AObj)) (v : AV) : List (Nat × St) → Prop → Prop
 | [], R => R
 | x :: r, R => (match bitOf m x.1 with | true => R | false => reK D T (flS m pend x.2) op v (pastK D T op m pend v r R))
def readsK (D : Tab) (ms : List Nat) (m : Nat) (pend : List (Nat × Nat × AObj)) (s : St) : List (Nat × Op × PT AV × AV) → Prop → Prop
 | [], R => R
 | x :: r, R => (match bitOf m x.1 with | true => readsK D ms m pend s r R | false => reK D x.2.2.1 (flS (ms[x.1]?.getD 0) pend s) x.2.1 x.2.2.2 (readsK D ms m pend s r R))
def drawK (P : Program) (C : Cx) (ops : Array Oper) (ms : List Nat) (base n : Nat) : Nat → List (Oper × Nat) → Rg → (Rg → Prop) → Prop
 | _, [], g, K => K g
 | i, x :: r, g, K =>
  guardK g.t ops x.1 fun T b =>
   match b with
   | false => drawK P C ops ms base n (i + 1) r { t := putA T n x.1.dst .undef, s := g.s, pend := g.pend, past := g.past, reads := g.reads } K
   | true =>
    match kindOf C.D x.1.op with
    | .pure => pureK C.D (cut T (looksOf ops x.1)) x.1.op fun v => drawK P C ops ms base n (i + 1) r { t := putA T n x.1.dst v, s := g.s, pend := g.pend, past := g.past, reads := g.reads } K
    | .read => readK C.D (cut T (looksOf ops x.1)) (flS x.2 g.pend g.s) x.1.op fun v => pastK C.D (cut T (looksOf ops x.1)) x.1.op x.2 g.pend v g.past
      (drawK P C ops ms base n (i + 1) r { t := putA T n x.1.dst v, s := g.s, pend := g.pend, past := g.past, reads := (i, x.1.op, cut T (looksOf ops x.1), v) :: g.reads } K)
    | .alloc => obK C.D (cut T (looksOf ops x.1)) x.1.op fun f ob => drawK P C ops ms base n (i + 1) r { t := putA T n x.1.dst (f (base + i)), s := g.s, pend := (i, base + i, ob) :: g.pend, past := g.past, reads := g.reads } K
    | .heavy =>
     match allPast x.2 g.past with
     | true => heavyK P C true (cut T (looksOf ops x.1)) (flS x.2 g.pend g.s) x.1.op fun v s' => readsK C.D ms x.2 (keep x.2 g.pend) s' g.reads
       (drawK P C ops ms base n (i + 1) r { t := putA T n x.1.dst v, s := s', pend := keep x.2 g.pend, past := (i, g.s) :: g.past, reads := Dr.readsF x.2 g.reads } K)
     | false => False
def ReadsOk (D : Tab) (l : List (Nat × Op × PT AV × AV)) : Prop := ∀ x, x ∈ l → ∃ s0, opA D x.2.2.1 s0 x.2.1 = some (.val x.2.2.2 s0)
theorem pastK_ok {T : PT AV} {op : Op} {m : Nat} {pend : List (Nat × Nat × AObj)} {v : AV} {s0 : St} {R : Prop} (h0 : opA D T s0 op = some (.val v s0)) : ∀ {l : List (Nat × St)}, pastK D T op m pend v l R → Dr.PastP D T op m pend v l ∧ R
 | [], h => ⟨trivial, h⟩
 | (k, s) :: r, h => by
  simp only [pastK] at h
  simp only [Dr.PastP]
  cases hb : bitOf m k with
  | true => rw [hb] at h; exact ⟨trivial, h⟩
  | false =>
   rw [hb] at h
   obtain ⟨h1, h2⟩ := reK_ok h0 h
   obtain ⟨h3, h4⟩ := pastK_ok h0 h2
   rw [flS_eq] at h1
   exact ⟨⟨h1, h3⟩, h4⟩
theorem readsK_ok {ms : List Nat} {m : Nat} {pend : List (Nat × Nat × AObj)} {s : St} {R : Prop} : ∀ {l : List (Nat × Op × PT AV × AV)}, ReadsOk D l → readsK D ms m pend s l R →
  (∀ x, x ∈ l → bitOf m x.1 = false → readAt D x.2.2.1 { s with h := flush (ms[x.1]?.getD 0) pend s.h } x.2.1 = some x.2.2.2) ∧ R
 | [], _, h => ⟨by simp, h⟩
 | y :: r, hr, h => by
  have hr' : ReadsOk D r := fun x hx => hr x (List.mem_cons_of_mem _ hx)
  simp only [readsK] at h
  cases hb : bitOf m y.1 with
  | true =>
   rw [hb] at h
   obtain ⟨h1, h2⟩ := readsK_ok hr' h
   refine ⟨fun x hx hx' => ?_, h2⟩
   rcases List.mem_cons.1 hx with rfl | hx
   ·rw [hb] at hx'; simp at hx'
   ·exact h1 x hx hx'
  | false =>
   rw [hb] at h
   obtain ⟨s0, h0⟩ := hr y (List.mem_cons_self ..)
   obtain ⟨h1, h2⟩ := reK_ok h0 h
   obtain ⟨h3, h4⟩ := readsK_ok hr' h2
   rw [flS_eq] at h1
   refine ⟨fun x hx hx' => ?_, h4⟩
   rcases List.mem_cons.1 hx with rfl | hx
   ·exact h1
   ·exact h3 x hx hx'
theorem readsF_sub {m : Nat} {x : Nat × Op × PT AV × AV} : ∀ {l : List (Nat × Op × PT AV × AV)}, x ∈ Dr.readsF m l → x ∈ l
 | [], h => by simp [Dr.readsF] at h
 | y :: r, h => by
  simp only [Dr.readsF] at h
  split at h
  ·exact List.mem_cons_of_mem _ (readsF_sub h)
  ·rcases List.mem_cons.1 h with rfl | h
   ·exact List.mem_cons_self ..
   ·exact List.mem_cons_of_mem _ (readsF_sub h)
def PendN (s0 : St) (base N : Nat) (g : Rg) : Prop := Fr g.s ∧ base + N ≤ g.s.nx ∧ (∀ x, x ∈ g.pend → base ≤ x.2.1 ∧ x.2.1 < g.s.nx) ∧ ∀ b, b < base → s0.h.get b = none → g.s.h.get b = none
theorem flS_fr {base : Nat} (m : Nat) : ∀ (pend : List (Nat × Nat × AObj)) (s : St), Fr s → (∀ x, x ∈ pend → base ≤ x.2.1 ∧ x.2.1 < s.nx) → Fr (flS m pend s) ∧ (flS m pend s).nx = s.nx ∧ ∀ b, b < base → (flS m pend s).h.get b = s.h.get b
 | [], s, h, _ => ⟨h, rfl, fun _ _ => rfl⟩
 | x :: r, s, h, hp => by
  simp only [flS]
  cases hb : bitOf m x.1 with
  | true =>
   have h1 : Fr (hsetS s x.2.1 x.2.2) := fun c hc => by
    have hc : s.nx ≤ c := hc
    have := (hp x (List.mem_cons_self ..)).2
    have : c ≠ x.2.1 := by omega
    simp [hsetS, PT.get_set, this, h c hc]
   obtain ⟨q1, q2, q3⟩ := flS_fr (base := base) m r _ h1 fun y hy => hp y (List.mem_cons_of_mem _ hy)
   refine ⟨q1, q2, fun c hc => (q3 c hc).trans ?_⟩
   have := (hp x (List.mem_cons_self ..)).1
   have : c ≠ x.2.1 := by omega
   simp [hsetS, PT.get_set, this]
  | false => exact flS_fr m r _ h fun y hy => hp y (List.mem_cons_of_mem _ hy)
theorem keep_sub {m : Nat} {x : Nat × Nat × AObj} : ∀ {l : List (Nat × Nat × AObj)}, x ∈ keep m l → x ∈ l
 | [], h => by simp [keep] at h
 | y :: r, h => by
  simp only [keep] at h
  split at h
  ·exact List.mem_cons_of_mem _ (keep_sub h)
  ·rcases List.mem_cons.1 h with rfl | h
   ·exact List.mem_cons_self ..
   ·exact List.mem_cons_of_mem _ (keep_sub h)
theorem drawK_ok {C : Cx} (hD : TabOk P C.D) (hX : C.D.xst = []) {ops : Array Oper} {base n N : Nat} {s0 : St} {asg : Nat → Bool} {K : Rg → Prop} : ∀ (l : List (Oper × Nat)) (i : Nat) (g : Rg), i + l.length ≤ N → PendN s0 base N g → ReadsOk C.D g.reads → (∀ o m, (o, m) ∈ l → dstIn asg o = true) → drawK P C ops (masks ops.toList) base n i l g K →
  ∃ gs : Nat → Rg, gs i = g ∧ K (gs (i + l.length)) ∧ PendN s0 base N (gs (i + l.length)) ∧ Pres asg g.t (gs (i + l.length)).t ∧ ∀ k o m, l[k]? = some (o, m) → Dr.One P C.D ops base n (i + k) o m (gs (i + k)) (cut (gs (i + k)).t (looksOf ops o)) (gs (i + k + 1))
 | [], i, g, _, hP, _, _, h => ⟨fun _ => g, rfl, h, hP, .refl _ _, by simp⟩
 | (o, m) :: r, i, g, hN, hP, hrd, hd, h => by
  have hN1 : i + 1 + r.length ≤ N := by simp at hN; omega
  have hdo := hd o m (List.mem_cons_self ..)
  have hdr := fun x y hx => hd x y (List.mem_cons_of_mem _ hx)
  have next : ∀ g1 : Rg, drawK P C ops (masks ops.toList) base n (i + 1) r g1 K → (∃ v, g1.t = putA g.t n o.dst v) → PendN s0 base N g1 → ReadsOk C.D g1.reads → Dr.One P C.D ops base n i o m g (cut g.t (looksOf ops o)) g1 →
    ∃ gs : Nat → Rg, gs i = g ∧ K (gs (i + ((o, m) :: r).length)) ∧ PendN s0 base N (gs (i + ((o, m) :: r).length)) ∧ Pres asg g.t (gs (i + ((o, m) :: r).length)).t ∧ ∀ k o' m', ((o, m) :: r)[k]? = some (o', m') → Dr.One P C.D ops base n (i + k) o' m' (gs (i + k)) (cut (gs (i + k)).t (looksOf ops o')) (gs (i + k + 1)) := by
   intro g1 hk ⟨v, hv⟩ hP1 hr1 hone
   obtain ⟨gs, e1, e2, e2', e3, e4⟩ := drawK_ok hD hX r (i + 1) g1 hN1 hP1 hr1 hdr hk
   have e : i + (r.length + 1) = i + 1 + r.length := by omega
   have hne : i + (r.length + 1) ≠ i := by omega
   refine ⟨fun j => if j = i then g else gs j, by simp, ?_, ?_, ?_, ?_⟩
   ·simp only [List.length_cons, hne, if_false]; rw [e]; exact e2
   ·simp only [List.length_cons, hne, if_false]; rw [e]; exact e2'
   ·simp only [List.length_cons, hne, if_false]; rw [e]
    exact (by rw [hv]; exact Pres.put hdo : Pres asg g.t g1.t).trans e3
   ·intro k o' m' hk'
    cases k with
    | zero =>
     simp at hk'
     obtain ⟨rfl, rfl⟩ := hk'
     have : i + 0 + 1 ≠ i := by omega
     simp only [Nat.add_zero, if_true, this, if_false, e1]
     simpa using hone
    | succ k =>
     have a1 : i + (k + 1) ≠ i := by omega
     have a2 : i + (k + 1) + 1 ≠ i := by omega
     have := e4 k o' m' (by simpa using hk')
     have a3 : i + 1 + k = i + (k + 1) := by omega
     simp only [a1, a2, if_false]
     rw [a3] at this
     exact this
  simp only [drawK] at h
  obtain ⟨b, hg, h⟩ := guardK_ok h
  have hgc := guardOk_cut hg
  cases b with
  | false =>
   simp only at h
   exact next _ h ⟨_, rfl⟩ hP hrd (.skip hgc)
  | true =>
   simp only at h
   split at h
   ·rename_i hk
    obtain ⟨v, h1, h2⟩ := pureK_ok h
    exact next _ h1 ⟨v, rfl⟩ hP hrd (.pure v _ hgc hk (h2 g.s))
   ·rename_i hk
    obtain ⟨v, h1, h2⟩ := readK_ok h
    obtain ⟨h3, h4⟩ := pastK_ok h2 h1
    rw [flS_eq] at h2
    refine next _ h4 ⟨v, rfl⟩ hP ?_ (.read v hgc hk (by simp only [readAt, h2]) h3)
    intro x hx
    rcases List.mem_cons.1 hx with rfl | hx
    ·exact ⟨_, h2⟩
    ·exact hrd x hx
   ·rename_i hk
    obtain ⟨f, ob, h1, h2⟩ := obK_ok h
    refine next _ h1 ⟨f (base + i), rfl⟩ ⟨hP.1, hP.2.1, fun x hx => by
     rcases List.mem_cons.1 hx with rfl | hx
     ·have := hP.2.1; simp only; omega
     ·exact hP.2.2.1 x hx, hP.2.2.2⟩ hrd (.alloc (f (base + i)) _ ob hgc hk (h2 _) ?_)
    simp [St.new]
   ·rename_i hk
    split at h
    ·rename_i hp
     obtain ⟨f1, f2, f3⟩ := flS_fr m g.pend g.s hP.1 hP.2.2.1
     obtain ⟨v, s', h1, hG, h2⟩ := heavyK_ok hD hX h f1
     obtain ⟨h3, h4⟩ := readsK_ok hrd h1
     have hn : g.s.nx ≤ s'.nx := by rw [← f2]; exact hG.2.1
     have h2' := h2 o rfl
     rw [flS_eq] at h2'
     exact next _ h4 ⟨v, rfl⟩ ⟨hG.1, Nat.le_trans hP.2.1 hn, fun x hx => ⟨(hP.2.2.1 x (keep_sub hx)).1, Nat.lt_of_lt_of_le (hP.2.2.1 x (keep_sub hx)).2 hn⟩, fun b hb h0 => hG.2.2 b (by rw [f2]; have := hP.2.1; omega) (by rw [f3 b hb]; exact hP.2.2.2 b hb h0)⟩ (fun x hx => hrd x (readsF_sub hx)) (.heavy v s' hgc hk hp h2' h3)
    ·exact h.elim
def Bump (s : St) (n : Nat) (s1 : St) : Prop := s1 = { s with nx := s.nx + n } ∧ Fr s
def drawR (P : Program) (C : Cx) (ops : Array Oper) (T : PT AV) (n : Nat) (s : St) (K : PT AV → St → Prop) : Prop :=
 match regOk ops with
 | true => ∀ s1, Bump s ops.size s1 → drawK P C ops (masks ops.toList) s.nx n 0 (ops.toList.zip (masks ops.toList)) { t := T, s := s1, pend := [], past := [], reads := [] } fun g => K g.t (flA g.pend g.s)
 | false => False
def RunD (P : Program) (rnd : Option Nat) (fn : FuncId) (code : Code) (cf : Cf) (Q : Ex → Cf → Prop) : Prop :=
 Fr cf.s → ∃ e cf', Q e cf' ∧ Gro cf.s cf'.s ∧ RunA P rnd fn code cf fun e' cf'' => e' = e ∧ cf'' = cf'
theorem RunD.a {rnd : Option Nat} {fn : FuncId} {code : Code} {cf : Cf} {Q : Ex → Cf → Prop} (h : RunD P rnd fn code cf Q) : RunA P rnd fn code cf Q := by
 intro φ a w b k cs hc hb hk hr
 obtain ⟨e, cf', q, _, hrun⟩ := h hc.s.fr
 obtain ⟨e', cf'', ⟨rfl, rfl⟩, r⟩ := hrun φ a w b k cs hc hb hk hr
 exact ⟨e', cf'', q, r⟩
theorem RunD.mono {rnd : Option Nat} {fn : FuncId} {code : Code} {cf : Cf} {Q Q' : Ex → Cf → Prop} (h : RunD P rnd fn code cf Q) (hq : ∀ e cf', Q e cf' → Q' e cf') : RunD P rnd fn code cf Q' :=
 fun hf => let ⟨e, cf', q, r⟩ := h hf; ⟨e, cf', hq e cf' q, r⟩
theorem RunD.draw {C : Cx} (hD : TabOk P C.D) (hX : C.D.xst = []) (hmix : P.follows .mixedOrders = true) {rnd : Option Nat} {fn : FuncId} {id : Nat} {ops : Array Oper} {cf : Cf} {asg : Nat → Bool} {K : PT AV → St → Prop} (ha : ∀ o, o ∈ ops.toList → dstIn asg o = true) (h : drawR P C ops cf.t cf.n cf.s K) :
  RunD P rnd fn (.region id ops true) cf fun e cf' => e = .normal ∧ K cf'.t cf'.s ∧ Pres asg cf.t cf'.t ∧ cf'.n = cf.n ∧ cf'.ds = cf.ds := by
 unfold drawR at h
 split at h
 ·rename_i hreg
  intro hfr
  have h := h _ ⟨rfl, hfr⟩
  have hlen : (ops.toList.zip (masks ops.toList)).length = ops.size := by
   have h1 : (masks ops.toList).length = ops.size := by
    have := (go_take ops.toList []).2
    simpa [masks] using this
   simp [h1]
  have hP : PendN cf.s cf.s.nx ops.size { t := cf.t, s := { cf.s with nx := cf.s.nx + ops.size }, pend := [], past := [], reads := [] } :=
   ⟨fun c hc => hfr c (by simp at hc; omega), Nat.le_refl _, fun x hx => by simp at hx, fun _ _ h => h⟩
  obtain ⟨gs, e1, e2, e3, e4, e5⟩ := drawK_ok hD hX (N := ops.size) _ 0 _ (by rw [hlen]; omega) hP (by intro x hx; simp at hx) (fun o m hm => ha o (List.of_mem_zip hm).1) h
  rw [hlen, Nat.zero_add] at e2 e3 e4
  have hw : Dr.Walk P C.D ops cf.s.nx cf.n gs := by
   intro i o ho
   have := e5 i o _ (zip_get ho)
   rw [Nat.zero_add] at this
   exact this
  rw [flA_eq] at e2
  refine ⟨.normal, { cf with t := (gs ops.size).t, s := { (gs ops.size).s with h := flushAll (gs ops.size).pend (gs ops.size).s.h } }, ⟨rfl, e2, e4, rfl, rfl⟩, ⟨fun c hc => ?_, ?_, fun c hc hn => ?_⟩, ?_⟩
  ·have hc : (gs ops.size).s.nx ≤ c := hc
   cases hx : (flushAll (gs ops.size).pend (gs ops.size).s.h).get c with
   | none => rfl
   | some o =>
    rcases flushAll_get hx with h1 | ⟨j, h1⟩
    ·rw [e3.1 c hc] at h1; simp at h1
    ·have := (e3.2.2.1 _ h1).2; simp only at this; omega
  ·have := e3.2.1
   simp only; omega
  ·have hc : c < cf.s.nx := hc
   cases hx : (flushAll (gs ops.size).pend (gs ops.size).s.h).get c with
   | none => rfl
   | some o =>
    rcases flushAll_get hx with h1 | ⟨j, h1⟩
    ·rw [e3.2.2.2 c hc hn] at h1; simp at h1
    ·have := (e3.2.2.1 _ h1).1; simp only at this; omega
  ·intro φ a w b k cs hc hb hk hr
   obtain ⟨φ', a', w', q1, q2, q3⟩ := Dr.draw_ok hD hmix hreg e1 rfl hw hc b k cs id
   exact ⟨_, _, ⟨rfl, rfl⟩, φ', a', w', q1, q2, q3⟩
 ·exact h.elim
theorem RunA.draw {C : Cx} (hD : TabOk P C.D) (hX : C.D.xst = []) (hmix : P.follows .mixedOrders = true) {rnd : Option Nat} {fn : FuncId} {id : Nat} {ops : Array Oper} {cf : Cf} {asg : Nat → Bool} {K : PT AV → St → Prop} (ha : ∀ o, o ∈ ops.toList → dstIn asg o = true) (h : drawR P C ops cf.t cf.n cf.s K) :
  RunA P rnd fn (.region id ops true) cf fun e cf' => e = .normal ∧ K cf'.t cf'.s ∧ Pres asg cf.t cf'.t ∧ cf'.n = cf.n ∧ cf'.ds = cf.ds := (RunD.draw hD hX hmix ha h).a
end
end Go.Eng

