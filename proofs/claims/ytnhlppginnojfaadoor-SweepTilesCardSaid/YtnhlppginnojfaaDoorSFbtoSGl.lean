/-
  What a span may be.
  A span in new memory; spans of one trace.
  Rings: plain.
  A forest as it lies in memory.
  Which spans are roots: plain; one goes along parents.
  Which spans are roots: the walk.
  Rings as the law walks them; one span more: plain.
  Places in their order; clips.
  What a forest's spans settle to: plain.
-/
import Derived.Test.YtnhlppginnojfaaDoorSYvtoSFa
import Derived.Test.YtnhlppginnojfaaDoorSVfetoSVha
import Derived.Test.YtnhlppginnojfaaDoorW15to28
import Derived.Test.YtnhlppginnojfaaDoorSVs4toSVfd
import Derived.Test.YtnhlppginnojfaaDoorW32to34
import Derived.Test.YtnhlppginnojfaaDoorSYp
set_option linter.unusedVariables false
set_option linter.unusedSimpArgs false
namespace Go.Eng.S
open Go Go.Eng Go.Proofs
set_option linter.constructorNameAsVariable false
noncomputable section
attribute [local irreducible] bsel
abbrev idK (n : Int) : AV := .int .u64 n
structure AttrC where
 key : ByteArray
 kind : Int
 text : ByteArray
 num : Int
structure EvC where
 at' : Int
 name : ByteArray
def attrE : Enc AttrC := ⟨fun a => [.str a.key, .int .i64 a.kind, .str a.text, .int .i64 a.num], 4, by decide, fun _ => rfl⟩
def evE : Enc EvC := ⟨fun a => [.int .i64 a.at', .str a.name], 2, by decide, fun _ => rfl⟩
abbrev linkE : Enc Int := oneE idK
structure SpC where
 hi : Int
 lo : Int
 id : Int
 par : Int
 lk : List Int
 svc : ByteArray
 op : ByteArray
 kd : Int
 st : Int
 t0 : Int
 t1 : Int
 atr : List AttrC
 ev : List EvC
structure SpX where
 c : SpC
 x : AV
 y : AV
 z : AV
def SpX.cells (a : SpX) : List AV := [.int .u64 a.c.hi, .int .u64 a.c.lo, .int .u64 a.c.id, .int .u64 a.c.par, a.x, .str a.c.svc, .str a.c.op, .int .i64 a.c.kd, .int .i64 a.c.st, .int .i64 a.c.t0, .int .i64 a.c.t1, a.y, a.z]
def spE : Enc SpX := ⟨SpX.cells, 13, by decide, fun _ => rfl⟩
structure SpX.At (s : St) (a : SpX) : Prop where
 x : Sl linkE s a.x a.c.lk
 y : Sl attrE s a.y a.c.atr
 z : Sl evE s a.z a.c.ev
theorem SpX.At.ext {s s' : St} {a : SpX} (h : a.At s) (hf : Frw [] s s') : a.At s' := ⟨h.x.ext hf, h.y.ext hf, h.z.ext hf⟩
theorem SpX.ones {s : St} {a : SpX} (h : a.At s) : Eng.ones a.cells = true := by
 unfold SpX.cells
 have e : ∀ (n : Int) (k : IntKind) (r : List AV), Eng.ones (.int k n :: r) = Eng.ones r := fun _ _ _ => rfl
 have e2 : ∀ (n : ByteArray) (r : List AV), Eng.ones (.str n :: r) = Eng.ones r := fun _ _ => rfl
 rw [e, e, e, e, h.x.onesx, e2, e2, e, e, e, e, h.y.onesx, h.z.onesx]
 rfl
def lkB (id : Int) : Int → List Int → Bool
 | _, [] => true
 | p, x :: r => if x ≤ p ∨ x = id then false else lkB id x r
def linkedB (c : SpC) : Bool := lkB c.id 0 c.lk && decide (((c.lk.length : Nat) : Int) ≤ 16)
theorem linked_ok {a : SpX} {s : St} (h : a.At s) (hsz : a.c.lk.length < 9223372036854775808) : CallsD P F.span_linked [.agg a.cells] s fun v s' => v = .bool (linkedB a.c) ∧ Frw [] s s' := by
 refine vc.span_linked_ok ?_
 intro m1 s2 h2
 have o := h2.own
 have hx := h.x.ext h2.fwd
 refine ⟨a.x, o.ld1 4 rfl, hx.slen ?_⟩
 refine ⟨fun p n s' m => s' = s2 ∧ ∃ i : Nat, n = i ∧ m = a.c.lk.length - i ∧ i ≤ a.c.lk.length ∧ lkB a.c.id 0 a.c.lk = lkB a.c.id p (a.c.lk.drop i), ⟨_, rfl, 0, rfl, rfl, by omega, rfl⟩, ?_⟩
 rintro p _ s9 _ ⟨hs9, i, rfl, rfl, hi, he⟩
 subst s9
 refine bsel_of (fun c => ?_) fun c => ?_
 ·have c : i < a.c.lk.length := by simpa using c
  rw [List.drop_eq_getElem_cons c, lkB] at he
  refine hx.ixs rfl rfl c fun b o' hr => ⟨a.c.lk[i], hr.ld1 0 rfl, ?_⟩
  refine ⟨fun t s' _ => s' = s2 ∧ t = decide (a.c.lk[i] ≤ p ∨ a.c.lk[i] = a.c.id), bsel_of (fun c1 => ⟨0, rfl, ?_⟩) fun c1 => ⟨_, o.ld1 2 rfl, 0, rfl, ?_⟩, ?_⟩
  ·have c1 : a.c.lk[i] ≤ p := by simpa using c1
   simp [c1]
  ·have c1 : ¬ a.c.lk[i] ≤ p := by simpa using c1
   simp only [c1, false_or]
   rw [Bool.eq_iff_iff]; simp
  ·rintro t _ _ ⟨rfl, rfl⟩
   refine bsel_of (fun c1 => ⟨?_, h2.fwd⟩) fun c1 => ?_
   ·have c1 : a.c.lk[i] ≤ p ∨ a.c.lk[i] = a.c.id := by simpa using c1
    rw [if_pos c1] at he
    simp [linkedB, he]
   ·have c1 : ¬ (a.c.lk[i] ≤ p ∨ a.c.lk[i] = a.c.id) := by simpa using c1
    rw [if_neg c1] at he
    exact ⟨a.c.lk.length - (i + 1), by omega, rfl, i + 1, wrap_i64 (by omega) (by omega), rfl, by omega, he⟩
 ·have c : i = a.c.lk.length := by simp at c; omega
  subst c
  rw [List.drop_length, lkB] at he
  exact ⟨a.x, o.ld1 4 rfl, hx.slen ⟨by simp [linkedB, he], h2.fwd⟩⟩
def aftK (p : Option ByteArray) (x : ByteArray) : Bool := match p with | some k => bytesLt k.data.toList x.data.toList | none => true
def carB : Option ByteArray → List AttrC → Bool
 | _, [] => true
 | p, x :: r => if keyedB x.key then (if valuedB x.kind x.text x.num then (if aftK p x.key then carB (some x.key) r else false) else false) else false
def carriedB (l : List AttrC) : Bool := carB none l && decide (((l.length : Nat) : Int) ≤ 32)
def prevK (l : List AttrC) : Nat → Option ByteArray
 | 0 => none
 | i + 1 => (l[i]?).map (·.key)
theorem carried_ok {x : AV} {l : List AttrC} {s : St} (hT : TabP s) (h : Sl attrE s x l) (hsz : l.length < 9223372036854775808) : CallsD P F.span_carried [x] s fun v s' => v = .bool (carriedB l) ∧ Frw [] s s' := by
 refine vc.span_carried_ok (h.slen ?_)
 refine ⟨fun n s' m => Frw [] s s' ∧ ∃ i : Nat, n = i ∧ m = l.length - i ∧ i ≤ l.length ∧ carB none l = carB (prevK l i) (l.drop i), ⟨_, Frw.refl _ _, 0, rfl, rfl, by omega, rfl⟩, ?_⟩
 rintro _ s5 _ ⟨hf, i, rfl, rfl, hi, he⟩
 have h5 := h.ext hf
 refine bsel_of (fun c => ?_) fun c => ?_
 ·have c : i < l.length := by simpa using c
  rw [List.drop_eq_getElem_cons c, carB] at he
  refine h5.ixs rfl rfl c fun b o' hr => ⟨l[i].key, l[i].kind, l[i].text, l[i].num, hr.all rfl, ?_⟩
  intro m13 s14 h14
  obtain ⟨s15, w1, o1, f1, r1⟩ := h14.put [.str l[i].key, .int .i64 l[i].kind, .str l[i].text, .int .i64 l[i].num] rfl rfl
  refine ⟨s15, w1, fun s16 h16 => ⟨_, (o1.ext h16.fwd).ld1 0 rfl, keyed_ok.mono ?_⟩⟩
  rintro _ s19 ⟨rfl, hs19⟩
  subst s19
  have hf16 : Frw [] s5 s16 := f1.trans h16.fwd
  have o16 := o1.ext h16.fwd
  refine ⟨_, rfl, bsel_of (fun c1 => ?_) fun c1 => ⟨_, _, _, o16.ldN 1 3 (by simp), (valued_ok (hT.ext (hf.trans hf16))).mono ?_⟩⟩
  ·have c1 : keyedB l[i].key = false := by simpa using c1
   rw [c1] at he
   exact ⟨by simp [carriedB, he], hf.trans hf16⟩
  have c1 : keyedB l[i].key = true := by simpa using c1
  rw [c1, if_pos rfl] at he
  rintro _ s25 ⟨rfl, f25⟩
  have hf25 := (hf.trans hf16).trans f25
  refine ⟨_, rfl, bsel_of (fun c2 => ?_) fun c2 => ?_⟩
  ·have c2 : valuedB l[i].kind l[i].text l[i].num = false := by simpa using c2
   rw [c2] at he
   exact ⟨by simp [carriedB, he], hf25⟩
  have c2 : valuedB l[i].kind l[i].text l[i].num = true := by simpa using c2
  rw [c2, if_pos rfl] at he
  have hgo : ∀ (_ : carB none l = carB (some l[i].key) (l.drop (i + 1))), ∃ m31, m31 < l.length - i ∧ (Frw [] s s25 ∧ ∃ i' : Nat, IntKind.wrap .i64 ((i : Int) + 1) = i' ∧ m31 = l.length - i' ∧ i' ≤ l.length ∧ carB none l = carB (prevK l i') (l.drop i')) := fun he =>
   ⟨l.length - (i + 1), by omega, hf25, i + 1, wrap_i64 (by omega) (by omega), rfl, by omega, by rw [he]; simp [prevK, c]⟩
  refine bsel_of (fun c3 => ?_) fun c3 => ?_
  ·obtain ⟨j, rfl⟩ : ∃ j, i = j + 1 := ⟨i - 1, by simp at c3; omega⟩
   rw [wrap_i64 (by omega) (by omega)]
   refine (h.ext hf25).ixs (k := j) rfl (by omega) (by omega) fun b' o2 hr2 => ⟨l[j].key, hr2.ld1 0 rfl, l[j + 1].key, (o16.ext f25).ld1 0 rfl, ?_⟩
   have hp : prevK l (j + 1) = some l[j].key := by simp [prevK, show j < l.length by omega]
   rw [hp] at he
   refine bsel_of (fun c4 => ?_) fun c4 => hgo ?_
   ·have c4 : bytesLt l[j].key.data.toList l[j + 1].key.data.toList = false := by simpa using c4
    simp only [aftK, c4] at he
    exact ⟨by simp [carriedB, he], hf25⟩
   ·have c4 : bytesLt l[j].key.data.toList l[j + 1].key.data.toList = true := by simpa using c4
    simp only [aftK, c4, if_true] at he
    exact he
  ·obtain rfl : i = 0 := by simp at c3; omega
   refine hgo ?_
   simp only [prevK, aftK, if_true] at he
   exact he
 ·have c : i = l.length := by simp at c; omega
  subst c
  rw [List.drop_length, carB] at he
  exact h5.slen ⟨by simp [carriedB, he], hf⟩
def lateE (p : Option EvC) (x : EvC) : Bool := match p with | some k => decide (evB k.at' k.name x.at' x.name ≥ 0) | none => false
def tolB : Option EvC → List EvC → Bool
 | _, [] => true
 | p, x :: r => if x.at' < 0 then false else if x.at' > 4611686018427387904 then false else if plainB x.name 100 32 then (if lateE p x then false else tolB (some x) r) else false
def toldB (l : List EvC) : Bool := tolB none l && decide (((l.length : Nat) : Int) ≤ 32)
def prevE (l : List EvC) : Nat → Option EvC
 | 0 => none
 | i + 1 => l[i]?
theorem told_ok {x : AV} {l : List EvC} {s : St} (hT : TabP s) (h : Sl evE s x l) (hsz : l.length < 9223372036854775808) : CallsD P F.span_told [x] s fun v s' => v = .bool (toldB l) ∧ Frw [] s s' := by
 refine vc.span_told_ok (h.slen ?_)
 refine ⟨fun n s' m => Frw [] s s' ∧ ∃ i : Nat, n = i ∧ m = l.length - i ∧ i ≤ l.length ∧ tolB none l = tolB (prevE l i) (l.drop i), ⟨_, Frw.refl _ _, 0, rfl, rfl, by omega, rfl⟩, ?_⟩
 rintro _ s5 _ ⟨hf, i, rfl, rfl, hi, he⟩
 have h5 := h.ext hf
 refine bsel_of (fun c => ?_) fun c => ?_
 ·have c : i < l.length := by simpa using c
  rw [List.drop_eq_getElem_cons c, tolB] at he
  refine h5.ixs rfl rfl c fun b o' hr => ⟨l[i].at', l[i].name, hr.all rfl, ?_⟩
  intro m13 s14 h14
  obtain ⟨s15, w1, o1, f1, r1⟩ := h14.put [.int .i64 l[i].at', .str l[i].name] rfl rfl
  refine ⟨s15, w1, fun s16 h16 => ⟨_, (o1.ext h16.fwd).ld1 0 rfl, ?_⟩⟩
  have hf16 : Frw [] s s16 := hf.trans (f1.trans h16.fwd)
  have o16 := o1.ext h16.fwd
  refine bsel_of (fun c1 => ?_) fun c1 => ⟨_, o16.ld1 0 rfl, bsel_of (fun c2 => ?_) fun c2 => ⟨_, o16.ld1 1 rfl, (plain_ok (hT.ext hf16) (by decide)).mono ?_⟩⟩
  ·have c1 : l[i].at' < 0 := by simpa using c1
   rw [if_pos c1] at he
   exact ⟨by simp [toldB, he], hf16⟩
  ·have c1 : ¬ l[i].at' < 0 := by simpa using c1
   have c2 : l[i].at' > 4611686018427387904 := by simpa using c2
   rw [if_neg c1, if_pos c2] at he
   exact ⟨by simp [toldB, he], hf16⟩
  have c1 : ¬ l[i].at' < 0 := by simpa using c1
  have c2 : ¬ l[i].at' > 4611686018427387904 := by simpa using c2
  rw [if_neg c1, if_neg c2] at he
  rintro _ s19 ⟨rfl, hs19⟩
  subst s19
  refine ⟨_, rfl, bsel_of (fun c3 => ?_) fun c3 => ?_⟩
  ·have c3 : plainB l[i].name 100 32 = false := by simpa using c3
   rw [c3] at he
   exact ⟨by simp [toldB, he], hf16⟩
  have c3 : plainB l[i].name 100 32 = true := by simpa using c3
  rw [c3, if_pos rfl] at he
  have hgo : ∀ (s' : St) (_ : Frw [] s s') (_ : tolB none l = tolB (some l[i]) (l.drop (i + 1))), ∃ m31, m31 < l.length - i ∧ (Frw [] s s' ∧ ∃ i' : Nat, IntKind.wrap .i64 ((i : Int) + 1) = i' ∧ m31 = l.length - i' ∧ i' ≤ l.length ∧ tolB none l = tolB (prevE l i') (l.drop i')) := fun s' hs he =>
   ⟨l.length - (i + 1), by omega, hs, i + 1, wrap_i64 (by omega) (by omega), rfl, by omega, by rw [he]; simp [prevE, c]⟩
  refine bsel_of (fun c4 => ?_) fun c4 => ?_
  ·obtain ⟨j, rfl⟩ : ∃ j, i = j + 1 := ⟨i - 1, by simp at c4; omega⟩
   rw [wrap_i64 (by omega) (by omega)]
   refine (h.ext hf16).ixs (k := j) rfl (by omega) (by omega) fun b' o2 hr2 => ⟨l[j].at', l[j].name, hr2.all rfl, _, _, o16.all rfl, events_ok.mono ?_⟩
   have hp : prevE l (j + 1) = some l[j] := by simp [prevE, show j < l.length by omega]
   rw [hp] at he
   rintro _ s28 ⟨rfl, f28⟩
   have hf28 := hf16.trans f28
   refine ⟨_, rfl, bsel_of (fun c5 => ?_) fun c5 => hgo _ hf28 ?_⟩
   ·simp only [lateE, c5, if_true] at he
    exact ⟨by simp [toldB, he], hf28⟩
   ·simp only [lateE, c5] at he
    simpa using he
  ·obtain rfl : i = 0 := by simp at c4; omega
   refine hgo _ hf16 ?_
   simp only [prevE, lateE] at he
   simpa using he
 ·have c : i = l.length := by simp at c; omega
  subst c
  rw [List.drop_length, tolB] at he
  exact h5.slen ⟨by simp [toldB, he], hf⟩
def chk1 (c : SpC) : Bool := (c.hi = 0 ∧ c.lo = 0) ∨ c.id = 0
def chk2 (c : SpC) : Bool := c.t0 < 0 ∨ c.t0 > c.t1 ∨ c.t1 > 4611686018427387904
def chk3 (c : SpC) : Bool := plainB c.svc 60 33 = false ∨ plainB c.op 100 32 = false
def chk4 (c : SpC) : Bool := c.kd < 0 ∨ c.kd > 4 ∨ c.st < 0 ∨ c.st > 2
def chk (c : SpC) : Int :=
 if chk1 c then 41 else if chk2 c then 42 else if chk3 c then 43 else if chk4 c then 44 else if linkedB c = false then 45 else if carriedB c.atr = false then 46 else if toldB c.ev = false then 47 else 0
theorem Check_ok {a : SpX} {s : St} (hT : TabP s) (h : a.At s) (h1 : a.c.lk.length < 9223372036854775808) (h2 : a.c.atr.length < 9223372036854775808) (h3 : a.c.ev.length < 9223372036854775808) :
  CallsD P F.span_Check [.agg a.cells] s fun v s' => v = .int .i64 (chk a.c) ∧ Frw [] s s' := by
 refine vc.span_Check_ok ?_
 intro m1 s2 n2 m3 s4 n4
 have o1 := n2.own.ext n4.fwd
 obtain ⟨s5, w1, o3, f1, r1⟩ := n4.put [.int .u64 0, .int .u64 0] rfl rfl
 have hf5 : Frw [] s s5 := n2.fwd.trans f1
 have o5 := n2.own.ext f1
 have hT5 : TabP s5 := hT.ext hf5
 have h5 := h.ext hf5
 refine ⟨s5, w1, ⟨fun t s' _ => s' = s5 ∧ t = chk1 a.c, ?_, ?_⟩⟩
 ·refine ⟨_, _, o5.ldN 0 2 (by simp), _, _, o3.all rfl, bsel_of (fun c => ⟨0, rfl, ?_⟩) fun c => ⟨_, o5.ld1 2 rfl, 0, rfl, ?_⟩⟩
  ·have c : a.c.hi = 0 ∧ a.c.lo = 0 := by simpa using c
   simp [chk1, c]
  ·have c : ¬ (a.c.hi = 0 ∧ a.c.lo = 0) := by simpa using c
   rw [Bool.eq_iff_iff]; simp [chk1, c]
 rintro t s15 _ ⟨hs15, rfl⟩
 subst s15
 refine bsel_of (fun c => ⟨by rw [chk, if_pos c], hf5⟩) fun c1 => ?_
 have c1 : ¬ chk1 a.c = true := by simp [c1]
 refine ⟨fun t s' _ => s' = s5 ∧ t = chk2 a.c, ?_, ?_⟩
 ·refine ⟨_, o5.ld1 9 rfl, bsel_of (fun c => ⟨0, rfl, ?_⟩) fun c => ⟨_, o5.ld1 9 rfl, _, o5.ld1 10 rfl, bsel_of (fun c' => ⟨0, rfl, ?_⟩) fun c' => ⟨_, o5.ld1 10 rfl, 0, rfl, ?_⟩⟩⟩
  ·have c : a.c.t0 < 0 := by simpa using c
   simp [chk2, c]
  ·have c' : a.c.t0 > a.c.t1 := by simpa using c'
   simp [chk2, c']
  ·have c : ¬ a.c.t0 < 0 := by simpa using c
   have c' : ¬ a.c.t0 > a.c.t1 := by simpa using c'
   simp only [chk2, c, c', false_or]
 rintro t s26 _ ⟨hs26, rfl⟩
 subst s26
 refine bsel_of (fun c => ⟨by rw [chk, if_neg c1, if_pos c], hf5⟩) fun c2 => ?_
 have c2 : ¬ chk2 a.c = true := by simp [c2]
 refine ⟨fun t s' _ => s' = s5 ∧ t = chk3 a.c, ?_, ?_⟩
 ·refine ⟨_, o5.ld1 5 rfl, (plain_ok hT5 (by decide)).mono ?_⟩
  rintro _ s31 ⟨rfl, hs31⟩
  subst s31
  refine ⟨_, rfl, bsel_of (fun c => ⟨0, rfl, ?_⟩) fun c => ⟨_, o5.ld1 6 rfl, (plain_ok hT5 (by decide)).mono ?_⟩⟩
  ·have c : plainB a.c.svc 60 33 = false := by simpa using c
   simp [chk3, c]
  ·have c : plainB a.c.svc 60 33 = true := by simpa using c
   rintro _ s36 ⟨rfl, hs36⟩
   subst s36
   refine ⟨_, rfl, 0, rfl, ?_⟩
   cases hp : plainB a.c.op 100 32 <;> simp [chk3, c, hp]
 rintro t s40 _ ⟨hs40, rfl⟩
 subst s40
 refine bsel_of (fun c => ⟨by rw [chk, if_neg c1, if_neg c2, if_pos c], hf5⟩) fun c3 => ?_
 have c3 : ¬ chk3 a.c = true := by simp [c3]
 refine ⟨fun t s' _ => s' = s5 ∧ t = chk4 a.c, ?_, ?_⟩
 ·refine ⟨_, o5.ld1 7 rfl, bsel_of (fun c => ⟨0, rfl, ?_⟩) fun c => ⟨_, o5.ld1 7 rfl, bsel_of (fun c' => ⟨0, rfl, ?_⟩) fun c' => ⟨_, o5.ld1 8 rfl, bsel_of (fun c'' => ⟨0, rfl, ?_⟩) fun c'' => ⟨_, o5.ld1 8 rfl, 0, rfl, ?_⟩⟩⟩⟩
  ·have c : a.c.kd < 0 := by simpa using c
   simp [chk4, c]
  ·have c' : a.c.kd > 4 := by simpa using c'
   simp [chk4, c']
  ·have c'' : a.c.st < 0 := by simpa using c''
   simp [chk4, c'']
  ·have c : ¬ a.c.kd < 0 := by simpa using c
   have c' : ¬ a.c.kd > 4 := by simpa using c'
   have c'' : ¬ a.c.st < 0 := by simpa using c''
   simp only [chk4, c, c', c'', false_or]
 rintro t s52 _ ⟨hs52, rfl⟩
 subst s52
 refine bsel_of (fun c => ⟨by rw [chk, if_neg c1, if_neg c2, if_neg c3, if_pos c], hf5⟩) fun c4 => ?_
 have c4 : ¬ chk4 a.c = true := by simp [c4]
 refine ⟨_, _, _, _, _, _, _, _, _, _, _, _, _, o5.all rfl, (linked_ok h5 h1).mono ?_⟩
 rintro _ s56 ⟨rfl, f56⟩
 have hf56 := hf5.trans f56
 refine ⟨_, rfl, bsel_of (fun c => ⟨?_, hf56⟩) fun c5 => ⟨_, (o5.ext f56).ld1 11 rfl, (carried_ok (hT.ext hf56) (h.ext hf56).y h2).mono ?_⟩⟩
 ·have c : linkedB a.c = false := by simpa using c
  rw [chk, if_neg c1, if_neg c2, if_neg c3, if_neg c4, if_pos c]
 have c5 : ¬ linkedB a.c = false := by simpa using c5
 rintro _ s60 ⟨rfl, f60⟩
 have hf60 := hf56.trans f60
 refine ⟨_, rfl, bsel_of (fun c => ⟨?_, hf60⟩) fun c6 => ⟨_, (o5.ext (f56.trans f60)).ld1 12 rfl, (told_ok (hT.ext hf60) (h.ext hf60).z h3).mono ?_⟩⟩
 ·have c : carriedB a.c.atr = false := by simpa using c
  rw [chk, if_neg c1, if_neg c2, if_neg c3, if_neg c4, if_neg c5, if_pos c]
 have c6 : ¬ carriedB a.c.atr = false := by simpa using c6
 rintro _ s64 ⟨rfl, f64⟩
 have hf64 := hf60.trans f64
 refine ⟨_, rfl, bsel_of (fun c => ⟨?_, hf64⟩) fun c7 => ⟨?_, hf64⟩⟩
 ·have c : toldB a.c.ev = false := by simpa using c
  rw [chk, if_neg c1, if_neg c2, if_neg c3, if_neg c4, if_neg c5, if_neg c6, if_pos c]
 ·have c7 : ¬ toldB a.c.ev = false := by simpa using c7
  rw [chk, if_neg c1, if_neg c2, if_neg c3, if_neg c4, if_neg c5, if_neg c6, if_neg c7]
theorem chk_small {c : SpC} (h : chk c = 0) : c.lk.length ≤ 16 ∧ c.atr.length ≤ 32 ∧ c.ev.length ≤ 32 ∧ c.id ≠ 0 ∧ c.t0 ≤ c.t1 ∧ 0 ≤ c.t0 ∧ c.t1 ≤ 4611686018427387904 := by
 unfold chk at h
 repeat' split at h
 all_goals first | (exact absurd h (by decide)) | skip
 rename_i h1 h2 h3 h4 h5 h6 h7
 have h5 : linkedB c = true := by simpa using h5
 have h6 : carriedB c.atr = true := by simpa using h6
 have h7 : toldB c.ev = true := by simpa using h7
 simp only [linkedB, carriedB, toldB, Bool.and_eq_true, decide_eq_true_eq] at h5 h6 h7
 simp only [chk1, chk2, decide_eq_true_eq, not_or] at h1 h2
 exact ⟨by omega, by omega, by omega, h1.2, by omega, by omega, by omega⟩
end
end Go.Eng.S

namespace Go.Eng.S
open Go Go.Eng Go.Proofs
set_option linter.constructorNameAsVariable false
noncomputable section
attribute [local irreducible] bsel
structure NewL {α : Type} (E : Enc α) (s : St) (y : AV) (s' : St) (l : List α) : Prop where
 sl : Sl E s' y l
 gone : Gone s y
 cap : ∀ b o n c, y = .slice b o n (.exact c) → n ≤ c
 fwd : Frw [] s s'
theorem CloneL_ok {s : St} {x : AV} {l : List Int} (h : Sl linkE s x l) (hb : l.length ≤ 1000000) : CallsD P F.slices_Clone_sl_api_SpanID_api_SpanID [x] s fun y s' => NewL linkE s y s' l :=
 CallsD.fr fun hfr => vc.slices_Clone_sl_api_SpanID_api_SpanID_ok (h.clone (e' := 64) (Q := fun y s' => NewL linkE s y s' l) ty.sl_api_SpanID rfl ty.api_SpanID rfl rfl rfl (fun _ _ => rfl) (show (l.length + l.length / 4 + 600) * 8 ≤ pow48 by unfold pow48; omega) (by unfold pow48; omega) hfr fun y s' h1 h2 h3 h4 _ => ⟨h1, h2, h3, h4⟩)
theorem CloneA_ok {s : St} {x : AV} {l : List AttrC} (h : Sl attrE s x l) (hb : l.length ≤ 1000000) : CallsD P F.slices_Clone_sl_api_Attr_api_Attr [x] s fun y s' => NewL attrE s y s' l :=
 CallsD.fr fun hfr => vc.slices_Clone_sl_api_Attr_api_Attr_ok (h.clone (e' := 132) (Q := fun y s' => NewL attrE s y s' l) ty.sl_api_Attr rfl ty.api_Attr rfl rfl rfl (fun _ _ => rfl) (show (l.length + l.length / 4 + 600) * 48 ≤ pow48 by unfold pow48; omega) (by unfold pow48; omega) hfr fun y s' h1 h2 h3 h4 _ => ⟨h1, h2, h3, h4⟩)
theorem CloneE_ok {s : St} {x : AV} {l : List EvC} (h : Sl evE s x l) (hb : l.length ≤ 1000000) : CallsD P F.slices_Clone_sl_api_Event_api_Event [x] s fun y s' => NewL evE s y s' l :=
 CallsD.fr fun hfr => vc.slices_Clone_sl_api_Event_api_Event_ok (h.clone (e' := 135) (Q := fun y s' => NewL evE s y s' l) ty.sl_api_Event rfl ty.api_Event rfl rfl rfl (fun _ _ => rfl) (show (l.length + l.length / 4 + 600) * 24 ≤ pow48 by unfold pow48; omega) (by unfold pow48; omega) hfr fun y s' h1 h2 h3 h4 _ => ⟨h1, h2, h3, h4⟩)
theorem ClipL_ok {s s0 : St} {x : AV} {l : List Int} (h : NewL linkE s0 x s l) : CallsD P F.slices_Clip_sl_api_SpanID_api_SpanID [x] s fun y s' => NewL linkE s0 y s' l ∧ s' = s :=
 vc.slices_Clip_sl_api_SpanID_api_SpanID_ok (h.sl.slen (h.sl.slen (h.sl.clip h.cap fun y h1 h2 h3 => ⟨⟨h1, fun c hc => h.gone c (h2 c hc), h3, h.fwd⟩, rfl⟩)))
theorem ClipA_ok {s s0 : St} {x : AV} {l : List AttrC} (h : NewL attrE s0 x s l) : CallsD P F.slices_Clip_sl_api_Attr_api_Attr [x] s fun y s' => NewL attrE s0 y s' l ∧ s' = s :=
 vc.slices_Clip_sl_api_Attr_api_Attr_ok (h.sl.slen (h.sl.slen (h.sl.clip h.cap fun y h1 h2 h3 => ⟨⟨h1, fun c hc => h.gone c (h2 c hc), h3, h.fwd⟩, rfl⟩)))
theorem ClipE_ok {s s0 : St} {x : AV} {l : List EvC} (h : NewL evE s0 x s l) : CallsD P F.slices_Clip_sl_api_Event_api_Event [x] s fun y s' => NewL evE s0 y s' l ∧ s' = s :=
 vc.slices_Clip_sl_api_Event_api_Event_ok (h.sl.slen (h.sl.slen (h.sl.clip h.cap fun y h1 h2 h3 => ⟨⟨h1, fun c hc => h.gone c (h2 c hc), h3, h.fwd⟩, rfl⟩)))
structure NewS (s : St) (a : SpX) (s' : St) (c : SpC) : Prop where
 c : a.c = c
 at' : a.At s'
 gx : Gone s a.x
 gy : Gone s a.y
 gz : Gone s a.z
 fwd : Frw [] s s'
structure SpC.Small (c : SpC) : Prop where
 lk : c.lk.length ≤ 1000000
 atr : c.atr.length ≤ 1000000
 ev : c.ev.length ≤ 1000000
theorem SClone_ok {a : SpX} {s : St} (h : a.At s) (hs : a.c.Small) : CallsD P F.span_Clone [.agg a.cells] s fun v s' => ∃ a' : SpX, v = .agg a'.cells ∧ NewS s a' s' a.c := by
 refine CallsD.fr fun hfr => vc.span_Clone_ok ?_
 intro m1 s2 n2 m3 s4 n4
 have o1 : Own s4 m1 a.cells := n2.own.ext n4.fwd
 have o3 := n4.own
 have f4 : Frw [] s s4 := n2.fwd.trans n4.fwd
 have g1 : s.h.get m1 = none := n2.gone
 have g3 : s.h.get m3 = none := n2.fwd.none n4.gone (by simp)
 have t1 : s4.h.get m1 ≠ none := o1.there
 have t3 : s4.h.get m3 ≠ none := o3.there
 have ne13 : m1 ≠ m3 := n4.ne n2.own.there
 refine ⟨a.x, o1.ld1 4 rfl, (CloneL_ok (h.x.ext f4) hs.lk).mono ?_⟩
 intro x6 s7 c7
 refine ⟨x6, rfl, (ClipL_ok c7).mono ?_⟩
 rintro x9 s10 ⟨c10, hs10⟩
 subst s10
 refine ⟨x9, rfl, c10.sl.one ?_⟩
 have o1 := o1.ext c10.fwd
 have o3 := o3.ext c10.fwd
 obtain ⟨s12, w12, o1, f12, r12⟩ := o1.wrN 4 [x9] (c10.sl.onesx []) (by simp [SpX.cells])
 have o1 : Own s12 m1 ({ a with x := x9 } : SpX).cells := o1
 have o3 := o3.fwd f12 (by simpa using ne13.symm)
 have t1' : s12.h.get m1 ≠ none := o1.there
 have t3' : s12.h.get m3 ≠ none := o3.there
 have x12 : Sl linkE s12 x9 a.c.lk := c10.sl.wr f12 c10.gone t1
 have F12 : Frw [m1] s4 s12 := (c10.fwd.mono (by simp)).trans f12
 have y4 := h.y.ext f4
 have z4 := h.z.ext f4
 have y12 : Sl attrE s12 a.y a.c.atr := (y4.ext c10.fwd).new h.y g1 f12
 have z12 : Sl evE s12 a.z a.c.ev := (z4.ext c10.fwd).new h.z g1 f12
 refine ⟨s12, w12, a.y, o1.ld1 11 rfl, (CloneA_ok y12 hs.atr).mono ?_⟩
 intro x14 s15 c15
 refine ⟨x14, rfl, (ClipA_ok c15).mono ?_⟩
 rintro x17 s18 ⟨c18, hs18⟩
 subst s18
 refine ⟨x17, rfl, c18.sl.one ?_⟩
 have o1 := o1.ext c18.fwd
 have o3 := o3.ext c18.fwd
 obtain ⟨s20, w20, o1, f20, r20⟩ := o1.wrN 11 [x17] (c18.sl.onesx []) (by simp [SpX.cells])
 have o1 : Own s20 m1 ({ a with x := x9, y := x17 } : SpX).cells := o1
 have o3 := o3.fwd f20 (by simpa using ne13.symm)
 have t1'' : s20.h.get m1 ≠ none := o1.there
 have t3'' : s20.h.get m3 ≠ none := o3.there
 have y20 : Sl attrE s20 x17 a.c.atr := c18.sl.wr f20 c18.gone t1'
 have x20 : Sl linkE s20 x9 a.c.lk := (x12.ext c18.fwd).wr f20 c10.gone t1
 have z20 : Sl evE s20 a.z a.c.ev := (z12.ext c18.fwd).new h.z g1 f20
 have F20 : Frw [m1] s4 s20 := (F12.trans (c18.fwd.mono (by simp))).trans f20
 refine ⟨s20, w20, a.z, o1.ld1 12 rfl, (CloneE_ok z20 hs.ev).mono ?_⟩
 intro x22 s23 c23
 refine ⟨x22, rfl, (ClipE_ok c23).mono ?_⟩
 rintro x25 s26 ⟨c26, hs26⟩
 subst s26
 refine ⟨x25, rfl, c26.sl.one ?_⟩
 have o1 := o1.ext c26.fwd
 have o3 := o3.ext c26.fwd
 obtain ⟨s28, w28, o1, f28, r28⟩ := o1.wrN 12 [x25] (c26.sl.onesx []) (by simp [SpX.cells])
 have o1 : Own s28 m1 ({ a with x := x9, y := x17, z := x25 } : SpX).cells := o1
 have o3 := o3.fwd f28 (by simpa using ne13.symm)
 have z28 : Sl evE s28 x25 a.c.ev := c26.sl.wr f28 c26.gone t1''
 have y28 : Sl attrE s28 x17 a.c.atr := (y20.ext c26.fwd).wr f28 c18.gone t1'
 have x28 : Sl linkE s28 x9 a.c.lk := (x20.ext c26.fwd).wr f28 c10.gone t1
 have F28 : Frw [m1] s4 s28 := (F20.trans (c26.fwd.mono (by simp))).trans f28
 refine ⟨s28, w28, _, _, _, _, _, _, _, _, _, _, _, _, _, o1.all rfl, ?_⟩
 have hA : SpX.At s28 ({ a with x := x9, y := x17, z := x25 } : SpX) := ⟨x28, y28, z28⟩
 obtain ⟨s42, w42, o3, f42, r42⟩ := o3.wrAll ({ a with x := x9, y := x17, z := x25 } : SpX).cells (SpX.ones hA) rfl
 have F42 : Frw [m1, m3] s4 s42 := (F28.mono (by simp)).trans (f42.mono (by simp))
 have gx : Gone s x9 := fun c hc => f4.none (c10.gone c hc) (by simp)
 have gy : Gone s x17 := fun c hc => by
  have h1 := c18.gone c hc
  by_cases e : c = m1
  ·rw [e]; exact g1
  ·exact f4.none (F12.none h1 (by simpa using e)) (by simp)
 have gz : Gone s x25 := fun c hc => by
  have h1 := c26.gone c hc
  by_cases e : c = m1
  ·rw [e]; exact g1
  ·exact f4.none (F20.none h1 (by simpa using e)) (by simp)
 refine ⟨s42, w42, _, _, _, _, _, _, _, _, _, _, _, _, _, o3.all rfl, ({ a with x := x9, y := x17, z := x25 } : SpX), rfl, rfl, ⟨x28.wr f42 c10.gone t3, y28.wr f42 c18.gone t3', z28.wr f42 c26.gone t3''⟩, gx, gy, gz, ?_⟩
 exact f4.step F42 (by simp [g1, g3])
def fitL (h l : Int) : List SpC → Bool
 | [] => true
 | c :: r => if chk c ≠ 0 then false else if c.hi = h ∧ c.lo = l then fitL h l r else false
def hd0 : List SpC → Int × Int
 | [] => (0, 0)
 | c :: _ => (c.hi, c.lo)
def fitB (l : List SpC) : Bool := decide (l.length ≤ 1000) && fitL (hd0 l).1 (hd0 l).2 l
theorem fits_ok {x : AV} {l : List SpX} {s : St} (hT : TabP s) (h : Sl spE s x l) (hA : ∀ a, a ∈ l → a.At s ∧ a.c.lk.length < 9223372036854775808 ∧ a.c.atr.length < 9223372036854775808 ∧ a.c.ev.length < 9223372036854775808) :
  CallsD P F.forest_fits [x] s fun v s' => v = .bool (fitB (l.map SpX.c)) ∧ Frw [] s s' := by
 refine CallsD.fr fun hfr => vc.forest_fits_ok (h.slen (bsel_of (fun c => ⟨?_, .refl _ _⟩) fun c => h.slen ?_))
 ·have c : ¬ l.length ≤ 1000 := by simp at c; omega
  simp [fitB, c]
 have c : l.length ≤ 1000 := by simp at c; omega
 refine ⟨fun n s' m => Frw [] s s' ∧ ∃ i : Nat, n = i ∧ m = l.length - i ∧ i ≤ l.length ∧ fitB (l.map SpX.c) = fitL (hd0 (l.map SpX.c)).1 (hd0 (l.map SpX.c)).2 ((l.map SpX.c).drop i), ⟨_, .refl _ _, 0, rfl, rfl, by omega, by simp [fitB, c]⟩, ?_⟩
 rintro _ s6 _ ⟨hf, i, rfl, rfl, hi, he⟩
 refine bsel_of (fun c1 => ?_) fun c1 => ?_
 ·have c1 : i < l.length := by simpa using c1
  rw [List.drop_eq_getElem_cons (by simpa using c1), fitL] at he
  simp only [List.getElem_map] at he
  refine (h.ext hf).ixs rfl rfl c1 fun b o hr => ?_
  obtain ⟨a1, a2, a3, a4⟩ := hA l[i] (List.getElem_mem _)
  refine ⟨_, _, _, _, _, _, _, _, _, _, _, _, _, hr.all rfl, ?_⟩
  intro m23 s24 h24
  obtain ⟨s25, w25, o25, f25, r25⟩ := h24.put l[i].cells (SpX.ones a1) rfl
  refine ⟨s25, w25, fun s26 h26 => ?_⟩
  have o26 := o25.ext h26.fwd
  have f26 : Frw [] s s26 := hf.trans (f25.trans h26.fwd)
  refine ⟨_, _, _, _, _, _, _, _, _, _, _, _, _, o26.all rfl, (Check_ok (hT.ext f26) (a1.ext f26) a2 a3 a4).mono ?_⟩
  rintro _ s41 ⟨rfl, f41⟩
  have F41 := f26.trans f41
  refine ⟨_, rfl, bsel_of (fun c2 => ⟨?_, F41⟩) fun c2 => ?_⟩
  ·have c2 : chk l[i].c ≠ 0 := by simpa using c2
   rw [if_pos c2] at he
   rw [he]
  ·have c2 : ¬ chk l[i].c ≠ 0 := by simpa using c2
   rw [if_neg c2] at he
   refine ⟨_, _, (o26.ext f41).ldN 0 2 (by simp [SpX.cells]), (h.ext F41).ixs (k := 0) rfl rfl (by omega) fun b2 o2 hr2 => ⟨_, _, hr2.ldN 0 2 (by simp [spE, SpX.cells]), bsel_of (fun c3 => ⟨?_, F41⟩) fun c3 => ?_⟩⟩
   ·have hh : hd0 (l.map SpX.c) = ((l[0]'(by omega)).c.hi, (l[0]'(by omega)).c.lo) := by
     cases l with
     | nil => simp at c1
     | cons a r => rfl
    rw [hh] at he
    rw [if_neg (by intro h; simp [h] at c3)] at he
    rw [he]
   ·have hh : hd0 (l.map SpX.c) = ((l[0]'(by omega)).c.hi, (l[0]'(by omega)).c.lo) := by
     cases l with
     | nil => simp at c1
     | cons a r => rfl
    rw [hh] at he
    rw [if_pos (by simpa using c3)] at he
    refine ⟨l.length - (i + 1), by omega, F41, i + 1, wrap_i64 (by omega) (by omega), rfl, by omega, ?_⟩
    rw [hh]; exact he
 ·have c1 : i = l.length := by simp at c1; omega
  subst c1
  rw [List.drop_eq_nil_of_le (by simp), fitL] at he
  exact ⟨by rw [he], hf⟩
end
end Go.Eng.S

namespace Go.Eng.S
set_option linter.constructorNameAsVariable false
abbrev UF := Int → Option Int
def itU (U : UF) : Nat → Int → Option Int
 | 0, x => some x
 | k + 1, x => (U x).bind (itU U k)
variable {U : UF}
theorem itU_add (a b : Nat) (x : Int) : itU U (a + b) x = (itU U a x).bind (itU U b) := by
 induction a generalizing x with
 | zero => simp [itU]
 | succ a ih =>
  rw [show a + 1 + b = (a + b) + 1 by omega]
  simp only [itU]
  cases U x with
  | none => rfl
  | some y => simp only [Option.bind_some]; exact ih y
def Reach (U : UF) (x y : Int) : Prop := ∃ k, itU U k x = some y
def Ring (U : UF) (x : Int) : Prop := ∃ k, itU U (k + 1) x = some x
theorem Reach.refl (x : Int) : Reach U x x := ⟨0, rfl⟩
theorem Reach.trans {x y z : Int} (h : Reach U x y) (h' : Reach U y z) : Reach U x z := by
 obtain ⟨a, ha⟩ := h
 obtain ⟨b, hb⟩ := h'
 exact ⟨a + b, by rw [itU_add, ha]; exact hb⟩
theorem Reach.step {x y z : Int} (h : U x = some y) (h' : Reach U y z) : Reach U x z := by
 obtain ⟨k, hk⟩ := h'
 exact ⟨k + 1, by simp [itU, h, hk]⟩
theorem Reach.one {x y : Int} (h : U x = some y) : Reach U x y := .step h (.refl _)
theorem itU_mul {x : Int} {k : Nat} (h : itU U k x = some x) : ∀ c, itU U (k * c) x = some x
 | 0 => rfl
 | c + 1 => by rw [show k * (c + 1) = k + k * c by rw [Nat.mul_add]; omega, itU_add, h]; exact itU_mul h c
theorem Ring.back {x y : Int} (h : Ring U x) (h' : Reach U x y) : Reach U y x := by
 obtain ⟨k, hk⟩ := h
 obtain ⟨j, hj⟩ := h'
 have := itU_mul hk (j + 1)
 have hle : j ≤ (k + 1) * (j + 1) := Nat.le_trans (Nat.le_succ j) (Nat.le_mul_of_pos_left _ (Nat.succ_pos k))
 refine ⟨(k + 1) * (j + 1) - j, ?_⟩
 rw [← Nat.add_sub_of_le hle, itU_add, hj] at this
 exact this
theorem Reach.next {x y : Int} (h : Reach U x y) : x = y ∨ ∃ z, U x = some z ∧ Reach U z y := by
 obtain ⟨k, hk⟩ := h
 cases k with
 | zero => left; simpa [itU] using hk
 | succ k =>
  right
  simp only [itU] at hk
  cases hu : U x with
  | none => rw [hu] at hk; simp at hk
  | some z => rw [hu] at hk; exact ⟨z, rfl, k, by simpa using hk⟩
theorem Ring.iff {x : Int} : Ring U x ↔ ∃ y, U x = some y ∧ Reach U y x := by
 constructor
 ·rintro ⟨k, hk⟩
  simp only [itU] at hk
  cases hu : U x with
  | none => rw [hu] at hk; simp at hk
  | some z => rw [hu] at hk; exact ⟨z, rfl, k, by simpa using hk⟩
 ·rintro ⟨y, h1, k, h2⟩
  exact ⟨k, by simp [itU, h1, h2]⟩
theorem Ring.of_reach {x y : Int} (h : Ring U x) (h' : Reach U x y) : Ring U y := by
 obtain ⟨z, hz, hr⟩ := Ring.iff.1 h
 rcases (h.back h').next with e | ⟨w, hw, hr'⟩
 ·subst e; exact h
 ·exact Ring.iff.2 ⟨w, hw, hr'.trans h'⟩
theorem closed_reach {M : Int → Prop} (hM : ∀ x y, M x → U x = some y → M y) {x y : Int} (hx : M x) (h : Reach U x y) : M y := by
 obtain ⟨k, hk⟩ := h
 induction k generalizing x with
 | zero => simp only [itU, Option.some.injEq] at hk; exact hk ▸ hx
 | succ k ih =>
  simp only [itU] at hk
  cases hu : U x with
  | none => rw [hu] at hk; simp at hk
  | some z => rw [hu] at hk; exact ih (hM x z hx hu) (by simpa using hk)
def Way (U : UF) : List Int → Option Int → Prop
 | [], _ => True
 | [x], e => U x = e
 | x :: y :: r, e => U x = some y ∧ Way U (y :: r) e
theorem Way.tail {x : Int} {r : List Int} {e : Option Int} (h : Way U (x :: r) e) : Way U r e := by
 cases r with
 | nil => trivial
 | cons y r => exact h.2
theorem Way.drop {l : List Int} {e : Option Int} : ∀ {k : Nat}, Way U l e → Way U (l.drop k) e
 | 0, h => h
 | k + 1, h => by
  cases l with
  | nil => exact h
  | cons x r => exact Way.drop (k := k) h.tail
theorem Way.append {l : List Int} {p : Int} (h : Way U l (some p)) : Way U (l ++ [p]) (U p) := by
 induction l with
 | nil => rfl
 | cons x r ih =>
  cases r with
  | nil => exact ⟨h, rfl⟩
  | cons y r => exact ⟨h.1, ih h.2⟩
theorem Way.reach {l : List Int} {p : Int} (h : Way U l (some p)) {x : Int} (hx : x ∈ l) : Reach U x p := by
 induction l generalizing x with
 | nil => simp at hx
 | cons y r ih =>
  cases r with
  | nil =>
   have : x = y := by simpa using hx
   subst this; exact .one h
  | cons z r =>
   rcases List.mem_cons.1 hx with rfl | hx
   ·exact .step h.1 (ih h.2 (List.mem_cons_self ..))
   ·exact ih h.2 hx
theorem Way.reach_head {a : Int} {r : List Int} {e : Option Int} (h : Way U (a :: r) e) {x : Int} (hx : x ∈ a :: r) : Reach U a x := by
 induction r generalizing a with
 | nil => have : x = a := by simpa using hx
          subst this; exact .refl _
 | cons b r ih =>
  rcases List.mem_cons.1 hx with rfl | hx
  ·exact .refl _
  ·exact .step h.1 (ih h.2 hx)
theorem Way.none_end {l : List Int} (h : Way U l none) {x : Int} (hx : x ∈ l) : ¬ Ring U x := by
 induction l generalizing x with
 | nil => simp at hx
 | cons y r ih =>
  cases r with
  | nil =>
   have : x = y := by simpa using hx
   subst this
   intro hr
   obtain ⟨z, hz, _⟩ := Ring.iff.1 hr
   have h : U x = none := h
   rw [h] at hz; simp at hz
  | cons z r =>
   rcases List.mem_cons.1 hx with rfl | hx
   ·intro hr
    exact ih h.2 (List.mem_cons_self ..) (hr.of_reach (.one h.1))
   ·exact ih h.2 hx
theorem Way.old_end {l : List Int} {p : Int} {M : Int → Prop} (h : Way U l (some p)) (hM : ∀ x y, M x → U x = some y → M y) (hp : M p) (hl : ∀ x, x ∈ l → ¬ M x) {x : Int} (hx : x ∈ l) : ¬ Ring U x := by
 intro hr
 have h1 := h.reach hx
 exact hl x hx (closed_reach hM hp (hr.back h1))
theorem Way.ring {p : Int} {B : List Int} (h : Way U (p :: B) (some p)) : Ring U p ∧ ∀ y, Reach U p y ↔ y ∈ p :: B := by
 have hM : ∀ x y, x ∈ p :: B → U x = some y → y ∈ p :: B := by
  have key : ∀ (l : List Int), Way U l (some p) → ∀ x y, x ∈ l → U x = some y → y ∈ l ∨ y = p := by
   intro l
   induction l with
   | nil => simp
   | cons a r ih =>
    intro hw x y hx hu
    cases r with
    | nil =>
     have : x = a := by simpa using hx
     subst this
     have hw : U x = some p := hw
     rw [hw] at hu
     right; simpa using hu.symm
    | cons b r =>
     rcases List.mem_cons.1 hx with rfl | hx
     ·rw [hw.1] at hu
      left; right
      have : b = y := by simpa using hu
      rw [this]; exact List.mem_cons_self ..
     ·rcases ih hw.2 x y hx hu with h | h
      ·exact .inl (List.mem_cons_of_mem _ h)
      ·exact .inr h
  intro x y hx hu
  rcases key _ h x y hx hu with h | h
  ·exact h
  ·rw [h]; exact List.mem_cons_self ..
 refine ⟨?_, fun y => ⟨fun hr => closed_reach (M := fun x => x ∈ p :: B) hM (List.mem_cons_self ..) hr, fun hy => h.reach_head hy⟩⟩
 cases B with
 | nil => exact Ring.iff.2 ⟨p, h, .refl _⟩
 | cons b r => exact Ring.iff.2 ⟨b, h.1, h.2.reach (List.mem_cons_self ..)⟩
theorem Way.ahead {A B : List Int} {p : Int} (h : Way U (A ++ p :: B) (some p)) (hn : (A ++ p :: B).Nodup) {x : Int} (hx : x ∈ A) : ¬ Ring U x := by
 intro hr
 have h1 : Reach U x p := h.reach (List.mem_append_left _ hx)
 have h2 := hr.back h1
 have hB : Way U (p :: B) (some p) := by
  have := h.drop (k := A.length)
  simpa using this
 have h3 := (hB.ring.2 x).1 h2
 rw [List.nodup_append] at hn
 exact hn.2.2 x hx x h3 rfl
def Least (U : UF) (x : Int) : Prop := Ring U x ∧ ∀ y, Reach U x y → x ≤ y
theorem Least.of_ring {p : Int} {B : List Int} (h : Way U (p :: B) (some p)) {m : Int} (hm : m ∈ p :: B) (hl : ∀ y, y ∈ p :: B → m ≤ y) {x : Int} (hx : x ∈ p :: B) : Least U x ↔ x = m := by
 obtain ⟨h1, h2⟩ := h.ring
 have hxr := (h2 x).2 hx
 have hb := h1.back hxr
 constructor
 ·rintro ⟨_, h4⟩
  have a := h4 m (hb.trans ((h2 m).2 hm))
  have b := hl x hx
  omega
 ·rintro rfl
  exact ⟨h1.of_reach hxr, fun y hy => hl y ((h2 y).1 (hxr.trans hy))⟩
theorem Ring.least {N : List Int} (hN : ∀ x y, U x = some y → y ∈ N) {x : Int} (h : Ring U x) : ∃ m, Reach U x m ∧ Least U m := by
 classical
 have hx : x ∈ N := by
  obtain ⟨k, hk⟩ := h
  rw [itU_add] at hk
  cases hq : itU U k x with
  | none => rw [hq] at hk; simp at hk
  | some q =>
   rw [hq] at hk
   simp only [Option.bind_some, itU] at hk
   cases hu : U q with
   | none => rw [hu] at hk; simp at hk
   | some y =>
    rw [hu] at hk
    have : y = x := by simpa [itU] using hk
    exact hN q x (by rw [hu, this])
 have key : ∀ (l : List Int), (∃ y, y ∈ l ∧ Reach U x y) → ∃ m, m ∈ l ∧ Reach U x m ∧ ∀ y, y ∈ l → Reach U x y → m ≤ y := by
  intro l
  induction l with
  | nil => rintro ⟨y, hy, _⟩; simp at hy
  | cons a r ih =>
   rintro ⟨y, hy, hry⟩
   by_cases hr : ∃ y, y ∈ r ∧ Reach U x y
   ·obtain ⟨m, h1, h2, h3⟩ := ih hr
    by_cases ha : Reach U x a ∧ a ≤ m
    ·refine ⟨a, List.mem_cons_self .., ha.1, fun z hz hrz => ?_⟩
     rcases List.mem_cons.1 hz with rfl | hz
     ·exact Int.le_refl _
     ·exact Int.le_trans ha.2 (h3 z hz hrz)
    ·refine ⟨m, List.mem_cons_of_mem _ h1, h2, fun z hz hrz => ?_⟩
     rcases List.mem_cons.1 hz with rfl | hz
     ·have : ¬ z ≤ m := fun h => ha ⟨hrz, h⟩
      omega
     ·exact h3 z hz hrz
   ·rcases List.mem_cons.1 hy with rfl | hy
    ·refine ⟨y, List.mem_cons_self .., hry, fun z hz hrz => ?_⟩
     rcases List.mem_cons.1 hz with rfl | hz
     ·exact Int.le_refl _
     ·exact absurd ⟨z, hz, hrz⟩ hr
    ·exact absurd ⟨y, hy, hry⟩ hr
 obtain ⟨m, h1, h2, h3⟩ := key N ⟨x, hx, .refl _⟩
 refine ⟨m, h2, h.of_reach h2, fun y hy => h3 y ?_ (h2.trans hy)⟩
 have : ∀ k (a b : Int), a ∈ N → itU U k a = some b → b ∈ N := by
  intro k
  induction k with
  | zero => intro a b ha hab; simp only [itU, Option.some.injEq] at hab; exact hab ▸ ha
  | succ k ih =>
   intro a b ha hab
   simp only [itU] at hab
   cases hu : U a with
   | none => rw [hu] at hab; simp at hab
   | some z => rw [hu] at hab; exact ih z b (hN a z hu) (by simpa using hab)
 obtain ⟨k, hk⟩ := hy
 exact this k m y h1 hk
end Go.Eng.S

namespace Go.Eng.S
open Go Go.Eng Go.Proofs
set_option linter.constructorNameAsVariable false
noncomputable section
attribute [local irreducible] bsel
theorem idu_eq (h : PT AObj) (a b : Int) : aeq D h depth T.api_SpanID (.int .u64 a) (.int .u64 b) = some (a == b) := by kernel_rfl
theorem idu_ok (a : Int) : keyOk D T.api_SpanID (.int .u64 a) = true := by kernel_rfl
def KU : KeyE D T.api_SpanID Int where
 f := fun n => .int .u64 n
 ok := idu_ok
 eq := fun h a b => by
  refine (idu_eq h a b).trans ?_
  by_cases e : a = b <;> simp [e]
 same := fun a => by simp [geq, geq1]
structure Nd where
 id : Int
 par : Int
 org : Int
 tree : Int
 depth : Int
 fr : Int
 till : Int
def Nd.cells (n : Nd) : List AV := [.int .u64 n.id, .int .u64 n.par, .int .i64 n.org, .int .u64 n.tree, .int .i64 n.depth, .int .i64 n.fr, .int .i64 n.till]
structure Pl where
 x : SpX
 n : Nd
 k : AV
 ks : List Int
def Pl.cells (p : Pl) : List AV := p.x.cells ++ p.n.cells ++ [p.k]
abbrev ptE (B : Int → Nat) : Enc Int := oneE fun i => AV.ptr (B i) 0
abbrev Tg := Nat × Int
structure PlOk (s : St) (B : Int → Nat) (o : Nat → Tg) (i : Int) (p : Pl) : Prop where
 own : Own s (B i) p.cells
 at' : p.x.At s
 kids : So (ptE B) s p.k p.ks
 tb : o (B i) = (4, i)
 tk : ∀ c, c ∈ blkOf p.k → o c = (5, i)
 tx : ∀ c, c ∈ blkOf p.x.x → (o c).1 = 6
 ty : ∀ c, c ∈ blkOf p.x.y → (o c).1 = 6
 tz : ∀ c, c ∈ blkOf p.x.z → (o c).1 = 6
theorem Sl.fwdM {α : Type} {E : Enc α} {s s' : St} {x : AV} {l : List α} {M : List Nat} (h : Sl E s x l) (hf : Frw M s s') (hM : ∀ m, m ∈ M → m ∉ blkOf x) : Sl E s' x l :=
 SlR.fwd h hf fun m hm => .inr fun b o n cap hx e => by
  subst hx; subst e
  exact hM _ hm (by simp [blkOf])
theorem PlOk.fwd {s s' : St} {B : Int → Nat} {o : Nat → Tg} {i : Int} {p : Pl} {M : List Nat} (h : PlOk s B o i p) (hf : Frw M s s') (hM : ∀ m, m ∈ M → o m ≠ (4, i) ∧ o m ≠ (5, i) ∧ (o m).1 ≠ 6) : PlOk s' B o i p :=
 ⟨h.own.fwd hf fun hc => (hM _ hc).1 h.tb,
 ⟨Sl.fwdM h.at'.x hf fun m hm hc => (hM m hm).2.2 (h.tx m hc), Sl.fwdM h.at'.y hf fun m hm hc => (hM m hm).2.2 (h.ty m hc), Sl.fwdM h.at'.z hf fun m hm hc => (hM m hm).2.2 (h.tz m hc)⟩,
 h.kids.beside hf fun m hm hc => (hM m hm).2.1 (h.tk m hc), h.tb, h.tk, h.tx, h.ty, h.tz⟩
structure FoD where
 mb : Nat
 ids : AV
 il : List Int
 rts : AV
 rl : List Int
 N : List Int
 pl : Int → Pl
structure Fo (s0 s : St) (f : Nat) (B : Int → Nat) (o : Nat → Tg) (S : FoD) : Prop where
 nd : S.N.Nodup
 own : Own s f [.map S.mb, S.ids, S.rts]
 map : MapS KU.f s S.mb (S.N.map fun i => (i, .ptr (B i) 0))
 ids : So linkE s S.ids S.il
 rts : So (ptE B) s S.rts S.rl
 tf : o f = (0, 0)
 tm : o S.mb = (1, 0)
 ti : ∀ c, c ∈ blkOf S.ids → o c = (2, 0)
 tr : ∀ c, c ∈ blkOf S.rts → o c = (3, 0)
 pl : ∀ i, i ∈ S.N → PlOk s B o i (S.pl i)
 new : ∀ c, (o c).1 < 7 → s0.h.get c = none
 fwd : Frw [] s0 s
 fr : Fr s
theorem notin_tag {o : Nat → Tg} {M : List Nat} {P : Tg → Prop} {c : Nat} (h : ∀ m, m ∈ M → P (o m)) (hc : ¬ P (o c)) : c ∉ M := fun hm => hc (h c hm)
theorem Fo.beside {s0 s s' : St} {f : Nat} {B : Int → Nat} {o : Nat → Tg} {S : FoD} {M : List Nat} (h : Fo s0 s f B o S) (hf : Frw M s s') (hfr : Fr s') (hM : ∀ m, m ∈ M → 7 ≤ (o m).1) (hM0 : ∀ m, m ∈ M → s0.h.get m = none) : Fo s0 s' f B o S where
 nd := h.nd
 own := h.own.fwd hf (notin_tag (P := fun t => 7 ≤ t.1) hM (by rw [h.tf]; simp))
 map := h.map.fwd hf (notin_tag (P := fun t => 7 ≤ t.1) hM (by rw [h.tm]; simp))
 ids := h.ids.beside hf fun m hm hc => by have := hM m hm; rw [h.ti m hc] at this; simp at this
 rts := h.rts.beside hf fun m hm hc => by have := hM m hm; rw [h.tr m hc] at this; simp at this
 tf := h.tf
 tm := h.tm
 ti := h.ti
 tr := h.tr
 pl := fun i hi => (h.pl i hi).fwd hf fun m hm => by
  have := hM m hm
  refine ⟨fun e => ?_, fun e => ?_, fun e => ?_⟩
  ·rw [e] at this; simp at this
  ·rw [e] at this; simp at this
  ·omega
 new := h.new
 fwd := h.fwd.step hf hM0
 fr := hfr
theorem Fo.ext {s0 s s' : St} {f : Nat} {B : Int → Nat} {o : Nat → Tg} {S : FoD} (h : Fo s0 s f B o S) (hf : Frw [] s s') (hfr : Fr s') : Fo s0 s' f B o S := h.beside hf hfr (by simp) (by simp)
def updF {α β : Type} [DecidableEq α] (f : α → β) (a : α) (b : β) : α → β := fun x => if x = a then b else f x
theorem updF_same {α β : Type} [DecidableEq α] (f : α → β) (a : α) (b : β) : updF f a b a = b := if_pos rfl
theorem updF_ne {α β : Type} [DecidableEq α] (f : α → β) {a x : α} (b : β) (h : x ≠ a) : updF f a b x = f x := if_neg h
theorem So.there' {α : Type} {E : Enc α} {s : St} {x : AV} {l : List α} (h : So E s x l) : ∀ c, c ∈ blkOf x → s.h.get c ≠ none := by
 intro c hc
 rcases h with ⟨rfl, _⟩ | ⟨b, k, n, p, rfl, _, h1, _⟩
 ·simp [blkOf] at hc
 ·have : c = b := by simpa [blkOf] using hc
  rw [this, h1]; simp
theorem Sl.there' {α : Type} {E : Enc α} {s : St} {x : AV} {l : List α} (h : Sl E s x l) : ∀ c, c ∈ blkOf x → s.h.get c ≠ none := by
 intro c hc
 rcases h with ⟨hz, _⟩ | ⟨b, k, n, p, rfl, _, h1⟩
 ·cases x <;> simp [slZero, blkOf] at *
 ·have : c = b := by simpa [blkOf] using hc
  rw [this]; exact h1.there
theorem PlOk.tag {s : St} {B : Int → Nat} {o : Nat → Tg} {i : Int} {p : Pl} (h : PlOk s B o i p) {c : Nat} (hc : s.h.get c = none) (t : Tg) : PlOk s B (updF o c t) i p := by
 have ne : ∀ {d : Nat}, s.h.get d ≠ none → d ≠ c := fun hd e => hd (e ▸ hc)
 exact ⟨h.own, h.at', h.kids, by rw [updF_ne _ _ (ne h.own.there)]; exact h.tb, fun d hd => by rw [updF_ne _ _ (ne (So.there' h.kids d hd))]; exact h.tk d hd,
  fun d hd => by rw [updF_ne _ _ (ne (Sl.there' h.at'.x d hd))]; exact h.tx d hd, fun d hd => by rw [updF_ne _ _ (ne (Sl.there' h.at'.y d hd))]; exact h.ty d hd, fun d hd => by rw [updF_ne _ _ (ne (Sl.there' h.at'.z d hd))]; exact h.tz d hd⟩
theorem Fo.tag {s0 s : St} {f : Nat} {B : Int → Nat} {o : Nat → Tg} {S : FoD} (h : Fo s0 s f B o S) {c : Nat} (hc : s.h.get c = none) (t : Tg) : Fo s0 s f B (updF o c t) S := by
 have ne : ∀ {d : Nat}, s.h.get d ≠ none → d ≠ c := fun hd e => hd (e ▸ hc)
 exact ⟨h.nd, h.own, h.map, h.ids, h.rts, by rw [updF_ne _ _ (ne h.own.there)]; exact h.tf, (updF_ne _ _ (ne (MapS.there h.map))).trans h.tm,
  fun d hd => by rw [updF_ne _ _ (ne (So.there' h.ids d hd))]; exact h.ti d hd, fun d hd => by rw [updF_ne _ _ (ne (So.there' h.rts d hd))]; exact h.tr d hd,
  fun i hi => (h.pl i hi).tag hc t, fun d hd => by
   by_cases e : d = c
   ·subst e; exact h.fwd.none hc (by simp)
   ·rw [updF_ne _ _ e] at hd; exact h.new d hd, h.fwd, h.fr⟩
theorem Fo.put {s0 s s' : St} {f : Nat} {B : Int → Nat} {o : Nat → Tg} {S : FoD} (h : Fo s0 s f B o S) {j : Int} (hj : j ∈ S.N) {p : Pl} (hf : Frw [B j] s s') (hfr : Fr s') (hown : Own s' (B j) p.cells) (hx : p.x = (S.pl j).x) (hk : p.k = (S.pl j).k) (hks : p.ks = (S.pl j).ks) :
  Fo s0 s' f B o { S with pl := updF S.pl j p } := by
 have hb := (h.pl j hj).tb
 have hM : ∀ m, m ∈ [B j] → o m = (4, j) := fun m hm => by
  have : m = B j := by simpa using hm
  rw [this]; exact hb
 refine ⟨h.nd, h.own.fwd hf (notin_tag (P := fun t => t = (4, j)) hM (by rw [h.tf]; simp)), h.map.fwd hf (notin_tag (P := fun t => t = (4, j)) hM (by rw [h.tm]; simp)),
  h.ids.beside hf fun m hm hc => by have := hM m hm; rw [h.ti m hc] at this; simp at this,
  h.rts.beside hf fun m hm hc => by have := hM m hm; rw [h.tr m hc] at this; simp at this, h.tf, h.tm, h.ti, h.tr, fun i hi => ?_, h.new, h.fwd.step hf (by
   intro c hc
   have := hM c hc
   exact h.new c (by rw [this]; exact (by decide : (4 : Nat) < 7))), hfr⟩
 by_cases e : i = j
 ·subst e
  have hp := h.pl i hi
  simp only [updF_same]
  refine ⟨hown, ?_, ?_, hb, by rw [hk]; exact hp.tk, by rw [hx]; exact hp.tx, by rw [hx]; exact hp.ty, by rw [hx]; exact hp.tz⟩
  ·rw [hx]
   exact ⟨Sl.fwdM hp.at'.x hf fun m hm hc => by have := hp.tx m hc; rw [hM m hm] at this; simp at this, Sl.fwdM hp.at'.y hf fun m hm hc => by have := hp.ty m hc; rw [hM m hm] at this; simp at this, Sl.fwdM hp.at'.z hf fun m hm hc => by have := hp.tz m hc; rw [hM m hm] at this; simp at this⟩
  ·rw [hk, hks]
   exact hp.kids.beside hf fun m hm hc => by have := hp.tk m hc; rw [hM m hm] at this; simp at this
 ·simp only [updF_ne _ _ e]
  refine (h.pl i hi).fwd hf fun m hm => ?_
  rw [hM m hm]
  refine ⟨fun h => e ?_, by simp, by simp⟩
  have := congrArg Prod.snd h
  exact this.symm
theorem mget_ids (N : List Int) (B : Int → Nat) (i : Int) : mget (N.map fun i => (i, AV.ptr (B i) 0)) i = if i ∈ N then some (.ptr (B i) 0) else none := by
 induction N with
 | nil => simp [mget]
 | cons a r ih =>
  simp only [List.map_cons, mget, List.mem_cons]
  by_cases e : i = a
  ·subst e; simp
  ·simp only [e, if_false, ih, false_or]
def atV (S : FoD) (B : Int → Nat) (i : Int) : AV := if i ∈ S.N then .ptr (B i) 0 else .nilptr
theorem Fo.look {s0 s : St} {f : Nat} {B : Int → Nat} {o : Nat → Tg} {S : FoD} (h : Fo s0 s f B o S) (i : Int) : lookupA D s T.map_api_SpanID_p_forest_place (.map S.mb) (.int .u64 i) false = some (atV S B i) := by
 have := (h.map.lookup KU (t := T.map_api_SpanID_p_forest_place) ty.map_api_SpanID_p_forest_place rfl ty.p_forest_place rfl i).1
 rw [mget_ids] at this
 refine this.trans ?_
 unfold atV
 split <;> rfl
end
end Go.Eng.S

namespace Go.Eng.S
set_option linter.constructorNameAsVariable false
noncomputable section
open Classical
variable {U : UF}
theorem Way.next : ∀ {l : List Int} {e : Option Int}, Way U l e → ∀ {x y : Int}, x ∈ l → U x = some y → y ∈ l ∨ e = some y
 | [], _, _, _, _, hx, _ => by simp at hx
 | [a], e, h, x, y, hx, hu => by
  have : x = a := by simpa using hx
  subst this
  have h : U x = e := h
  right; rw [← h]; exact hu
 | a :: b :: r, e, h, x, y, hx, hu => by
  rcases List.mem_cons.1 hx with rfl | hx
  ·rw [h.1] at hu
   have : b = y := by simpa using hu
   left; rw [this]; simp
  ·rcases Way.next h.2 hx hu with h' | h'
   ·exact .inl (List.mem_cons_of_mem _ h')
   ·exact .inr h'
structure WayI (U : UF) (N il : List Int) (w : Nat) (mt g : Int → Int) : Prop where
 closed : ∀ x y, mt x ≠ 0 → U x = some y → mt y ≠ 0
 rng : ∀ x, 0 ≤ mt x ∧ mt x ≤ w
 inN : ∀ x, mt x ≠ 0 → x ∈ N
 done : ∀ k (hk : k < il.length), k < w → mt il[k] ≠ 0
 mark : ∀ x, g x = if Least U x ∧ mt x ≠ 0 then 3 else 0
structure WalkI (U : UF) (N : List Int) (w : Nat) (st : Int) (mt : Int → Int) (pa : List Int) (cur : Option Int) : Prop where
 nd : pa.Nodup
 new : ∀ x, x ∈ pa → mt x = 0 ∧ x ∈ N
 way : Way U pa cur
 nil : pa = [] → cur = some st
 head : pa ≠ [] → st ∈ pa
 cur : ∀ c, cur = some c → c ∈ N
def metW (w : Nat) (mt : Int → Int) (pa : List Int) : Int → Int := fun x => if x ∈ pa then (w : Int) + 1 else mt x
theorem WalkI.step {N : List Int} {w : Nat} {st c : Int} {mt : Int → Int} {pa : List Int} (h : WalkI U N w st mt pa (some c)) (hc : metW w mt pa c = 0) (hU : ∀ x y, U x = some y → y ∈ N) : WalkI U N w st mt (pa ++ [c]) (U c) ∧ ∀ x, metW w mt (pa ++ [c]) x = if x = c then (w : Int) + 1 else metW w mt pa x := by
 unfold metW at hc
 have hcp : c ∉ pa := by
  intro hm
  rw [if_pos hm] at hc; omega
 rw [if_neg hcp] at hc
 refine ⟨⟨?_, fun x hx => ?_, h.way.append, by simp, fun _ => ?_, fun y hy => hU c y hy⟩, fun x => ?_⟩
 ·rw [List.nodup_append]
  refine ⟨h.nd, by simp, fun a ha b hb => ?_⟩
  have : b = c := by simpa using hb
  rintro rfl; exact hcp (this ▸ ha)
 ·rcases List.mem_append.1 hx with hx | hx
  ·exact h.new x hx
  ·have : x = c := by simpa using hx
   rw [this]; exact ⟨hc, h.cur c rfl⟩
 ·by_cases e : pa = []
  ·have := h.nil e
   simp only [Option.some.injEq] at this
   simp [this]
  ·exact List.mem_append_left _ (h.head e)
 ·unfold metW
  simp only [List.mem_append, List.mem_singleton]
  by_cases e : x = c
  ·simp [e]
  ·simp [e]
theorem WalkI.metne {N : List Int} {w : Nat} {st : Int} {mt : Int → Int} {pa : List Int} {x : Int} : metW w mt pa x ≠ 0 ↔ x ∈ pa ∨ mt x ≠ 0 := by
 unfold metW
 split
 ·rename_i h; simp only [h, true_or, iff_true]; omega
 ·rename_i h; simp [h]
theorem WayI.walk {N il : List Int} {w : Nat} {st : Int} {mt g g' : Int → Int} {pa : List Int} {cur : Option Int} (h : WayI U N il w mt g) (hk : WalkI U N w st mt pa cur) (hst : ∀ (hw : w < il.length), il[w] = st)
  (hc : ∀ c, cur = some c → metW w mt pa c ≠ 0) (hg : ∀ x, g' x = if Least U x ∧ metW w mt pa x ≠ 0 then 3 else 0) : WayI U N il (w + 1) (metW w mt pa) g' := by
 refine ⟨fun x y hx hu => ?_, fun x => ?_, fun x hx => ?_, fun k hk' hkw => ?_, hg⟩
 ·rw [WalkI.metne (N := N) (st := st)] at hx ⊢
  rcases hx with hx | hx
  ·rcases hk.way.next hx hu with h1 | h1
   ·exact .inl h1
   ·exact (WalkI.metne (N := N) (st := st)).1 (hc y h1)
  ·exact .inr (h.closed x y hx hu)
 ·have := h.rng x
  unfold metW
  split <;> omega
 ·rcases (WalkI.metne (N := N) (st := st)).1 hx with hx | hx
  ·exact (hk.new x hx).2
  ·exact h.inN x hx
 ·rw [WalkI.metne (N := N) (st := st)]
  rcases Nat.lt_or_ge k w with h1 | h1
  ·exact .inr (h.done k hk' h1)
  ·obtain rfl : k = w := by omega
   rw [hst hk']
   by_cases e : pa = []
   ·have := hc st (hk.nil e)
    exact (WalkI.metne (N := N) (st := st)).1 this
   ·exact .inl (hk.head e)
theorem WayI.none {N il : List Int} {w : Nat} {st : Int} {mt g : Int → Int} {pa : List Int} {cur : Option Int} (h : WayI U N il w mt g) (hk : WalkI U N w st mt pa cur) (hst : ∀ (hw : w < il.length), il[w] = st)
  (hc : ∀ c, cur = some c → metW w mt pa c ≠ 0 ∧ metW w mt pa c ≠ (w : Int) + 1) : WayI U N il (w + 1) (metW w mt pa) g := by
 refine h.walk hk hst (fun c e => (hc c e).1) fun x => ?_
 rw [h.mark x]
 have : ∀ y, y ∈ pa → ¬ Ring U y := by
  intro y hy
  cases hcur : cur with
  | none => rw [hcur] at hk; exact hk.way.none_end hy
  | some c =>
   obtain ⟨c1, c2⟩ := hc c hcur
   rw [hcur] at hk
   have hcp : c ∉ pa := fun hm => c2 (by unfold metW; rw [if_pos hm])
   have hcm : mt c ≠ 0 := by
    rcases (WalkI.metne (N := N) (st := st)).1 c1 with h' | h'
    ·exact absurd h' hcp
    ·exact h'
   exact hk.way.old_end (M := fun x => mt x ≠ 0) h.closed hcm (fun z hz => by have := (hk.new z hz).1; simp [this]) hy
 congr 1
 refine propext ⟨fun ⟨a, b⟩ => ⟨a, (WalkI.metne (N := N) (st := st)).2 (.inr b)⟩, fun ⟨a, b⟩ => ⟨a, ?_⟩⟩
 rcases (WalkI.metne (N := N) (st := st)).1 b with b | b
 ·exact absurd a.1 (this x b)
 ·exact b
theorem WayI.ring {N il : List Int} {w : Nat} {st c m : Int} {mt g : Int → Int} {A R : List Int} (h : WayI U N il w mt g) (hk : WalkI U N w st mt (A ++ c :: R) (some c)) (hst : ∀ (hw : w < il.length), il[w] = st)
  (hm : m ∈ c :: R) (hl : ∀ y, y ∈ c :: R → m ≤ y) : WayI U N il (w + 1) (metW w mt (A ++ c :: R)) (fun x => if x = m then 3 else g x) := by
 have hway : Way U (c :: R) (some c) := by
  have := hk.way.drop (k := A.length)
  simpa using this
 have hnd := hk.nd
 refine h.walk hk hst (fun c' e => ?_) fun x => ?_
 ·cases e
  rw [WalkI.metne (N := N) (st := st)]
  left; simp
 rw [h.mark x]
 by_cases e : x = m
 ·subst e
  rw [if_pos rfl, if_pos]
  exact ⟨(Least.of_ring hway hm hl hm).2 rfl, (WalkI.metne (N := N) (st := st)).2 (.inl (List.mem_append_right _ hm))⟩
 ·rw [if_neg e]
  congr 1
  refine propext ⟨fun ⟨a, b⟩ => ⟨a, (WalkI.metne (N := N) (st := st)).2 (.inr b)⟩, fun ⟨a, b⟩ => ⟨a, ?_⟩⟩
  rcases (WalkI.metne (N := N) (st := st)).1 b with b | b
  ·rcases List.mem_append.1 b with b | b
   ·exact absurd a.1 (hk.way.ahead hnd b)
   ·exact absurd ((Least.of_ring hway hm hl b).1 a) e
  ·exact b
theorem Way.ring_at {c : Int} {R : List Int} (h : Way U (c :: R) (some c)) : ∀ (j : Nat) (hj : j < (c :: R).length), U (c :: R)[j] = some ((c :: R).getD (j + 1) c) := by
 have key : ∀ (l : List Int) (e : Int), Way U l (some e) → ∀ (j : Nat) (hj : j < l.length), U l[j] = some (l.getD (j + 1) e) := by
  intro l
  induction l with
  | nil => intro e _ j hj; simp at hj
  | cons a r ih =>
   intro e hw j hj
   cases r with
   | nil =>
    have : j = 0 := by simp at hj; omega
    subst this
    have hw : U a = some e := hw
    simpa using hw
   | cons b r =>
    cases j with
    | zero => simpa using hw.1
    | succ j => simpa using ih e hw.2 j (by simpa using hj)
 exact key _ c h
end
end Go.Eng.S

namespace Go.Eng.S
open Go Go.Eng Go.Proofs
set_option linter.constructorNameAsVariable false
noncomputable section
attribute [local irreducible] bsel
open Classical
def upC (C : Int → SpC) (N : List Int) : UF := fun i => if (C i).par ∈ N then some (C i).par else none
theorem upC_in {C : Int → SpC} {N : List Int} (x y : Int) (h : upC C N x = some y) : y ∈ N := by
 unfold upC at h
 split at h
 ·rename_i hm; simp only [Option.some.injEq] at h; exact h ▸ hm
 ·simp at h
def ptO (B : Int → Nat) : Option Int → AV
 | none => .nilptr
 | some c => .ptr (B c) 0
def FoD.C (S : FoD) (i : Int) : SpC := (S.pl i).x.c
abbrev FoD.up (S : FoD) : UF := upC S.C S.N
theorem atV_up (S : FoD) (B : Int → Nat) (i : Int) : atV S B (S.C i).par = ptO B (S.up i) := by
 unfold atV FoD.up upC
 split <;> rfl
def Pl.withOrg (p : Pl) (v : Int) : Pl := { p with n := { p.n with org := v } }
def FoD.org (S : FoD) (g : Int → Int) : FoD := { S with pl := fun i => (S.pl i).withOrg (g i) }
theorem Fo.congr {s0 s : St} {f : Nat} {B : Int → Nat} {o : Nat → Tg} {S : FoD} (h : Fo s0 s f B o S) {pl' : Int → Pl} (he : ∀ i, i ∈ S.N → pl' i = S.pl i) : Fo s0 s f B o { S with pl := pl' } :=
 ⟨h.nd, h.own, h.map, h.ids, h.rts, h.tf, h.tm, h.ti, h.tr, fun i hi => by rw [show ({ S with pl := pl' } : FoD).pl i = S.pl i from he i hi]; exact h.pl i hi, h.new, h.fwd, h.fr⟩
theorem Own.fr {s s' : St} {b : Nat} {cs : List AV} (h : Own s b cs) (hfr : Fr s) (hn : s'.nx = s.nx) (hc : ∀ c, c ≠ b → s'.h.get c = s.h.get c) : Fr s' := hfr.wr h.there hn hc
theorem Fo.setOrg {s0 s : St} {f : Nat} {B : Int → Nat} {o : Nat → Tg} {S : FoD} {g : Int → Int} (h : Fo s0 s f B o (S.org g)) {j : Int} (hj : j ∈ S.N) (v : Int) :
  ∃ s', wrN s (.ptr (B j) 15) [.int .i64 v] = some s' ∧ Fo s0 s' f B o (S.org fun i => if i = j then v else g i) ∧ Frw [B j] s s' := by
 have hp := h.pl j hj
 obtain ⟨s', w1, o1, f1, n1, _, c1⟩ := hp.own.wrN 15 [.int .i64 v] rfl (by simp [Pl.cells, SpX.cells, Nd.cells])
 refine ⟨s', w1, ?_, f1⟩
 have h2 := h.put (p := (S.pl j).withOrg v) hj f1 (Own.fr hp.own h.fr n1 c1) (by exact o1) rfl rfl rfl
 refine (h2.congr (pl' := fun i => (S.pl i).withOrg (if i = j then v else g i)) fun i hi => ?_)
 show (S.pl i).withOrg (if i = j then v else g i) = updF (fun i => (S.pl i).withOrg (g i)) j ((S.pl j).withOrg v) i
 by_cases e : i = j
 ·subst e; rw [updF_same, if_pos rfl]
 ·rw [updF_ne _ _ e, if_neg e]
structure RootS (s0 s : St) (f : Nat) (B : Int → Nat) (o : Nat → Tg) (S : FoD) (m1 : Nat) (g mt : Int → Int) : Prop where
 fo : Fo s0 s f B o (S.org g)
 met : ∃ mm, MapS KU.f s m1 mm ∧ ∀ x, mget mm x = if mt x = 0 then none else some (.int .i64 (mt x))
 tm : o m1 = (8, 0)
 n0 : s0.h.get m1 = none
theorem RootS.ext {s0 s s' : St} {f : Nat} {B : Int → Nat} {o : Nat → Tg} {S : FoD} {m1 : Nat} {g mt : Int → Int} (h : RootS s0 s f B o S m1 g mt) (hf : Frw [] s s') (hfr : Fr s') : RootS s0 s' f B o S m1 g mt := by
 obtain ⟨mm, h1, h2⟩ := h.met
 exact ⟨h.fo.ext hf hfr, ⟨mm, h1.ext hf, h2⟩, h.tm, h.n0⟩
theorem RootS.bump {s0 s s' : St} {f : Nat} {B : Int → Nat} {o : Nat → Tg} {S : FoD} {m1 n : Nat} {g mt : Int → Int} (h : RootS s0 s f B o S m1 g mt) (hb : Bump s n s') : RootS s0 s' f B o S m1 g mt := h.ext hb.fwd hb.fr
theorem RootS.look {s0 s : St} {f : Nat} {B : Int → Nat} {o : Nat → Tg} {S : FoD} {m1 : Nat} {g mt : Int → Int} (h : RootS s0 s f B o S m1 g mt) (x : Int) : lookupA D s T.map_api_SpanID_int (.map m1) (.int .u64 x) false = some (.int .i64 (mt x)) := by
 obtain ⟨mm, h1, h2⟩ := h.met
 refine ((h1.lookup KU (t := T.map_api_SpanID_int) ty.map_api_SpanID_int rfl (ei := { d := .int .i64, size := 1, bytes := 8, zero := some (.int .i64 0), held := false }) (by kernel_rfl) rfl x).1).trans ?_
 rw [h2]
 split
 ·rename_i e; rw [e]; rfl
 ·rfl
theorem RootS.set {s0 s : St} {f : Nat} {B : Int → Nat} {o : Nat → Tg} {S : FoD} {m1 : Nat} {g mt : Int → Int} (h : RootS s0 s f B o S m1 g mt) (x v : Int) (hv : v ≠ 0) {mt' : Int → Int} (hmt : ∀ y, mt' y = if y = x then v else mt y) :
  ∃ s', mapUpdA D s T.map_api_SpanID_int (.map m1) (.int .u64 x) (.int .i64 v) = some s' ∧ RootS s0 s' f B o S m1 g mt' := by
 obtain ⟨mm, h1, h2⟩ := h.met
 obtain ⟨s', g1, g2, g3⟩ := h1.set KU (t := T.map_api_SpanID_int) ty.map_api_SpanID_int rfl x (.int .i64 v)
 have hM : ∀ m, m ∈ [m1] → m = m1 := fun m hm => by simpa using hm
 refine ⟨s', g1, ⟨h.fo.beside g3.1 (g3.fr h.fo.fr h1.there) (fun m hm => by rw [hM m hm, h.tm]; decide) (fun m hm => by rw [hM m hm]; exact h.n0), ⟨_, g2, fun y => ?_⟩, h.tm, h.n0⟩⟩
 rw [mget_mset, h2, hmt]
 by_cases e : y = x
 ·simp [e, hv]
 ·simp [e]
theorem RootS.par {s0 s : St} {f : Nat} {B : Int → Nat} {o : Nat → Tg} {S : FoD} {m1 : Nat} {g mt : Int → Int} (h : RootS s0 s f B o S m1 g mt) (i : Int) : lookupA D s T.map_api_SpanID_p_forest_place (.map S.mb) (.int .u64 (S.C i).par) false = some (ptO B (S.up i)) := by
 rw [← atV_up]
 exact h.fo.look _
theorem eqP_ne {s : St} {a b : Nat} {ca cb : List AV} {x y : Operand} (ha : Own s a ca) (hb : Own s b cb) (hal : 0 < ca.length) (hbl : 0 < cb.length) : eqA D s .neq T.p_forest_place x y (.ptr a 0) (.ptr b 0) = some (.bool (decide (a ≠ b))) := by
 have key : aeq D s.h depth T.p_forest_place (.ptr a 0) (.ptr b 0) = eqAddr D s.h T.forest_place a 0 b 0 := by kernel_rfl
 have k2 : eqAddr D s.h T.forest_place a 0 b 0 = (match Nat.beq a b with | true => some true | false => if live s.h a && live s.h b && !(textual s.h a && textual s.h b) then some false else none) := by kernel_rfl
 obtain ⟨c1, h1, _⟩ := ha
 obtain ⟨c2, h2, _⟩ := hb
 have l1 : live s.h a = true := by
  unfold live; rw [h1]
  obtain ⟨n, e⟩ : ∃ n, ca.length = n + 1 := ⟨ca.length - 1, by omega⟩
  rw [e]
 have l2 : live s.h b = true := by
  unfold live; rw [h2]
  obtain ⟨n, e⟩ : ∃ n, cb.length = n + 1 := ⟨cb.length - 1, by omega⟩
  rw [e]
 have l3 : textual s.h a = false := by unfold textual; rw [h1]
 have e0 : isEq .neq = some false := rfl
 have e1 : nilIfs x y (.ptr a 0) (.ptr b 0) = false := rfl
 unfold eqA
 rw [e0]
 simp only
 rw [e1]
 simp only
 rw [key, k2]
 by_cases e : a = b
 ·subst e; simp
 ·have : Nat.beq a b = false := by
   rw [Bool.eq_false_iff]
   intro h; exact e (Nat.eq_of_beq_eq_true h)
  rw [this]
  simp [l1, l2, l3, e]
def orgC (C : Int → SpC) (N : List Int) (i : Int) : Int := if (C i).par = 0 then 1 else if (C i).par ∉ N then 2 else if Least (upC C N) i then 3 else 0
theorem Fo.tagN {s0 s : St} {f : Nat} {B : Int → Nat} {o : Nat → Tg} {S : FoD} (h : Fo s0 s f B o S) {i j : Int} (hi : i ∈ S.N) (hj : j ∈ S.N) (e : B i = B j) : i = j := by
 have h1 := (h.pl i hi).tb
 have h2 := (h.pl j hj).tb
 rw [e, h2] at h1
 exact (congrArg Prod.snd h1).symm
theorem ptrK_of {b o off : Nat} {K : Nat → Nat → Prop} (h : K b (o + off)) : ptrK (.ptr b o) off K := h
theorem nilK_ptO {B : Int → Nat} {cur : Option Int} {e : TypeId} {yes : Bool} {K : Bool → Prop} (h : K (if yes then cur.isNone else cur.isSome)) : nilK (TD.ptr e) (ptO B cur) yes K := by
 cases cur with
 | none => cases yes <;> exact h
 | some c => cases yes <;> exact h
theorem getD_lt {l : List Int} {j : Nat} {d : Int} (h : j < l.length) : l.getD j d = l[j] := by simp [List.getD, h]
theorem getD_ge {l : List Int} {j : Nat} {d : Int} (h : l.length ≤ j) : l.getD j d = d := by simp [List.getD, h]
theorem nodup_len {l N : List Int} (h : l.Nodup) (hs : ∀ x, x ∈ l → x ∈ N) : l.length ≤ N.length := by
 induction l generalizing N with
 | nil => simp
 | cons a r ih =>
  obtain ⟨h1, h2⟩ := List.nodup_cons.1 h
  have ha := hs a (List.mem_cons_self ..)
  have := ih (N := N.erase a) h2 fun x hx => by
   have hne : x ≠ a := by rintro rfl; exact h1 hx
   exact (List.mem_erase_of_ne hne).2 (hs x (List.mem_cons_of_mem _ hx))
  rw [List.length_erase_of_mem ha] at this
  have hp : 0 < N.length := List.length_pos_of_mem ha
  simp only [List.length_cons]
  omega
theorem metW_nil {w : Nat} {mt : Int → Int} : mt = metW w mt [] := by funext x; simp [metW]
theorem take_le {l : List Int} {j : Nat} {le q : Int} (hj : j < l.length) (h0 : 0 < j) (hq : l[j] = q) (hm : le ∈ l.take j) (hl : ∀ y, y ∈ l.take j → le ≤ y) : (if q < le then q else le) ∈ l.take (j + 1) ∧ ∀ y, y ∈ l.take (j + 1) → (if q < le then q else le) ≤ y := by
 have e : l.take (j + 1) = l.take j ++ [q] := by rw [List.take_succ_eq_append_getElem hj, hq]
 rw [e]
 constructor
 ·split
  ·simp
  ·exact List.mem_append_left _ hm
 ·intro y hy
  rcases List.mem_append.1 hy with hy | hy
  ·have := hl y hy
   split <;> omega
  ·have : y = q := by simpa using hy
   subst this
   split <;> omega
set_option maxHeartbeats 1000000 in
set_option maxRecDepth 10000 in
theorem Root_ok {s0 s : St} {f : Nat} {B : Int → Nat} {o : Nat → Tg} {S : FoD} (h : Fo s0 s f B o S) (hil : ∀ i, i ∈ S.il ↔ i ∈ S.N) (hln : S.il.length < 1000000) (hnd : ∀ i, i ∈ S.N → (S.pl i).n.id = i ∧ (S.pl i).n.org = 0) (h0 : (0 : Int) ∉ S.N) :
  CallsA P F.p_forest_Forest_root [.ptr f 0] s fun v s' => v = .tuple [] ∧ ∃ o', Fo s0 s' f B o' (S.org (orgC S.C S.N)) := by
 refine vc.p_forest_Forest_root_ok ?_
 intro m1 s2 n2
 have h2 : Fo s0 s2 f B (updF o m1 (8, 0)) S := (h.tag n2.gone (8, 0)).ext n2.fwd n2.fr
 have hm1 : (updF o m1 (8, 0)) m1 = (8, 0) := updF_same _ _ _
 have hn1 : s0.h.get m1 = none := h.fwd.none n2.gone (by simp)
 generalize updF o m1 (8, 0) = o1 at h2 hm1
 have hg0 : Fo s0 s2 f B o1 (S.org fun _ => 0) := by
  refine h2.congr fun i hi => ?_
  obtain ⟨_, e⟩ := hnd i hi
  cases hp : S.pl i with
  | mk x n k ks => cases n; rw [hp] at e; simp only [Pl.withOrg] at *; rw [e]
 have hidx : ∀ {g : Int → Int} {i : Int}, i ∈ S.N → ∀ {s' : St} {o' : Nat → Tg}, Fo s0 s' f B o' (S.org g) → ld1 s' (.ptr (B i) 13) = some (.int .u64 i) := by
  intro g i hi s' o' hF
  have := (hF.pl i hi).own.ld1 13 (v := .int .u64 (S.pl i).n.id) rfl
  rw [(hnd i hi).1] at this
  exact this
 have hpar : ∀ {g : Int → Int} {i : Int}, i ∈ S.N → ∀ {s' : St} {o' : Nat → Tg}, Fo s0 s' f B o' (S.org g) → ld1 s' (.ptr (B i) 3) = some (.int .u64 (S.C i).par) := by
  intro g i hi s' o' hF
  exact (hF.pl i hi).own.ld1 3 rfl
 refine ptrK_of ⟨S.ids, h2.own.ld1 1 rfl, h2.ids.sl.slen ?_⟩
 refine ⟨fun n s' m => ∃ (w : Nat) (mt g : Int → Int), n = w ∧ m = S.il.length - w ∧ w ≤ S.il.length ∧ RootS s0 s' f B o1 S m1 g mt ∧ WayI S.up S.N S.il w mt g,
  ⟨_, 0, fun _ => 0, fun _ => 0, rfl, rfl, by omega, ⟨hg0, ⟨[], .new n2, fun x => by simp [mget]⟩, hm1, hn1⟩, ⟨fun x y hx => absurd rfl hx, fun x => by simp, fun x hx => absurd rfl hx, fun k _ hk => by omega, fun x => by simp⟩⟩, ?_⟩
 rintro _ s10 _ ⟨w, mt, g, rfl, rfl, hw, hR, hW⟩
 refine bsel_of (fun c => ?_) fun c => ?_
 ·have c : w < S.il.length := by simpa using c
  have hst : ∀ (hw : w < S.il.length), S.il[w] = S.il[w] := fun _ => rfl
  have hids : Sl linkE s10 S.ids S.il := hR.fo.ids.sl
  have hstN : S.il[w] ∈ S.N := (hil _).1 (List.getElem_mem _)
  refine hids.ixs rfl rfl c fun b o' hr => ⟨_, hr.ld1 0 rfl, ptrK_of ⟨_, hR.fo.own.ld1 0 rfl, ptO B (some S.il[w]), (hR.fo.look _).trans (congrArg some (if_pos hstN)), ?_⟩⟩
  have hwr : IntKind.wrap .i64 ((w : Int) + 1) = (w : Int) + 1 := wrap_i64 (by omega) (by omega)
  rw [hwr]
  refine ⟨fun x s' m => ∃ (pa : List Int) (cur : Option Int), x = ptO B cur ∧ m = S.N.length + 1 - pa.length ∧ RootS s0 s' f B o1 S m1 g (metW w mt pa) ∧ WalkI S.up S.N w S.il[w] mt pa cur,
   ⟨_, [], some S.il[w], rfl, rfl, metW_nil ▸ hR, ⟨by simp, by simp, trivial, fun _ => rfl, by simp, fun c hc => by cases hc; exact hstN⟩⟩, ?_⟩
  rintro _ s22 _ ⟨pa, cur, rfl, rfl, hR2, hK⟩
  have hlen : pa.length ≤ S.N.length := by
   have hsub : ∀ x, x ∈ pa → x ∈ S.N := fun x hx => (hK.new x hx).2
   exact nodup_len hK.nd hsub
  refine ⟨fun s' _ => s' = s22 ∧ ∃ c, cur = some c ∧ metW w mt pa c = 0, ⟨fun t s' _ => s' = s22 ∧ (t = true → ∃ c, cur = some c ∧ metW w mt pa c = 0) ∧ (t = false → ∀ c, cur = some c → metW w mt pa c ≠ 0), ?_, ?_⟩, ?_⟩
  ·refine nilK_ptO ?_
   cases cur with
   | none => exact bsel_of (fun e => by simp at e) fun _ => ⟨0, rfl, by simp, by simp⟩
   | some c =>
    have hcN := hK.cur c rfl
    refine bsel_of (fun _ => ?_) fun e => by simp at e
    refine ptrK_of ⟨c, hidx hcN hR2.fo, _, hR2.look c, 0, rfl, fun e => ⟨c, rfl, by simpa using e⟩, fun e c' hc' => ?_⟩
    cases hc'
    simpa using e
  ·rintro t s34 _ ⟨hs34, ht1, ht2⟩
   subst s34
   refine bsel_of (fun e => ⟨0, rfl, ht1 e⟩) fun e => ?_
   have hne := ht2 e
   refine ⟨fun s' _ => s' = s22 ∧ ∃ c, cur = some c ∧ c ∈ pa, ⟨fun t s' _ => s' = s22 ∧ (t = true → ∀ c, cur = some c → metW w mt pa c ≠ (w : Int) + 1) ∧ (t = false → ∃ c, cur = some c ∧ c ∈ pa), ?_, ?_⟩, ?_⟩
   ·refine nilK_ptO ?_
    cases cur with
    | none => exact bsel_of (fun _ => ⟨0, rfl, by simp, by simp⟩) fun e => by simp at e
    | some c =>
     have hcN := hK.cur c rfl
     refine bsel_of (fun e => by simp at e) fun _ => ?_
     refine ptrK_of ⟨c, hidx hcN hR2.fo, _, hR2.look c, 0, rfl, fun e c' hc' => ?_, fun e => ⟨c, rfl, ?_⟩⟩
     ·cases hc'; simpa using e
     ·have e : metW w mt pa c = (w : Int) + 1 := by simpa using e
      rcases Classical.em (c ∈ pa) with h' | h'
      ·exact h'
      ·unfold metW at e
       rw [if_neg h'] at e
       have := (hW.rng c).2
       omega
   ·rintro t s47 _ ⟨hs47, ht1, ht2⟩
    subst s47
    refine bsel_of (fun e => ?_) fun e => ⟨0, rfl, ht2 e⟩
    refine ⟨S.il.length - (w + 1), by omega, w + 1, metW w mt pa, g, by omega, rfl, by omega, hR2, ?_⟩
    exact hW.none hK hst fun c hc => ⟨hne c hc, ht1 e c hc⟩
   ·rintro s51 _ ⟨hs51, c0, rfl, hcp⟩
    subst s51
    intro s53 b53
    have hR3 := hR2.bump b53
    have hcN := hK.cur c0 rfl
    obtain ⟨A, R, rfl⟩ := List.append_of_mem hcp
    have hway : Way S.up (c0 :: R) (some c0) := by
     have := hK.way.drop (k := A.length)
     simpa using this
    have hRN : ∀ x, x ∈ c0 :: R → x ∈ S.N := fun x hx => (hK.new x (List.mem_append_right _ hx)).2
    have hRnd : (c0 :: R).Nodup := (List.nodup_append.1 hK.nd).2.1
    have hnext : ∀ (j : Nat) (hj : j < (c0 :: R).length), S.up (c0 :: R)[j] = some ((c0 :: R).getD (j + 1) c0) := hway.ring_at
    refine ptrK_of ⟨_, hR3.fo.own.ld1 0 rfl, ptrK_of ⟨_, hpar hcN hR3.fo, _, hR3.par c0, ?_⟩⟩
    have hu0 : S.up c0 = some ((c0 :: R).getD 1 c0) := hnext 0 (by simp)
    rw [hu0]
    refine ⟨fun x y s' m => ∃ (j : Nat) (le : Int), x = ptO B (some le) ∧ y = ptO B (some ((c0 :: R).getD j c0)) ∧ m = (c0 :: R).length - j ∧ 0 < j ∧ j ≤ (c0 :: R).length ∧ le ∈ (c0 :: R).take j ∧ (∀ z, z ∈ (c0 :: R).take j → le ≤ z) ∧ RootS s0 s' f B o1 S m1 g (metW w mt (A ++ c0 :: R)),
     ⟨_, 1, c0, rfl, rfl, rfl, by omega, by simp, by simp, by simp, hR3⟩, ?_⟩
    rintro _ _ s65 _ ⟨j, le, rfl, rfl, rfl, hj0, hjl, hle1, hle2, hR4⟩
    have hleN : le ∈ S.N := hRN le (List.mem_of_mem_take hle1)
    have hqR : (c0 :: R).getD j c0 ∈ c0 :: R := by
     rcases Nat.lt_or_ge j (c0 :: R).length with hj | hj
     ·rw [getD_lt hj]; exact List.getElem_mem _
     ·rw [getD_ge hj]; simp
    have hqN := hRN _ hqR
    refine ⟨_, eqP_ne (hR4.fo.pl _ hqN).own (hR4.fo.pl _ hcN).own (by simp [Pl.cells, SpX.cells, Nd.cells]) (by simp [Pl.cells, SpX.cells, Nd.cells]), bsel_of (fun e => ?_) fun e => ?_⟩
    ·have e : B ((c0 :: R).getD j c0) ≠ B c0 := by simpa using e
     have hj : j < (c0 :: R).length := by
      rcases Nat.lt_or_ge j (c0 :: R).length with hj | hj
      ·exact hj
      ·rw [getD_ge hj] at e; exact absurd rfl e
     rw [getD_lt hj] at hqN hqR ⊢
     generalize hq : (c0 :: R)[j] = q at *
     refine ⟨fun x s' _ => RootS s0 s' f B o1 S m1 g (metW w mt (A ++ c0 :: R)) ∧ x = ptO B (some (if q < le then q else le)), ?_, ?_⟩
     ·intro s69 b69
      have hR5 := hR4.bump b69
      refine ptrK_of ⟨_, hidx hqN hR5.fo, ptrK_of ⟨_, hidx hleN hR5.fo, bsel_of (fun e2 => ⟨0, hR5, ?_⟩) fun e2 => ⟨0, hR5, ?_⟩⟩⟩
      ·have e2 : q < le := by simpa using e2
       rw [if_pos e2]
      ·have e2 : ¬ q < le := by simpa using e2
       rw [if_neg e2]
     ·rintro _ s79 _ ⟨hR6, rfl⟩
      intro s81 b81
      have hR7 := hR6.bump b81
      refine ptrK_of ⟨_, hR7.fo.own.ld1 0 rfl, ptrK_of ⟨_, hpar hqN hR7.fo, _, hR7.par q, ?_⟩⟩
      have hun := hnext j hj
      rw [hq] at hun
      rw [hun]
      obtain ⟨t1, t2⟩ := take_le hj hj0 hq hle1 hle2
      exact ⟨(c0 :: R).length - (j + 1), by omega, j + 1, _, rfl, rfl, rfl, by omega, by omega, t1, t2, hR7⟩
    ·have e : B ((c0 :: R).getD j c0) = B c0 := by simpa using e
     have hqc := hR4.fo.tagN hqN hcN e
     have hjl2 : j = (c0 :: R).length := by
      rcases Nat.lt_or_ge j (c0 :: R).length with hj | hj
      ·rw [getD_lt hj] at hqc
       have := (List.getElem_inj (i := j) (j := 0) (h₀ := hj) (h₁ := by simp) hRnd).1 hqc
       omega
      ·omega
     rw [hjl2, List.take_length] at hle1 hle2
     obtain ⟨s92, w92, hF92, f92⟩ := hR4.fo.setOrg hleN 3
     refine ptrK_of ⟨s92, w92, S.il.length - (w + 1), by omega, w + 1, metW w mt (A ++ c0 :: R), fun x => if x = le then 3 else g x, by omega, rfl, by omega, ⟨hF92, ?_, hm1, hn1⟩, hW.ring hK hst hle1 hle2⟩
     obtain ⟨mm, g1, g2⟩ := hR4.met
     refine ⟨mm, g1.fwd f92 ?_, g2⟩
     have := (hR4.fo.pl le hleN).tb
     intro hm
     have : m1 = B le := by simpa using hm
     rw [this, (hR4.fo.pl le hleN).tb] at hm1
     simp at hm1
  ·rintro s94 _ ⟨hs94, c0, rfl, hc0⟩
   subst s94
   have hcN := hK.cur c0 rfl
   obtain ⟨hK2, hmt2⟩ := hK.step hc0 upC_in
   obtain ⟨s99, w99, hR5⟩ := hR2.set c0 ((w : Int) + 1) (by omega) hmt2
   refine ptrK_of ⟨c0, hidx hcN hR2.fo, s99, w99, fun s100 b100 => ?_⟩
   have hR6 := hR5.bump b100
   refine ptrK_of ⟨_, hR6.fo.own.ld1 0 rfl, ptrK_of ⟨_, hpar hcN hR6.fo, _, hR6.par c0, S.N.length + 1 - (pa ++ [c0]).length, ?_, pa ++ [c0], _, rfl, rfl, hR6, hK2⟩⟩
   simp only [List.length_append, List.length_cons, List.length_nil]
   omega
 ·have c : w = S.il.length := by simp at c; omega
  subst c
  have hmet : ∀ x, x ∈ S.N → mt x ≠ 0 := fun x hx => by
   obtain ⟨k, hk, rfl⟩ := List.getElem_of_mem ((hil x).2 hx)
   exact hW.done k hk hk
  obtain ⟨it, s113, g1, g2, g3, g4, g5, g6⟩ := hR.fo.map.range (t := T.map_api_SpanID_p_forest_place) ty.map_api_SpanID_p_forest_place rfl hR.fo.fr
  have hF2 : Fo s0 s113 f B (updF o1 it (9, 0)) (S.org g) := (hR.fo.tag g5 (9, 0)).ext g3 g4
  have hit : (updF o1 it (9, 0)) it = (9, 0) := updF_same _ _ _
  have hi0 : s0.h.get it = none := hR.fo.fwd.none g5 (by simp)
  generalize updF o1 it (9, 0) = o2 at hF2 hit
  refine ptrK_of ⟨_, hR.fo.own.ld1 0 rfl, it, s113, g1, ?_⟩
  refine ⟨fun s' m => ∃ rem : List (Int × AV), m = rem.length ∧ IterS KU.f s' it S.mb (S.N.map fun i => (i, AV.ptr (B i) 0)) rem ∧ (rem.map (·.1)).Nodup ∧ (∀ e, e ∈ rem → e.1 ∈ S.N ∧ e.2 = .ptr (B e.1) 0) ∧ Fo s0 s' f B o2 (S.org fun i => if i ∈ rem.map (·.1) then g i else orgC S.C S.N i),
   ⟨_, S.N.map fun i => (i, AV.ptr (B i) 0), rfl, g2, by rw [List.map_map]; exact (List.map_id S.N).symm ▸ h.nd, ?_, ?_⟩, ?_⟩
  ·rintro e he
   obtain ⟨i, hi, rfl⟩ := List.mem_map.1 he
   exact ⟨hi, rfl⟩
  ·refine hF2.congr (pl' := fun i => (S.pl i).withOrg (if i ∈ (S.N.map fun i => (i, AV.ptr (B i) 0)).map (·.1) then g i else orgC S.C S.N i)) fun i hi => ?_
   have hi : i ∈ S.N := hi
   show (S.pl i).withOrg _ = (S.pl i).withOrg (g i)
   rw [if_pos]
   simpa using hi
  rintro s116 _ ⟨rem, rfl, hI, hnd2, hsub, hF3⟩
  obtain ⟨l, q1, q2⟩ := hI.entry
  refine ⟨l, q1, fun x119 s120 hm => ?_⟩
  rcases q2 _ _ hm with ⟨rfl, rfl, rfl⟩ | ⟨a, k, x, d, rfl, rfl, e3, e4, e5, e6, e7, e8⟩
  ·refine .inl ⟨rfl, rfl, o2, ?_⟩
   simpa using hF3
  ·obtain ⟨hkN, hx⟩ := hsub (k, x) (by simp)
   simp only at hkN hx
   subst hx
   have hF4 := hF3.beside e4 (hF3.fr.wr (fun h => by
    have := hI
    obtain ⟨_, _, _, _, _, _, _, h5, _⟩ := this
    rw [h] at h5; simp at h5) e5 e7) (fun m hm => by
     have : m = it := by simpa using hm
     rw [this, hit]; decide) (fun m hm => by
     have : m = it := by simpa using hm
     rw [this]; exact hi0)
   have hnk : k ∉ (a ++ d).map (·.1) := by
    simp only [List.map_append, List.map_cons] at hnd2 ⊢
    have := (List.perm_middle (a := k) (l₁ := a.map (·.1)) (l₂ := d.map (·.1))).nodup_iff.1 hnd2
    exact (List.nodup_cons.1 this).1
   have hnd3 : ((a ++ d).map (·.1)).Nodup := by
    simp only [List.map_append, List.map_cons] at hnd2 ⊢
    have := (List.perm_middle (a := k) (l₁ := a.map (·.1)) (l₂ := d.map (·.1))).nodup_iff.1 hnd2
    exact (List.nodup_cons.1 this).2
   have hsub3 : ∀ e, e ∈ a ++ d → e.1 ∈ S.N ∧ e.2 = .ptr (B e.1) 0 := fun e he => hsub e (by
    rcases List.mem_append.1 he with he | he
    ·exact List.mem_append_left _ he
    ·exact List.mem_append_right _ (List.mem_cons_of_mem _ he))
   have hfun : ∀ v, v = orgC S.C S.N k → (fun i => if i = k then v else if i ∈ (a ++ (k, AV.ptr (B k) 0) :: d).map (·.1) then g i else orgC S.C S.N i) = fun i => if i ∈ (a ++ d).map (·.1) then g i else orgC S.C S.N i := by
    rintro v rfl
    funext i
    by_cases e : i = k
    ·subst e
     rw [if_pos rfl, if_neg hnk]
    ·rw [if_neg e]
     congr 1
     simp [e]
   have hlt : (a ++ d).length < (a ++ (k, AV.ptr (B k) 0) :: d).length := by simp
   have hne : B k ≠ it := by
    intro e
    have := (hF4.pl k hkN).tb
    rw [e, hit] at this
    simp at this
   have hnb : B k ≠ S.mb := by
    intro e
    have := (hF4.pl k hkN).tb
    have h2 : o2 S.mb = (1, 0) := hF4.tm
    rw [e, h2] at this
    simp at this
   refine .inr ⟨k, .ptr (B k) 0, rfl, k, .ptr (B k) 0, e8, ptrK_of ⟨_, hpar hkN hF4, bsel_of (fun c1 => ?_) fun c1 => ?_⟩⟩
   ·have c1 : (S.C k).par = 0 := by simpa using c1
    obtain ⟨s130, w130, hF5, f130⟩ := hF4.setOrg hkN 1
    refine ptrK_of ⟨s130, w130, _, hlt, a ++ d, rfl, e3.fwd f130 (by simpa using Ne.symm hnb) (by simpa using Ne.symm hne), hnd3, hsub3, ?_⟩
    rw [hfun 1 (by rw [orgC, if_pos c1])] at hF5
    exact hF5
   ·have c1 : ¬ (S.C k).par = 0 := by simpa using c1
    intro s132 b132
    have hF5 := hF4.ext b132.fwd b132.fr
    have e3' := e3.ext b132.fwd
    refine ptrK_of ⟨_, hF5.own.ld1 0 rfl, ptrK_of ⟨_, hpar hkN hF5, _, (hF5.look _).trans (congrArg some (atV_up S B k)), nilK_ptO ?_⟩⟩
    refine bsel_of (fun c2 => ?_) fun c2 => ?_
    ·have c2 : (S.C k).par ∉ S.N := by
      intro hp
      have : S.up k = some (S.C k).par := if_pos hp
      rw [this] at c2
      simp at c2
     obtain ⟨s143, w143, hF6, f143⟩ := hF5.setOrg hkN 2
     refine ptrK_of ⟨s143, w143, _, hlt, a ++ d, rfl, e3'.fwd f143 (by simpa using Ne.symm hnb) (by simpa using Ne.symm hne), hnd3, hsub3, ?_⟩
     rw [hfun 2 (by rw [orgC, if_neg c1, if_pos c2])] at hF6
     exact hF6
    ·have c2 : (S.C k).par ∈ S.N := by
      apply Classical.byContradiction
      intro hp
      have : S.up k = none := if_neg hp
      rw [this] at c2
      simp at c2
     refine ⟨_, hlt, a ++ d, rfl, e3', hnd3, hsub3, ?_⟩
     have hgk : g k = orgC S.C S.N k := by
      have c3 : ¬ (S.C k).par ∉ S.N := fun h => h c2
      rw [hW.mark k, orgC, if_neg c1, if_neg c3]
      simp only [hmet k hkN, ne_eq, not_false_eq_true, and_true]
     have := hfun (g k) hgk
     rw [← this]
     have e : (fun i => if i = k then g k else if i ∈ (a ++ (k, AV.ptr (B k) 0) :: d).map (·.1) then g i else orgC S.C S.N i) = fun i => if i ∈ (a ++ (k, AV.ptr (B k) 0) :: d).map (·.1) then g i else orgC S.C S.N i := by
      funext i
      by_cases e : i = k
      ·subst e; rw [if_pos rfl, if_pos (by simp)]
      ·rw [if_neg e]
     rw [e]
     exact hF5
end
end Go.Eng.S

namespace Go.Eng.S
open Go Go.Eng Go.Proofs
set_option linter.constructorNameAsVariable false
noncomputable section
open Classical
variable {U : UF}
theorem Way.mid {c : Int} {l2 : List Int} {e : Option Int} : ∀ {l1 : List Int}, Way U (l1 ++ c :: l2) e → Way U l1 (some c)
 | [], _ => trivial
 | [x], h => h.1
 | x :: y :: r, h => ⟨h.1, Way.mid (l1 := y :: r) h.2⟩
theorem not_nodup : ∀ {l : List Int}, ¬ l.Nodup → ∃ A y B D, l = A ++ y :: (B ++ y :: D)
 | [], h => absurd List.nodup_nil h
 | a :: r, h => by
  by_cases ha : a ∈ r
  ·obtain ⟨B, D, e⟩ := List.append_of_mem ha
   exact ⟨[], a, B, D, by rw [e]; rfl⟩
  ·have : ¬ r.Nodup := fun hr => h (List.nodup_cons.2 ⟨ha, hr⟩)
   obtain ⟨A, y, B, D, e⟩ := not_nodup this
   exact ⟨a :: A, y, B, D, by rw [e]; rfl⟩
theorem Reach.sub {V : UF} (hs : ∀ x y, V x = some y → U x = some y) {x y : Int} (h : Reach V x y) : Reach U x y := by
 obtain ⟨k, hk⟩ := h
 induction k generalizing x with
 | zero => exact ⟨0, hk⟩
 | succ k ih =>
  simp only [itU] at hk
  cases hu : V x with
  | none => rw [hu] at hk; simp at hk
  | some z => rw [hu] at hk; exact .step (hs x z hu) (ih (by simpa using hk))
theorem Ring.sub {V : UF} (hs : ∀ x y, V x = some y → U x = some y) {x : Int} (h : Ring V x) : Ring U x := by
 obtain ⟨y, h1, h2⟩ := Ring.iff.1 h
 exact Ring.iff.2 ⟨y, hs x y h1, h2.sub hs⟩
end
end Go.Eng.S

namespace Go.Eng.S
open Go Go.Eng Go.Proofs
set_option linter.constructorNameAsVariable false
noncomputable section
attribute [local irreducible] bsel
def cfO (p : Int → Nd) (x y : Int) : Int := fst0 [cmpI (p x).fr (p y).fr, cmpI (p x).id (p y).id]
theorem cfO_lt (p : Int → Nd) (x y : Int) : cfO p x y < 0 ↔ (p x).fr < (p y).fr ∨ (p x).fr = (p y).fr ∧ (p x).id < (p y).id := by
 unfold cfO fst0 fst0 fst0 cmpI
 by_cases h1 : (p x).fr < (p y).fr
 ·simp [h1]
 ·by_cases h2 : (p x).fr > (p y).fr
  ·simp [h1, h2]; omega
  ·have e : (p x).fr = (p y).fr := by omega
   simp only [e, Int.lt_irrefl, gt_iff_lt, if_false, ne_eq, not_true, true_and, false_or]
   by_cases h3 : (p x).id < (p y).id
   ·simp [h3]
   ·by_cases h4 : (p y).id < (p x).id
    ·simp [h3, h4]
    ·simp [h3, h4]
theorem swoO (p : Int → Nd) : Sort.SWO (ltOf (cfO p)) := by
 have key : ∀ x y, (ltOf (cfO p) x y = true) ↔ ((p x).fr < (p y).fr ∨ (p x).fr = (p y).fr ∧ (p x).id < (p y).id) := fun x y => by
  rw [← cfO_lt]; simp [ltOf]
 have key2 : ∀ x y, (ltOf (cfO p) x y = false) ↔ ¬ ((p x).fr < (p y).fr ∨ (p x).fr = (p y).fr ∧ (p x).id < (p y).id) := fun x y => by
  rw [← key]; simp
 refine ⟨fun x => ?_, fun x y z => ?_, fun x y z => ?_⟩
 ·rw [key2]; omega
 ·simp only [key]; omega
 ·simp only [key2]; omega
theorem order_ok {s : St} {a b : Nat} {p q : Pl} (ha : Rd s a 0 p.cells) (hb : Rd s b 0 q.cells) : CallsD P F.forest_order [.ptr a 0, .ptr b 0] s fun v _ => v = .int .i64 (fst0 [cmpI p.n.fr q.n.fr, cmpI p.n.id q.n.id]) := by
 refine CallsD.fr fun hfr => vc.forest_order_ok ?_
 intro s1 b1
 have ha := ha.fwd b1.fwd (by simp)
 have hb := hb.fwd b1.fwd (by simp)
 refine ptrK_of ⟨_, ha.ld1 18 rfl, ptrK_of ⟨_, hb.ld1 18 rfl, (Compare64_ok _ _ _).mono ?_⟩⟩
 rintro _ _ ⟨rfl, rfl⟩
 refine ⟨_, rfl, ptrK_of ⟨_, ha.ld1 13 rfl, ha.ld1 13 rfl, ptrK_of ⟨_, hb.ld1 13 rfl, hb.ld1 13 rfl, (CompareID_ok _ _ _).mono ?_⟩⟩⟩
 rintro _ _ ⟨rfl, rfl⟩
 refine ⟨_, rfl, (OrL_ok (n := 2) (xs := [cmpI p.n.fr q.n.fr, cmpI p.n.id q.n.id]) rfl hsetS_own (by simp)).mono ?_⟩
 rintro _ _ ⟨rfl, _⟩
 exact ⟨_, rfl, rfl⟩
theorem SortP_ok {s0 s : St} {f : Nat} {B : Int → Nat} {o : Nat → Tg} {S : FoD} (h : Fo s0 s f B o S) (hid : ∀ i, i ∈ S.N → (S.pl i).n.id = i) {x : AV} {l : List Int} (hx : So (ptE B) s x l) (hl : ∀ i, i ∈ l → i ∈ S.N) (hsz : l.length < 4611686018427387904) (ht : ∀ c, c ∈ blkOf x → ∀ i, o c ≠ (4, i)) :
  CallsD P F.slices_SortFunc_sl_p_forest_place_p_forest_place [x, .func F.forest_order [] []] s fun v s' => (v = .tuple [] ∧ ∃ l' : List Int, l'.Perm l ∧ l'.Pairwise (fun x y => 0 ≤ cfO (fun i => (S.pl i).n) y x) ∧ So (ptE B) s' x l' ∧ Frw (blkOf x) s s') ∧ Fr s' := by
 refine CallsD.of fun hfr => CallsD.sortSo hD Tryd.sortP (fun i => AV.ptr (B i) 0) (fun _ => rfl) (fun i => i ∈ S.N) (cfO fun i => (S.pl i).n) (swoO _) (g := F.forest_order) (fi := fnI Tryd.f20) (by kernel_rfl) hx hsz hl ?_ ?_
 ·intro x y hx hy h1 h2
  have k1 := cfO_lt (fun i => (S.pl i).n) x y
  have k2 := cfO_lt (fun i => (S.pl i).n) y x
  have e1 := hid x (hl x hx)
  have e2 := hid y (hl y hy)
  simp only [e1, e2] at k1 k2
  omega
 ·intro s1 hrd i j hi hj
  have hr : ∀ {i}, i ∈ S.N → Rd s1 (B i) 0 (S.pl i).cells := fun {i} hi => hrd _ _ _ (fun hc => ht _ hc i (h.pl i hi).tb) (h.pl i hi).own.rd
  exact ((order_ok (hr hi) (hr hj))).a
theorem empty_ok (a b : Int) (s : St) : CallsD P F.ival_empty [.agg [.int .i64 a, .int .i64 b]] s fun v s' => v = .bool (decide (b ≤ a)) ∧ Frw [] s s' := by
 refine vc.ival_empty_ok ?_
 intro m1 s2 n2
 exact ⟨_, n2.own.ld1 1 rfl, _, n2.own.ld1 0 rfl, by simp, n2.fwd⟩
def intoI (v x y : Int) : Int := if (if y < v then y else v) > x then (if y < v then y else v) else x
theorem into_ok (a b c : Int) (s : St) : CallsD P F.ival_into [.int .i64 a, .int .i64 b, .int .i64 c] s fun v s' => v = .int .i64 (intoI a b c) ∧ s' = s :=
 vc.ival_into_ok ⟨rfl, rfl⟩
def clipI (a b c d : Int) : Int × Int := if d ≤ c then (c, c) else if b ≤ a then (intoI a c d, intoI a c d) else (intoI a c d, intoI b c d)
theorem Clip_ok (a b c d : Int) (s : St) : CallsD P F.ival_Clip [.agg [.int .i64 a, .int .i64 b], .agg [.int .i64 c, .int .i64 d]] s fun v s' => v = .agg [.int .i64 (clipI a b c d).1, .int .i64 (clipI a b c d).2] ∧ Frw [] s s' := by
 refine vc.ival_Clip_ok ?_
 intro m1 s2 n2 m3 s4 n4 m5 s6 n6
 have o1 := (n2.own.ext n4.fwd).ext n6.fwd
 have o3 := n4.own.ext n6.fwd
 have o5 := n6.own
 have f6 : Frw [] s s6 := (n2.fwd.trans n4.fwd).trans n6.fwd
 have g5 : s.h.get m5 = none := (n2.fwd.trans n4.fwd).none n6.gone (by simp)
 refine ⟨_, _, o3.all rfl, (empty_ok c d _).mono ?_⟩
 rintro _ s10 ⟨rfl, f10⟩
 have o1 := o1.ext f10
 have o3 := o3.ext f10
 have o5 := o5.ext f10
 have F10 := f6.trans f10
 have hput : ∀ {s' : St} (_ : Own s' m5 [.int .i64 0, .int .i64 0]) (_ : Frw [] s s') (x y : Int), ∃ s14, wrN s' (.ptr m5 0) [.int .i64 x, .int .i64 y] = some s14 ∧ ldN s14 (.ptr m5 0) 2 = some [.int .i64 x, .int .i64 y] ∧ Frw [] s s14 := by
  intro s' o hf x y
  obtain ⟨s14, w1, o2, f2, _⟩ := o.wrAll [.int .i64 x, .int .i64 y] rfl rfl
  exact ⟨s14, w1, o2.all rfl, hf.step f2 (by simp [g5])⟩
 refine ⟨_, rfl, bsel_of (fun e => ?_) fun e => ?_⟩
 ·have e : d ≤ c := by simpa using e
  obtain ⟨s14, w1, l1, f1⟩ := hput o5 F10 c c
  exact ⟨_, o3.ld1 0 rfl, _, o3.ld1 0 rfl, s14, w1, _, _, l1, by simp [clipI, e], f1⟩
 ·have e : ¬ d ≤ c := by simpa using e
  refine ⟨_, o1.ld1 0 rfl, _, o3.ld1 0 rfl, _, o3.ld1 1 rfl, (into_ok _ _ _ _).mono ?_⟩
  rintro _ s21 ⟨rfl, hs21⟩
  subst s21
  refine ⟨_, rfl, _, _, o1.all rfl, (empty_ok a b _).mono ?_⟩
  rintro _ s26 ⟨rfl, f26⟩
  have o1 := o1.ext f26
  have o3 := o3.ext f26
  have o5 := o5.ext f26
  have F26 := F10.trans f26
  refine ⟨_, rfl, bsel_of (fun e2 => ?_) fun e2 => ?_⟩
  ·have e2 : b ≤ a := by simpa using e2
   obtain ⟨s14, w1, l1, f1⟩ := hput o5 F26 (intoI a c d) (intoI a c d)
   exact ⟨s14, w1, _, _, l1, by simp [clipI, e, e2], f1⟩
  ·have e2 : ¬ b ≤ a := by simpa using e2
   refine ⟨_, o1.ld1 1 rfl, _, o3.ld1 0 rfl, _, o3.ld1 1 rfl, (into_ok _ _ _ _).mono ?_⟩
   rintro _ s35 ⟨rfl, hs35⟩
   subst s35
   obtain ⟨s14, w1, l1, f1⟩ := hput o5 F26 (intoI a c d) (intoI b c d)
   exact ⟨_, rfl, s14, w1, _, _, l1, by simp [clipI, e, e2], f1⟩
end
end Go.Eng.S

namespace Go.Eng.S
open Go Go.Eng Go.Proofs
set_option linter.constructorNameAsVariable false
noncomputable section
open Classical
structure Tv where
 tree : Int
 depth : Int
 fr : Int
 till : Int
def Nd.tv (n : Nd) : Tv := ⟨n.tree, n.depth, n.fr, n.till⟩
def rootT (C : Int → SpC) (i : Int) : Tv := ⟨i, 0, (C i).t0, (C i).t1⟩
def stepT (c : SpC) (u : Tv) : Tv := ⟨u.tree, IntKind.wrap .i64 (u.depth + 1), (clipI c.t0 c.t1 u.fr u.till).1, (clipI c.t0 c.t1 u.fr u.till).2⟩
theorem clipI_idem (a b c d : Int) : clipI (clipI a b c d).1 (clipI a b c d).2 c d = clipI a b c d := by
 unfold clipI
 by_cases h1 : d ≤ c
 ·simp only [if_pos h1]
 ·simp only [if_neg h1]
  have hi : ∀ v, intoI (intoI v c d) c d = intoI v c d := fun v => by
   unfold intoI
   repeat' split
   all_goals omega
  by_cases h2 : b ≤ a
  ·simp only [if_pos h2, Int.le_refl, if_true, hi]
  ·simp only [if_neg h2]
   by_cases h3 : intoI b c d ≤ intoI a c d
   ·have : intoI a c d ≤ intoI b c d := by
     unfold intoI
     repeat' split
     all_goals omega
    have e : intoI b c d = intoI a c d := by omega
    simp only [hi, e, Int.le_refl, if_true]
   ·simp only [if_neg h3, hi]
def tvN (C : Int → SpC) (g : Int → Int) : Nat → Int → Tv
 | 0, i => rootT C i
 | k + 1, i => if g i ≠ 0 then rootT C i else stepT (C i) (tvN C g k (C i).par)
def upI (C : Int → SpC) (g : Int → Int) (N : List Int) : UF := fun i => if i ∈ N ∧ g i = 0 then upC C N i else none
theorem upI_in {C : Int → SpC} {g : Int → Int} {N : List Int} (x y : Int) (h : upI C g N x = some y) : x ∈ N ∧ g x = 0 ∧ upC C N x = some y ∧ y ∈ N := by
 unfold upI at h
 split at h
 ·rename_i hx; exact ⟨hx.1, hx.2, h, upC_in x y h⟩
 ·simp at h
theorem way_to {U : UF} {N : List Int} (hN : ∀ x y, U x = some y → y ∈ N) : ∀ (k : Nat) (x y : Int), x ∈ N → itU U k x = some y → ∃ l, l.length = k ∧ Way U (x :: l) (U y) ∧ ∀ z, z ∈ x :: l → z ∈ N
 | 0, x, y, hx, h => by
  have : x = y := by simpa [itU] using h
  subst this
  exact ⟨[], rfl, rfl, by simpa using hx⟩
 | k + 1, x, y, hx, h => by
  simp only [itU] at h
  cases hu : U x with
  | none => rw [hu] at h; simp at h
  | some z =>
   rw [hu] at h
   obtain ⟨l, h1, h2, h3⟩ := way_to hN k z y (hN x z hu) (by simpa using h)
   exact ⟨z :: l, by simp [h1], ⟨hu, h2⟩, fun w hw => by
    rcases List.mem_cons.1 hw with rfl | hw
    ·exact hx
    ·exact h3 w hw⟩
theorem ends_at {U : UF} {N : List Int} (hN : ∀ x y, U x = some y → y ∈ N) (hr : ∀ x, ¬ Ring U x) {x : Int} (hx : x ∈ N) : itU U N.length x = none := by
 cases h : itU U N.length x with
 | none => rfl
 | some y =>
  obtain ⟨l, h1, h2, h3⟩ := way_to hN _ x y hx h
  have hnd : ¬ (x :: l).Nodup := fun hn => by
   have := nodup_len hn h3
   simp only [List.length_cons] at this
   omega
  obtain ⟨A, y, B, D, e⟩ := not_nodup hnd
  rw [e] at h2
  have k1 := h2.drop (k := A.length)
  rw [List.drop_left] at k1
  have k2 : Way U (y :: B) (some y) := Way.mid (l1 := y :: B) (l2 := D) (by simpa using k1)
  exact absurd k2.ring.1 (hr y)
theorem tvN_stable {C : Int → SpC} {g : Int → Int} {N : List Int} (hp : ∀ i, i ∈ N → g i = 0 → (C i).par ∈ N) : ∀ (k : Nat) (i : Int), i ∈ N → itU (upI C g N) k i = none → ∀ m, k ≤ m → tvN C g m i = tvN C g k i
 | 0, i, _, h, _, _ => by simp [itU] at h
 | k + 1, i, hi, h, m, hm => by
  obtain ⟨m, rfl⟩ : ∃ m', m = m' + 1 := ⟨m - 1, by omega⟩
  simp only [tvN]
  by_cases hg : g i ≠ 0
  ·rw [if_pos hg, if_pos hg]
  ·rw [if_neg hg, if_neg hg]
   have hg : g i = 0 := Classical.byContradiction hg
   have hu : upI C g N i = some (C i).par := by
    unfold upI upC
    rw [if_pos ⟨hi, hg⟩, if_pos (hp i hi hg)]
   simp only [itU, hu, Option.bind_some] at h
   rw [tvN_stable hp k _ (hp i hi hg) h m (by omega)]
def tvOf (C : Int → SpC) (g : Int → Int) (N : List Int) (i : Int) : Tv := tvN C g N.length i
theorem tvOf_root {C : Int → SpC} {g : Int → Int} {N : List Int} {i : Int} (hg : g i ≠ 0) : tvOf C g N i = rootT C i := by
 unfold tvOf
 cases N.length with
 | zero => rfl
 | succ k => simp only [tvN]; rw [if_pos hg]
theorem upI_acy {C : Int → SpC} {g : Int → Int} {N : List Int} (ha : ∀ x, Ring (upC C N) x → ∃ y, Reach (upC C N) x y ∧ g y ≠ 0) (x : Int) : ¬ Ring (upI C g N) x := by
 intro hr
 obtain ⟨y, hy, hg⟩ := ha x (hr.sub fun a b h => (upI_in a b h).2.2.1)
 have key : ∀ {z}, Reach (upC C N) x z → Reach (upI C g N) x z := fun {z} hz => by
  have := closed_reach (U := upC C N) (M := fun z => Reach (upI C g N) x z) (fun a b ha hu => by
   obtain ⟨c, hc, _⟩ := Ring.iff.1 (hr.of_reach ha)
   have e := (upI_in a c hc).2.2.1
   rw [hu] at e
   have : b = c := by simpa using e
   subst this
   exact ha.trans (.one hc)) (.refl x) hz
  exact this
 obtain ⟨c, hc, _⟩ := Ring.iff.1 (hr.of_reach (key hy))
 exact hg (upI_in y c hc).2.1
theorem tvOf_step {C : Int → SpC} {g : Int → Int} {N : List Int} (hp : ∀ i, i ∈ N → g i = 0 → (C i).par ∈ N) (ha : ∀ x, Ring (upC C N) x → ∃ y, Reach (upC C N) x y ∧ g y ≠ 0) {i : Int} (hi : i ∈ N) (hg : g i = 0) : tvOf C g N i = stepT (C i) (tvOf C g N (C i).par) := by
 have h := ends_at (fun x y h => (upI_in x y h).2.2.2) (upI_acy ha) hi
 unfold tvOf
 have h0 : 0 < N.length := List.length_pos_of_mem hi
 obtain ⟨k, hk⟩ : ∃ k, N.length = k + 1 := ⟨N.length - 1, by omega⟩
 rw [hk] at h ⊢
 have hu : upI C g N i = some (C i).par := by
  unfold upI upC
  rw [if_pos ⟨hi, hg⟩, if_pos (hp i hi hg)]
 simp only [itU, hu, Option.bind_some] at h
 have e : tvN C g (k + 1) i = stepT (C i) (tvN C g k (C i).par) := by
  rw [show tvN C g (k + 1) i = if g i ≠ 0 then rootT C i else stepT (C i) (tvN C g k (C i).par) from rfl, if_neg (fun h => h hg)]
 rw [e, tvN_stable hp k _ (hp i hi hg) h (k + 1) (by omega)]
def ltT (T : Int → Tv) (x y : Int) : Prop := (T x).fr < (T y).fr ∨ (T x).fr = (T y).fr ∧ x < y
def Srt (T : Int → Tv) (l : List Int) : Prop := l.Pairwise (ltT T)
end
end Go.Eng.S

