/-
  The abstract interpreter: entries of the model's that are met: math/bits.Add64, math/bits.Sub64.
  The abstract interpreter, arranged for the kernel: each choice is made by a small closed function.
  The abstract interpreter: calls that are known, each by the blocks that it looks at.
-/
import Derived.Test.YteidlkjofcbcmaaEng34
import Derived.Laws.Externs
namespace Go.Eng
noncomputable section
variable {P : Program} {D : Tab}
def ExtOk (P : Program) (f : FuncId) (e : List AV → Option AV) : Prop :=
 ∀ φ as vs a, VRs φ as vs → e as = some a → ∃ v, VR φ a v ∧ ∀ w, (callFunc f vs.toArray).run P w = .ok (.value v) w
def two64 : Nat := 18446744073709551616
def add64 : List AV → Option AV
 | [.int .u64 x, .int .u64 y, .int .u64 c] =>
  (match Nat.ble c.toNat 1 with
  | true => some (.tuple [.int .u64 (Int.ofNat ((x.toNat + y.toNat + c.toNat) % two64)), .int .u64 (Int.ofNat ((x.toNat + y.toNat + c.toNat) / two64))])
  | false => none)
 | _ => none
def sub64 : List AV → Option AV
 | [.int .u64 x, .int .u64 y, .int .u64 c] =>
  (match Nat.ble c.toNat 1 with
  | true => some (.tuple [.int .u64 (Int.ofNat ((x.toNat + two64 - y.toNat - c.toNat) % two64)), .int .u64 (Int.ofNat (match Nat.blt x.toNat (y.toNat + c.toNat) with | true => 1 | false => 0))])
  | false => none)
 | _ => none
def sub64Entry : Array Value → Sem Value := fun args => do
 let (x, y, b) ← Extern.MathBitsCarry.three "Sub64" args
 pure (Extern.MathBitsCarry.pair ((x + Extern.MathBitsCarry.m64 - y - b) % Extern.MathBitsCarry.m64) (if x < y + b then 1 else 0))
theorem run_add64' (x y c : Int) (hc : c.toNat ≤ 1) (w : World) : (add64Entry #[.int .u64 x, .int .u64 y, .int .u64 c]).run P w =
  .ok (.tuple #[.int .u64 (Int.ofNat ((x.toNat + y.toNat + c.toNat) % two64)), .int .u64 (Int.ofNat ((x.toNat + y.toNat + c.toNat) / two64))]) w := by
 cases c with
 | ofNat k =>
  have : k = 0 ∨ k = 1 := by simp at hc; omega
  rcases this with rfl | rfl <;> rfl
 | negSucc k => rfl
theorem run_sub64' (x y c : Int) (hc : c.toNat ≤ 1) (w : World) : (sub64Entry #[.int .u64 x, .int .u64 y, .int .u64 c]).run P w =
  .ok (.tuple #[.int .u64 (Int.ofNat ((x.toNat + two64 - y.toNat - c.toNat) % two64)), .int .u64 (Int.ofNat (if x.toNat < y.toNat + c.toNat then 1 else 0))]) w := by
 cases c with
 | ofNat k =>
  have : k = 0 ∨ k = 1 := by simp at hc; omega
  rcases this with rfl | rfl <;> rfl
 | negSucc k => rfl
theorem add64_ok {f : FuncId} {fn : Func} (hf : P.funcs[f]? = some fn) (hname : (fn.name == "runtime.NumGoroutine") = false) (hb : fn.body.isNone = true) (hn : Extern.findNext fn = none) (he : Extern.find fn = some add64Entry) : ExtOk P f add64 := by
 intro φ as vs a hv h
 unfold add64 at h
 split at h
 ·rename_i x y c
  split at h
  ·rename_i hc
   have hc := ble_true hc
   simp only [Option.some.injEq] at h
   subst h
   cases hv with | cons h1 hv => cases hv with | cons h2 hv => cases hv with | cons h3 hv =>
   cases hv
   cases h1; cases h2; cases h3
   refine ⟨_, .tuple (.cons (.int _ _) (.cons (.int _ _) .nil)), fun w => ?_⟩
   rw [run_callFunc_extern hf hname hb hn he]
   rw [show ([Value.int .u64 x, Value.int .u64 y, Value.int .u64 c] : List Value).toArray = #[.int .u64 x, .int .u64 y, .int .u64 c] from rfl, run_add64' x y c hc]
   rfl
  ·simp at h
 ·simp at h
theorem sub64_ok {f : FuncId} {fn : Func} (hf : P.funcs[f]? = some fn) (hname : (fn.name == "runtime.NumGoroutine") = false) (hb : fn.body.isNone = true) (hn : Extern.findNext fn = none) (he : Extern.find fn = some sub64Entry) : ExtOk P f sub64 := by
 intro φ as vs a hv h
 unfold sub64 at h
 split at h
 ·rename_i x y c
  split at h
  ·rename_i hc
   have hc := ble_true hc
   simp only [Option.some.injEq] at h
   subst h
   cases hv with | cons h1 hv => cases hv with | cons h2 hv => cases hv with | cons h3 hv =>
   cases hv
   cases h1; cases h2; cases h3
   refine ⟨_, .tuple (.cons (.int _ _) (.cons (.int _ _) .nil)), fun w => ?_⟩
   rw [run_callFunc_extern hf hname hb hn he]
   rw [show ([Value.int .u64 x, Value.int .u64 y, Value.int .u64 c] : List Value).toArray = #[.int .u64 x, .int .u64 y, .int .u64 c] from rfl, run_sub64' x y c hc]
   simp only [Result.andThen_ok]
   by_cases hlt : x.toNat < y.toNat + c.toNat
   ·have : Nat.blt x.toNat (y.toNat + c.toNat) = true := by simpa [Nat.blt, Nat.ble_eq] using (show x.toNat + 1 ≤ y.toNat + c.toNat from hlt)
    simp [hlt, this]
   ·have : Nat.blt x.toNat (y.toNat + c.toNat) = false := by
     cases hb : Nat.blt x.toNat (y.toNat + c.toNat)
     ·rfl
     ·exact absurd (blt_true hb) hlt
    simp [hlt, this]
  ·simp at h
 ·simp at h
theorem tabOk_two {f g : FuncId} {e e' : List AV → Option AV} (h : ExtOk P f e) (h' : ExtOk P g e') : TabOk P (Tab.mk' P [(f, e), (g, e')]) := TabOk.mk' fun k x hx => by
 simp only [lookN] at hx
 split at hx
 ·rename_i hk
  simp at hx
  subst hx
  rw [← beq_true hk]; exact h
 ·split at hx
  ·rename_i hk
   simp at hx
   subst hx
   rw [← beq_true hk]; exact h'
  ·simp at hx
def ExtsOk (P : Program) (l : List (FuncId × (List AV → Option AV))) : Prop := ∀ f e, lookN l f = some e → ExtOk P f e
theorem ExtsOk.nil : ExtsOk P [] := fun _ _ h => by simp [lookN] at h
theorem ExtsOk.cons {f : FuncId} {e : List AV → Option AV} {l : List (FuncId × (List AV → Option AV))} (h : ExtOk P f e) (r : ExtsOk P l) : ExtsOk P ((f, e) :: l) := fun k x hx => by
 simp only [lookN] at hx
 split at hx
 ·rename_i hk
  simp at hx
  subst hx
  rw [← beq_true hk]; exact h
 ·exact r k x hx
def XstOk (P : Program) (f : FuncId) (e : St → List AV → Option (AV × St)) : Prop :=
 ∀ φ s w as vs a s', Rel φ s w → VRs φ as vs → e s as = some (a, s') → ∃ φ' w' v, (callFunc f vs.toArray).run P w = .ok (.value v) w' ∧ Stp φ s w φ' s' w' ∧ Rel φ' s' w' ∧ VR φ' a v
def XstsOk (P : Program) (l : List (FuncId × (St → List AV → Option (AV × St)))) : Prop := ∀ f e, lookN l f = some e → XstOk P f e
theorem XstsOk.nil : XstsOk P [] := fun _ _ h => by simp [lookN] at h
theorem XstsOk.cons {f : FuncId} {e : St → List AV → Option (AV × St)} {l : List (FuncId × (St → List AV → Option (AV × St)))} (h : XstOk P f e) (r : XstsOk P l) : XstsOk P ((f, e) :: l) := fun k x hx => by
 simp only [lookN] at hx
 split at hx
 ·rename_i hk
  simp at hx
  subst hx
  rw [← beq_true hk]; exact h
 ·exact r k x hx
end
end Go.Eng

namespace Go.Eng
noncomputable section
def oMove (x : Operand) (_ : Tab) (T : PT AV) (s : St) : Option Do := v1 s (ev T x)
def oPick (c a b : Operand) (_ : Tab) (T : PT AV) (s : St) : Option Do := ev1 T c fun v => v1 s (pickA T v a b)
def oAlloc (t : TypeId) (D : Tab) (_ : PT AV) (s : St) : Option Do := v2 (allocA D s t)
def oBox (x : Operand) (_ : Tab) (T : PT AV) (s : St) : Option Do := ev1 T x fun v => v2 (some (boxA s v))
def oBuild (t : TypeId) (ps : Array (Nat × Operand)) (D : Tab) (T : PT AV) (s : St) : Option Do := match evAll T (ps.toList.map (·.2)) with | some vs => v1 s (buildA D t (ps.toList.map (·.1)) vs) | none => none
def oBuildSlice (t : TypeId) (n : Nat) (ps : Array (Nat × Operand)) (D : Tab) (T : PT AV) (s : St) : Option Do := match evAll T (ps.toList.map (·.2)) with | some vs => v2 (buildSliceA D s t n (ps.toList.map (·.1)) vs) | none => none
def oLoad (t : TypeId) (a : Operand) (D : Tab) (T : PT AV) (s : St) : Option Do := ev1 T a fun p => v1 s (loadX D s t p)
def oStore (t : TypeId) (a v : Operand) (D : Tab) (T : PT AV) (s : St) : Option Do := ev2 T a v fun p x => u1 (storeX D s t p x)
def oNil (x : Operand) (_ : Tab) (T : PT AV) (s : St) : Option Do := ev1 T x fun v => v1 s (nilCheckA v)
def oBin (op : BinOp) (t : TypeId) (x y : Operand) (D : Tab) (T : PT AV) (s : St) : Option Do := ev2 T x y fun a b => v1 s (binA D s op t x y a b)
def oUn (op : UnOp) (x : Operand) (_ : Tab) (T : PT AV) (s : St) : Option Do := ev1 T x fun v => v1 s (unA op v)
def oConv (a b : TypeId) (x : Operand) (D : Tab) (T : PT AV) (s : St) : Option Do := ev1 T x fun v => v2 (convS D s a b v)
def oIface (t : TypeId) (x : Operand) (D : Tab) (T : PT AV) (s : St) : Option Do := ev1 T x fun v => v1 s (ifaceA D t v)
def oFn (fn : Fn) (first caps : Array Operand) (_ : Tab) (T : PT AV) (s : St) : Option Do := fnOp T s fn first caps
def oMakeSlice (t : TypeId) (l c : Operand) (D : Tab) (T : PT AV) (s : St) : Option Do := ev2 T l c fun a b => v2 (makeSliceA D s t a b)
def oSlice (t : TypeId) (x : Operand) (lo hi mx : Option Operand) (D : Tab) (T : PT AV) (s : St) : Option Do := ev1 T x fun v => sliceOp D T s t v lo hi mx
def oFieldAddr (t : TypeId) (x : Operand) (f : Nat) (D : Tab) (T : PT AV) (s : St) : Option Do := ev1 T x fun v => v1 s (fieldAddrA D t v f)
def oField (t : TypeId) (x : Operand) (f : Nat) (D : Tab) (T : PT AV) (s : St) : Option Do := ev1 T x fun v => v1 s (fieldA D t v f)
def oIndexAddr (t : TypeId) (x i : Operand) (D : Tab) (T : PT AV) (s : St) : Option Do := ev2 T x i fun a b => v1 s (indexAddrX D s t a b)
def oIndex (t : TypeId) (x i : Operand) (D : Tab) (T : PT AV) (s : St) : Option Do := ev2 T x i fun a b => v1 s (indexA D t a b)
def oExtract (x : Operand) (i : Nat) (_ : Tab) (T : PT AV) (s : St) : Option Do := ev1 T x fun v => v1 s (extractA v i)
def oCall (c : Call) (D : Tab) (T : PT AV) (s : St) : Option Do := callOp D T s c
def oOther (op : Op) (D : Tab) (T : PT AV) (s : St) : Option Do := opA D T s op
def opF (op : Op) : Tab → PT AV → St → Option Do :=
 match op with
 | .move x => oMove x
 | .assign x => oMove x
 | .pick c a b => oPick c a b
 | .alloc t => oAlloc t
 | .box _ x => oBox x
 | .build t ps => oBuild t ps
 | .buildSlice t n ps => oBuildSlice t n ps
 | .load t a => oLoad t a
 | .store t a v => oStore t a v
 | .nilCheck x => oNil x
 | .binOp op t x y _ => oBin op t x y
 | .unOp op _ x => oUn op x
 | .convert a b x => oConv a b x
 | .makeInterface t x => oIface t x
 | .makeFunc fn first caps => oFn fn first caps
 | .makeSlice t l c => oMakeSlice t l c
 | .slice t x lo hi mx => oSlice t x lo hi mx
 | .fieldAddr t x f => oFieldAddr t x f
 | .field t x f => oField t x f
 | .indexAddr t x i => oIndexAddr t x i
 | .index t x i => oIndex t x i
 | .extract x i => oExtract x i
 | .call c => oCall c
 | op => oOther op
theorem opF_eq (op : Op) (D : Tab) (T : PT AV) (s : St) : opF op D T s = opA D T s op := by cases op <;> rfl
abbrev Outs := Option (List (AV × St))
def doVal (v : AV) (s' : St) (_ : Tab) (_ : Rec) (_ : Merge) (_ : St) : Outs := some [(v, s')]
def doEnter (g : FuncId) (args : List AV) (D : Tab) (rec : Rec) (mg : Merge) (s : St) : Outs := callF D rec mg g args s
def doRound (l : Nat) (args : List AV) (_ : Tab) (rec : Rec) (_ : Merge) (s : St) : Outs := roundF rec l args s
def doNext (it : AV) (str : Bool) (_ : Tab) (_ : Rec) (_ : Merge) (s : St) : Outs := nextA s it str
def doNo (_ : Tab) (_ : Rec) (_ : Merge) (_ : St) : Outs := none
def doF (d : Option Do) : Tab → Rec → Merge → St → Outs :=
 match d with
 | none => doNo
 | some (.val v s') => doVal v s'
 | some (.enter g args) => doEnter g args
 | some (.round l args) => doRound l args
 | some (.next it str) => doNext it str
def operF (D : Tab) (rec : Rec) (mg : Merge) (T : PT AV) (s : St) (op : Op) : Outs := doF (opF op D T s) D rec mg s
theorem operF_eq (D : Tab) (rec : Rec) (mg : Merge) (T : PT AV) (s : St) (op : Op) : operF D rec mg T s op = oper D rec mg T s op := by
 unfold operF oper
 rw [opF_eq]
 cases opA D T s op with
 | none => rfl
 | some d => cases d <;> rfl
abbrev SeqK := Tab → Rec → Merge → Array Oper → Cf → Option (List Cf)
def setCf (cf : Cf) (o : Oper) (v : AV) (s : St) : Cf := { cf with t := putA cf.t cf.n o.dst v, s }
def skipCf (cf : Cf) (o : Oper) : Cf := { cf with t := putA cf.t cf.n o.dst .undef }
def sqNone (_ : Oper) (_ : SeqK) : SeqK := fun _ _ _ _ _ => none
def sqSkip (o : Oper) (ih : SeqK) : SeqK := fun D rec mg ops cf => ih D rec mg ops (skipCf cf o)
def sqOne (v : AV) (s : St) (o : Oper) (ih : SeqK) : SeqK := fun D rec mg ops cf => ih D rec mg ops (setCf cf o v s)
def sqMany (l : List (AV × St)) (o : Oper) (ih : SeqK) : SeqK := fun D rec mg ops cf => bindL l fun x => ih D rec mg ops (setCf cf o x.1 x.2)
def sqOuts (l : Outs) : Oper → SeqK → SeqK :=
 match l with
 | none => sqNone
 | some [(v, s)] => sqOne v s
 | some l => sqMany l
def sqDo (o : Oper) (ih : SeqK) : SeqK := fun D rec mg ops cf => sqOuts (operF D rec mg cf.t cf.s o.op) o ih D rec mg ops cf
def sqGuard (g : Option Bool) : Oper → SeqK → SeqK :=
 match g with
 | none => sqNone
 | some false => sqSkip
 | some true => sqDo
def sqStep (o : Oper) (ih : SeqK) : SeqK := fun D rec mg ops cf => sqGuard (guardOk cf.t ops o) o ih D rec mg ops cf
def sqEnd : SeqK := fun _ _ _ _ cf => some [cf]
def seqF (l : List Oper) : SeqK := List.rec (motive := fun _ => SeqK) sqEnd (fun o _ ih => sqStep o ih) l
theorem seqF_eq (D : Tab) (rec : Rec) (mg : Merge) (ops : Array Oper) : ∀ (l : List Oper) (cf : Cf), seqF l D rec mg ops cf = seqOps D rec mg ops l cf
 | [], _ => rfl
 | o :: r, cf => by
  have ih := seqF_eq D rec mg ops r
  show sqGuard (guardOk cf.t ops o) o (seqF r) D rec mg ops cf = _
  simp only [seqOps]
  cases guardOk cf.t ops o with
  | none => rfl
  | some b =>
   cases b with
   | false => exact ih _
   | true =>
    show sqOuts (operF D rec mg cf.t cf.s o.op) o (seqF r) D rec mg ops cf = _
    rw [operF_eq]
    cases oper D rec mg cf.t cf.s o.op with
    | none => rfl
    | some l =>
     have e : (fun x : AV × St => seqF r D rec mg ops (setCf cf o x.1 x.2)) = fun x => seqOps D rec mg ops r (setCf cf o x.1 x.2) := by
      funext x; exact ih _
     cases l with
     | nil => rfl
     | cons x q =>
      cases q with
      | nil => exact ih _
      | cons y q =>
       show bindL (x :: y :: q) (fun x => seqF r D rec mg ops (setCf cf o x.1 x.2)) = _
       rw [e]
       rfl
abbrev DrK := Nat → Nat → Oper → Rg → PT AV → Tab → Rec → Merge → Array Oper → List Nat → Nat → Nat → Option Rg
def setRg (g : Rg) (n : Nat) (o : Oper) (v : AV) : Rg :=
 match g with
 | ⟨t, s, pend, past, reads⟩ => ⟨putA t n o.dst v, s, pend, past, reads⟩
def addRead (g : Rg) (x : Nat × Op × PT AV × AV) : Rg :=
 match g with
 | ⟨t, s, pend, past, reads⟩ => ⟨t, s, pend, past, x :: reads⟩
def addPend (g : Rg) (x : Nat × Nat × AObj) : Rg :=
 match g with
 | ⟨t, s, pend, past, reads⟩ => ⟨t, s, x :: pend, past, reads⟩
def drNone : DrK := fun _ _ _ _ _ _ _ _ _ _ _ _ => none
def drSkip : DrK := fun _ _ o g _ _ _ _ _ _ _ n => some (setRg g n o .undef)
def drPureV (v : Option AV) (g : Rg) (n : Nat) (o : Oper) : Option Rg := match v with | none => none | some v => some (setRg g n o v)
def readF (D : Tab) (T : PT AV) (s : St) (op : Op) : Option AV := match opF op D T s with | some (.val v _) => some v | _ => none
def drPure : DrK := fun _ _ o g T D _ _ _ _ _ n => drPureV (readF D T g.s o.op) g n o
def flushSt (m : Nat) (g : Rg) : St := match g with | ⟨_, ⟨h, nx, nc, fs⟩, pend, _, _⟩ => ⟨flush m pend h, nx, nc, fs⟩
def drReadV (v : Option AV) (i m : Nat) (o : Oper) (g : Rg) (T : PT AV) (D : Tab) (n : Nat) : Option Rg :=
 match v with
 | none => none
 | some v => match pastOk D T o.op m g.pend v g.past with | true => some (addRead (setRg g n o v) (i, o.op, T, v)) | false => none
def drRead : DrK := fun i m o g T D _ _ _ _ _ n => drReadV (readF D T (flushSt m g) o.op) i m o g T D n
def drAllocB (ob : Option AObj) (v : AV) (b i : Nat) (o : Oper) (g : Rg) (n : Nat) : Option Rg :=
 match ob with
 | some ob => some (addPend (setRg g n o v) (i, b, ob))
 | none => none
def drAllocV (d : Option Do) (b i : Nat) (o : Oper) (g : Rg) (n : Nat) : Option Rg :=
 match d with
 | some (.val v s') => drAllocB (s'.h.get b) v b i o g n
 | _ => none
def drAlloc : DrK := fun i _ o g T D _ _ _ _ base n => drAllocV (opF o.op D T { g.s with nx := base + i }) (base + i) i o g n
def drHeavyR (rs : Option (List (Nat × Op × PT AV × AV))) (v : AV) (s' : St) (i m : Nat) (o : Oper) (g : Rg) (n : Nat) : Option Rg :=
 match rs with
 | some reads => (match g with | ⟨t, s, pend, past, _⟩ => some ⟨putA t n o.dst v, s', keep m pend, (i, s) :: past, reads⟩)
 | none => none
def drHeavyV (l : Outs) (i m : Nat) (o : Oper) (g : Rg) (D : Tab) (ms : List Nat) (n : Nat) : Option Rg :=
 match l with
 | some [(v, s')] => drHeavyR (readsOk D ms m (keep m g.pend) s' g.reads) v s' i m o g n
 | _ => none
def drHeavy : DrK := fun i m o g T D rec mg _ ms _ n =>
 match allPast m g.past with
 | true => drHeavyV (operF D rec mg T (flushSt m g) o.op) i m o g D ms n
 | false => none
def drKind (k : OpK) : DrK := match k with | .pure => drPure | .read => drRead | .alloc => drAlloc | .heavy => drHeavy
def drDo : DrK := fun i m o g T D rec mg ops ms base n => drKind (kindOf D o.op) i m o g T D rec mg ops ms base n
def drGuard (g : Option Bool) : DrK := match g with | none => drNone | some false => drSkip | some true => drDo
def drOne : DrK := fun i m o g T D rec mg ops ms base n => drGuard (guardOk T ops o) i m o g T D rec mg ops ms base n
theorem readF_eq (D : Tab) (T : PT AV) (s : St) (op : Op) : readF D T s op = readAt D T s op := by
 unfold readF readAt
 rw [opF_eq]
 cases opA D T s op with
 | none => rfl
 | some d => cases d <;> rfl
theorem drOne_eq (D : Tab) (rec : Rec) (mg : Merge) (ops : Array Oper) (ms : List Nat) (base n i : Nat) (o : Oper) (m : Nat) (g : Rg) (T : PT AV) :
  drOne i m o g T D rec mg ops ms base n = drawOne D rec mg ops ms base n i o m g T := by
 obtain ⟨t, ⟨h, nx, nc, fs⟩, pend, past, reads⟩ := g
 unfold drOne drawOne
 cases guardOk T ops o with
 | none => rfl
 | some b =>
  cases b with
  | false => rfl
  | true =>
   show drKind (kindOf D o.op) _ _ _ _ _ _ _ _ _ _ _ _ = _
   cases kindOf D o.op with
   | pure =>
    show drPureV (readF D T _ o.op) _ _ _ = _
    rw [readF_eq]
    simp only
    cases readAt D T ⟨h, nx, nc, fs⟩ o.op <;> rfl
   | read =>
    show drReadV (readF D T _ o.op) _ _ _ _ _ _ _ = _
    rw [readF_eq]
    show drReadV (readAt D T ⟨flush m pend h, nx, nc, fs⟩ o.op) _ _ _ _ _ _ _ = _
    simp only
    cases readAt D T ⟨flush m pend h, nx, nc, fs⟩ o.op with
    | none => rfl
    | some v =>
     simp only [drReadV]
     cases pastOk D T o.op m pend v past <;> rfl
   | alloc =>
    show drAllocV (opF o.op D T _) _ _ _ _ _ = _
    rw [opF_eq]
    simp only
    cases opA D T ⟨h, base + i, nc, fs⟩ o.op with
    | none => rfl
    | some d =>
     cases d with
     | val v s' =>
      show drAllocB (s'.h.get (base + i)) _ _ _ _ _ _ = _
      simp only
      cases s'.h.get (base + i) <;> rfl
     | _ => rfl
   | heavy =>
    show (match allPast m past with | true => drHeavyV (operF D rec mg T ⟨flush m pend h, nx, nc, fs⟩ o.op) _ _ _ _ _ _ _ | false => none) = _
    rw [operF_eq]
    simp only
    cases allPast m past with
    | false => rfl
    | true =>
     simp only [if_true]
     cases oper D rec mg T ⟨flush m pend h, nx, nc, fs⟩ o.op with
     | none => rfl
     | some l =>
      cases l with
      | nil => rfl
      | cons x q =>
       cases q with
       | cons y q => rfl
       | nil =>
        obtain ⟨v, s'⟩ := x
        simp only [drHeavyV]
        cases readsOk D ms m (keep m pend) s' reads <;> rfl
abbrev DsK := Nat → Rg → Tab → Rec → Merge → Array Oper → List Nat → Nat → Nat → Option Rg
def dsNext (g : Option Rg) (ih : DsK) (i : Nat) (D : Tab) (rec : Rec) (mg : Merge) (ops : Array Oper) (ms : List Nat) (base n : Nat) : Option Rg :=
 match g with
 | some g => forceN (Nat.succ i) fun i => ih i g D rec mg ops ms base n
 | none => none
def dsStep (x : Oper × Nat) (ih : DsK) : DsK := fun i g D rec mg ops ms base n => dsNext (drOne i x.2 x.1 g (cut g.t (looksOf ops x.1)) D rec mg ops ms base n) ih i D rec mg ops ms base n
def dsEnd : DsK := fun _ g _ _ _ _ _ _ _ => some g
def drawsF (l : List (Oper × Nat)) : DsK := List.rec (motive := fun _ => DsK) dsEnd (fun x _ ih => dsStep x ih) l
theorem drawsF_eq (D : Tab) (rec : Rec) (mg : Merge) (ops : Array Oper) (ms : List Nat) (base n : Nat) : ∀ (l : List (Oper × Nat)) (i : Nat) (g : Rg), drawsF l i g D rec mg ops ms base n = drawOps D rec mg ops ms base n i l g
 | [], _, _ => rfl
 | (o, m) :: r, i, g => by
  show dsNext (drOne i m o g (cut g.t (looksOf ops o)) D rec mg ops ms base n) (drawsF r) i D rec mg ops ms base n = _
  rw [drOne_eq]
  simp only [drawOps]
  cases drawOne D rec mg ops ms base n i o m g (cut g.t (looksOf ops o)) with
  | none => rfl
  | some g' =>
   show (forceN (Nat.succ i) fun i => drawsF r i g' D rec mg ops ms base n) = drawOps D rec mg ops ms base n (i + 1) r g'
   rw [forceN_eq]
   exact drawsF_eq D rec mg ops ms base n r (i + 1) g'
def drawEnd (g : Option Rg) (cf : Cf) : Option (List Cf) :=
 match g with
 | some ⟨t, ⟨h, nx, nc, fs⟩, pend, _, _⟩ => (match cf with | ⟨_, n, _, ds⟩ => some [⟨t, n, ⟨flushAll pend h, nx, nc, fs⟩, ds⟩])
 | none => none
def drawGo (ops : Array Oper) (ms : List Nat) (D : Tab) (rec : Rec) (mg : Merge) (cf : Cf) : Option (List Cf) :=
 drawEnd (drawsF (ops.toList.zip ms) 0 { t := cf.t, s := { cf.s with nx := cf.s.nx + ops.size }, pend := [], past := [], reads := [] } D rec mg ops ms cf.s.nx cf.n) cf
def drawF (ops : Array Oper) (D : Tab) (rec : Rec) (mg : Merge) (cf : Cf) : Option (List Cf) :=
 match regOk ops with
 | true => drawGo ops (masks ops.toList) D rec mg cf
 | false => none
theorem drawF_eq (ops : Array Oper) (D : Tab) (rec : Rec) (mg : Merge) (cf : Cf) : drawF ops D rec mg cf = drawReg D rec mg ops cf := by
 unfold drawF drawReg
 cases regOk ops with
 | false => rfl
 | true =>
  show drawEnd (drawsF _ _ _ _ _ _ _ _ _ _) cf = _
  rw [drawsF_eq]
  simp only [if_true]
  cases drawOps D rec mg ops (masks ops.toList) cf.s.nx cf.n 0 (ops.toList.zip (masks ops.toList)) { t := cf.t, s := { cf.s with nx := cf.s.nx + ops.size }, pend := [], past := [], reads := [] } with
  | none => rfl
  | some g => obtain ⟨t, ⟨h, nx, nc, fs⟩, pend, past, reads⟩ := g; rfl
abbrev CoK := Tab → Merge → Rec → Nat → Option Nat → FuncId → Cf → Option (List (Ex × Cf))
def cSkip : CoK := fun _ _ _ _ _ _ cf => some [(.normal, cf)]
def cRet : CoK := fun _ _ _ _ _ _ cf => some [(.ret, cf)]
def cExit (id : Nat) : CoK := fun _ _ _ _ _ _ cf => some [(.exit id, cf)]
def seqMany (outs : List (Ex × Cf)) (b : Code) (ih : Rec) (rnd : Option Nat) (fn : FuncId) : Option (List (Ex × Cf)) :=
 bindL outs fun
  | (.normal, cf') => ih rnd fn b cf'
  | x => some [x]
def seqNext (outs : Option (List (Ex × Cf))) (b : Code) (ih : Rec) (rnd : Option Nat) (fn : FuncId) : Option (List (Ex × Cf)) :=
 match outs with
 | none => none
 | some [(.normal, cf')] => ih rnd fn b cf'
 | some outs => seqMany outs b ih rnd fn
def cSeq (a b : Code) : CoK := fun _ _ ih _ rnd fn cf => seqNext (ih rnd fn a cf) b ih rnd fn
def condGo (v : Option AV) (a b : Code) (ih : Rec) (rnd : Option Nat) (fn : FuncId) (cf : Cf) : Option (List (Ex × Cf)) :=
 match v with
 | some (.bool true) => ih rnd fn a cf
 | some (.bool false) => ih rnd fn b cf
 | _ => none
def cCond (c : Operand) (a b : Code) : CoK := fun _ _ ih _ rnd fn cf => condGo (ev cf.t c) a b ih rnd fn cf
def blockEnd (id : Nat) (outs : Option (List (Ex × Cf))) : Option (List (Ex × Cf)) :=
 match outs with
 | none => none
 | some outs => some (outs.map fun
  | (.exit i, cf') => if Nat.beq i id then (.normal, cf') else (.exit i, cf')
  | x => x)
def cBlock (id : Nat) (a : Code) : CoK := fun _ _ ih _ rnd fn cf => blockEnd id (ih rnd fn a cf)
def cScope (a : Code) : CoK := fun _ _ ih _ rnd fn cf => ih rnd fn a cf
def loopOr (l : Option (List (Ex × Cf))) (a : Code) (ih : Rec) (rnd : Option Nat) (fn : FuncId) (cf : Cf) : Option (List (Ex × Cf)) :=
 match l with
 | some l => some l
 | none => seqNext (ih rnd fn a cf) (.loop a) ih rnd fn
def cLoop (a : Code) : CoK := fun _ mg ih _ rnd fn cf => loopOr (mg.lp rnd fn a cf) a ih rnd fn cf
def regEnd (l : Option (List Cf)) : Option (List (Ex × Cf)) := match l with | some l => some (normals l) | none => none
def forkJoin (a b : Option (List Cf)) : Option (List Cf) :=
 match a, b with
 | some a, some b => some (a ++ b)
 | _, _ => none
def forkAsk (y : Option Bool) (f : Fm) (ih : Cf → Option (List Cf)) (cf : Cf) : Option (List Cf) :=
 match y with
 | some true => ih (withF cf f)
 | some false => ih (withF cf f.neg)
 | none => forkJoin (ih (withF cf f)) (ih (withF cf f.neg))
def forkNeed (orc : List Fm → Fm → Option Bool) (f : Option Fm) (ih : Cf → Option (List Cf)) (cf : Cf) : Option (List Cf) :=
 match f with
 | none => none
 | some f => forkAsk (orc cf.s.fs f) f ih cf
def forkOr (orc : List Fm → Fm → Option Bool) (l : Option (List Cf)) (need : Cf → Option Fm) (ih : Cf → Option (List Cf)) (cf : Cf) : Option (List Cf) :=
 match l with
 | some l => some l
 | none => forkNeed orc (need cf) ih cf
def forkF (orc : List Fm → Fm → Option Bool) (go : Cf → Option (List Cf)) (need : Cf → Option Fm) (d : Nat) : Cf → Option (List Cf) :=
 Nat.rec (motive := fun _ => Cf → Option (List Cf)) go (fun _ ih cf => forkOr orc (go cf) need ih cf) d
theorem forkF_eq (orc : List Fm → Fm → Option Bool) (go : Cf → Option (List Cf)) (need : Cf → Option Fm) : ∀ (d : Nat) (cf : Cf), forkF orc go need d cf = forks orc go need d cf
 | 0, cf => rfl
 | d + 1, cf => by
  show forkOr orc (go cf) need (forkF orc go need d) cf = _
  have ih : forkF orc go need d = forks orc go need d := funext (forkF_eq orc go need d)
  rw [ih]
  simp only [forks]
  cases go cf with
  | some l => rfl
  | none =>
   show forkNeed orc (need cf) (forks orc go need d) cf = _
   cases need cf with
   | none => rfl
   | some f =>
    show forkAsk (orc cf.s.fs f) f (forks orc go need d) cf = _
    simp only []
    cases orc cf.s.fs f with
    | some y => cases y <;> rfl
    | none =>
     show forkJoin (forks orc go need d (withF cf f)) (forks orc go need d (withF cf f.neg)) = _
     simp only []
     cases forks orc go need d (withF cf f) <;> cases forks orc go need d (withF cf f.neg) <;> rfl
def needF (ops : Array Oper) (D : Tab) (cf : Cf) : Option Fm := needOps D ops cf.n cf.s ops.toList cf.t
def cDraw (ops : Array Oper) : CoK := fun D mg ih _ _ _ cf => regEnd (forkF mg.orc (drawF ops D ih mg) (needF ops D) 16 cf)
def cText (ops : Array Oper) : CoK := fun D mg ih _ _ _ cf => regEnd (forkF mg.orc (seqF ops.toList D ih mg ops) (needF ops D) 16 cf)
def cRegion (ops : Array Oper) (draw : Bool) : CoK := match draw with | true => cDraw ops | false => cText ops
def cOther (code : Code) : CoK := fun D mg _ f rnd fn cf => run D mg (f + 1) rnd fn code cf
def codeF (code : Code) : CoK :=
 match code with
 | .skip => cSkip
 | .label _ => cSkip
 | .ret => cRet
 | .exit id => cExit id
 | .seq a b => cSeq a b
 | .cond c a b => cCond c a b
 | .block id a => cBlock id a
 | .scope a => cScope a
 | .loop a => cLoop a
 | .region _ ops draw => cRegion ops draw
 | code => cOther code
def goF (D : Tab) (mg : Merge) (f : Nat) : Rec :=
 Nat.rec (motive := fun _ => Rec) (fun _ _ _ _ => none) (fun f ih rnd fn code cf => codeF code D mg ih f rnd fn cf) f
theorem goF_eq (D : Tab) (mg : Merge) : ∀ f, goF D mg f = run D mg f
 | 0 => by funext rnd fn code cf; rfl
 | f + 1 => by
  have ih := goF_eq D mg f
  funext rnd fn code cf
  show codeF code D mg (goF D mg f) f rnd fn cf = _
  rw [ih]
  cases code with
  | seq a b =>
   show seqNext (run D mg f rnd fn a cf) b _ rnd fn = _
   simp only [run]
   cases run D mg f rnd fn a cf with
   | none => rfl
   | some l =>
    cases l with
    | nil => rfl
    | cons x q => obtain ⟨e, c⟩ := x; cases q <;> cases e <;> rfl
  | loop a =>
   show loopOr (mg.lp rnd fn a cf) a (run D mg f) rnd fn cf = _
   simp only [run]
   cases mg.lp rnd fn a cf with
   | some l => rfl
   | none =>
   show seqNext (run D mg f rnd fn a cf) (.loop a) _ rnd fn = _
   simp only []
   cases run D mg f rnd fn a cf with
   | none => rfl
   | some l =>
    cases l with
    | nil => rfl
    | cons x q => obtain ⟨e, c⟩ := x; cases q <;> cases e <;> rfl
  | cond c a b =>
   show condGo (ev cf.t c) a b _ rnd fn cf = _
   simp only [run]
   cases ev cf.t c with
   | none => rfl
   | some v =>
    cases v with
    | bool b => cases b <;> rfl
    | _ => rfl
  | block id a =>
   show blockEnd id (run D mg f rnd fn a cf) = _
   simp only [run]
   cases run D mg f rnd fn a cf <;> rfl
  | region id ops draw =>
   cases draw with
   | true =>
    show regEnd (forkF mg.orc (drawF ops D (run D mg f) mg) (needF ops D) 16 cf) = _
    rw [forkF_eq, show drawF ops D (run D mg f) mg = drawReg D (run D mg f) mg ops from funext (drawF_eq ops D (run D mg f) mg)]
    simp only [run, if_true]
    show regEnd (forks mg.orc (drawReg D (run D mg f) mg ops) (needF ops D) 16 cf) = match forks mg.orc (drawReg D (run D mg f) mg ops) (needF ops D) 16 cf with | some l => some (normals l) | none => none
    cases forks mg.orc (drawReg D (run D mg f) mg ops) (needF ops D) 16 cf <;> rfl
   | false =>
    show regEnd (forkF mg.orc (seqF ops.toList D (run D mg f) mg ops) (needF ops D) 16 cf) = _
    rw [forkF_eq, show seqF ops.toList D (run D mg f) mg ops = seqOps D (run D mg f) mg ops ops.toList from funext (seqF_eq D (run D mg f) mg ops ops.toList)]
    simp only [run, Bool.false_eq_true, if_false]
    show regEnd (forks mg.orc (seqOps D (run D mg f) mg ops ops.toList) (needF ops D) 16 cf) = match forks mg.orc (seqOps D (run D mg f) mg ops ops.toList) (needF ops D) 16 cf with | some l => some (normals l) | none => none
    cases forks mg.orc (seqOps D (run D mg f) mg ops ops.toList) (needF ops D) 16 cf <;> rfl
  | _ => rfl
end
end Go.Eng

namespace Go.Eng
noncomputable section
variable {P : Program} {D : Tab}
def hp : List (Nat × AObj) → PT AObj
 | [] => .nil
 | (b, o) :: r => (hp r).set b o
def expand : List (Nat × AV) → List AV
 | [] => []
 | (n, x) :: r => List.replicate n x ++ expand r
def rl (l : List (Nat × AV)) : PT AV := PT.setAll .nil 0 (expand l)
def bs (l : List Nat) : ByteArray := ⟨(l.map UInt8.ofNat).toArray⟩
def has (h : PT AObj) : List (Nat × AObj) → Bool
 | [] => true
 | (b, o) :: r => match h.get b with | some x => (match eqObj x o with | true => has h r | false => false) | none => false
def dels (h : PT AObj) : List (Nat × AObj) → PT AObj
 | [] => h
 | (b, _) :: r => (dels h r).del b
def adds (h : PT AObj) : List (Nat × AObj) → PT AObj
 | [] => h
 | (b, o) :: r => (adds h r).set b o
structure Known where
 g : FuncId
 args : List AV
 dom : List (Nat × AObj)
 nx : Nat
 nc : Nat
 outs : List (AV × List (Nat × AObj) × Nat × Nat)
def Known.st (k : Known) : St := { h := hp k.dom, nx := k.nx, nc := k.nc, fs := [] }
def Known.ends (k : Known) : List (AV × St) := k.outs.map fun x => (x.1, { h := hp x.2.1, nx := x.2.2.1, nc := x.2.2.2, fs := [] })
def Known.over (k : Known) (s : St) : List (AV × St) := k.outs.map fun x => (x.1, { h := adds (dels s.h k.dom) x.2.1, nx := x.2.2.1, nc := x.2.2.2, fs := s.fs })
def Known.fits (k : Known) (args : List AV) (s : St) : Bool :=
 match Nat.beq s.nx k.nx with
 | false => false
 | true =>
  match Nat.beq s.nc k.nc with
  | false => false
  | true =>
   match eqL (eqAV 6) args k.args with
   | false => false
   | true => has s.h k.dom
def memoOf : List Known → FuncId → List AV → St → Option (List (AV × St))
 | [], _, _, _ => none
 | k :: r, g, args, s =>
  match Nat.beq g k.g with
  | false => memoOf r g args s
  | true => match k.fits args s with | true => some (k.over s) | false => memoOf r g args s
def mergeK (l : List Known) : Merge := { mg := mergeAll, memo := memoOf l, lp := fun _ _ _ _ => none, orc := fun _ _ => none }
theorem hp_get : ∀ {l : List (Nat × AObj)} {b : Nat} {o : AObj}, (hp l).get b = some o → (b, o) ∈ l
 | [], b, o, h => by simp [hp] at h
 | (c, x) :: r, b, o, h => by
  simp only [hp, PT.get_set] at h
  split at h
  ·rename_i e
   subst e
   simp at h
   subst h
   exact List.mem_cons_self ..
  ·exact List.mem_cons_of_mem _ (hp_get h)
theorem hp_some : ∀ {l : List (Nat × AObj)} {b : Nat} {o : AObj}, (b, o) ∈ l → ((hp l).get b).isSome = true
 | [], b, o, h => by simp at h
 | (c, x) :: r, b, o, h => by
  simp only [hp, PT.get_set]
  split
  ·rfl
  ·rename_i e
   rcases List.mem_cons.1 h with h | h
   ·simp at h; exact absurd h.1 e
   ·exact hp_some h
theorem has_ok {h : PT AObj} : ∀ {l : List (Nat × AObj)}, has h l = true → ∀ b o, (b, o) ∈ l → h.get b = some o
 | [], _, b, o, hm => by simp at hm
 | (c, x) :: r, hh, b, o, hm => by
  simp only [has] at hh
  split at hh
  ·rename_i y hy
   split at hh
   ·rename_i he
    have := eqObj_ok he
    subst this
    rcases List.mem_cons.1 hm with hm | hm
    ·simp at hm
     obtain ⟨rfl, rfl⟩ := hm
     exact hy
    ·exact has_ok hh b o hm
   ·simp at hh
  ·simp at hh
theorem dels_get {h : PT AObj} : ∀ {l : List (Nat × AObj)} {b : Nat} {o : AObj}, (dels h l).get b = some o → h.get b = some o ∧ ∀ x, (b, x) ∉ l
 | [], b, o, hb => ⟨hb, by simp⟩
 | (c, x) :: r, b, o, hb => by
  simp only [dels, PT.get_del] at hb
  split at hb
  ·simp at hb
  ·rename_i e
   obtain ⟨h1, h2⟩ := dels_get hb
   refine ⟨h1, fun y hy => ?_⟩
   rcases List.mem_cons.1 hy with hy | hy
   ·simp at hy; exact e hy.1
   ·exact h2 y hy
theorem adds_get {h : PT AObj} : ∀ {l : List (Nat × AObj)} {b : Nat} {o : AObj}, (adds h l).get b = some o → (hp l).get b = some o ∨ ((hp l).get b = none ∧ h.get b = some o)
 | [], b, o, hb => .inr ⟨rfl, hb⟩
 | (c, x) :: r, b, o, hb => by
  simp only [adds, PT.get_set] at hb
  simp only [hp, PT.get_set]
  by_cases e : b = c
  ·simp only [if_pos e] at hb ⊢
   exact .inl hb
  ·simp only [if_neg e] at hb ⊢
   exact adds_get hb
theorem frame_ok {k : Known} (hk : CallAt P k.g k.args k.st k.ends) {s : St} (hf : k.fits k.args s = true) : CallAt P k.g k.args s (k.over s) := by
 unfold Known.fits at hf
 split at hf
 ·simp at hf
 ·rename_i hnx
  split at hf
  ·simp at hf
  ·rename_i hnc
   split at hf
   ·simp at hf
   ·have hnx := beq_true hnx
    have hnc := beq_true hnc
    have hh := has_ok hf
    intro φ vals w cs hr hv
    have hsub : ∀ b o, (hp k.dom).get b = some o → s.h.get b = some o := fun b o h => hh b o (hp_get h)
    have hr0 : Rel φ k.st w := by
     have := ((hr.less hsub).1.fewer (fs := []) (by simp)).1
     unfold Known.st
     rw [← hnx, ← hnc]
     exact this
    obtain ⟨v, s', hm, φ', u, w', fr, q1, q2, q3, q4, q5, q6⟩ := hk φ vals w cs hr0 hv
    obtain ⟨x, hx, he⟩ := List.mem_map.1 hm
    simp only [Prod.mk.injEq] at he
    obtain ⟨rfl, rfl⟩ := he
    refine ⟨x.1, _, List.mem_map.2 ⟨x, hx, rfl⟩, φ', u, w', fr, ?_, ?_, q3, q4, q5, q6⟩
    all_goals
     have hsplit : ∀ b o, (adds (dels s.h k.dom) x.2.1).get b = some o → (hp x.2.1).get b = some o ∨ (s.h.get b = some o ∧ (hp k.dom).get b = none) := by
      intro b o hb
      rcases adds_get hb with h | ⟨_, h⟩
      ·exact .inl h
      ·obtain ⟨h1, h2⟩ := dels_get h
       refine .inr ⟨h1, ?_⟩
       cases hx : (hp k.dom).get b with
       | none => rfl
       | some y => exact absurd (hp_get hx) (h2 y)
     have hold' : ∀ b, b < s.nx → φ'.blk b = φ.blk b := fun b hb => q1.old b (by show b < k.nx; rw [← hnx]; exact hb)
     have hout : ∀ b o, s.h.get b = some o → (hp k.dom).get b = none → ∀ r sh, φ'.blk b = some (r, sh) → ∃ ro, φ.blk b = some (r, sh) ∧ w.heap[r]? = some ro ∧ OR φ sh o ro ∧ w'.heap[r]? = some ro ∧ ∀ c sh', ((hp k.dom).get c).isSome = true → φ.blk c ≠ some (r, sh') := by
      intro b o hb hn r sh hbr
      have h1 : φ.blk b = some (r, sh) := by rw [← hold' b (hr.dom_lt (by simp [hb]))]; exact hbr
      obtain ⟨ro, h2, h3⟩ := hr.objS hb h1
      have hne : ∀ c sh', ((hp k.dom).get c).isSome = true → φ.blk c ≠ some (r, sh') := by
       intro c sh' hc hcr
       obtain ⟨y, hy⟩ := Option.isSome_iff_exists.1 hc
       have := hr.inj b c r sh sh' (by simp [hb]) (by simp [hsub c y hy]) h1 hcr
       subst this
       rw [hn] at hy
       simp at hy
      refine ⟨ro, h1, h2, h3, ?_, hne⟩
      rw [q1.keep r (Array.getElem?_eq_some_iff.1 h2).1 (fun c sh' hc => hne c sh' (ownB.some hc))]
      exact h2
    ·refine ⟨q1.ext, fun b r sh hb hbr => ?_, fun b r sh hb hbr => ?_, fun r hrl hn => ?_, q1.size, q1.os, q1.out, q1.tape, ?_, ?_, ?_, q1.shape, q1.dr⟩
     ·obtain ⟨o, ho⟩ := Option.isSome_iff_exists.1 hb
      rcases hsplit b o ho with h | ⟨h, hn⟩
      ·rcases q1.own b r sh (by simp [h]) hbr with h1 | ⟨b0, sh0, h1, h2⟩
       ·exact .inl h1
       ·obtain ⟨y, hy⟩ := Option.isSome_iff_exists.1 h1
        exact .inr ⟨b0, sh0, by simp [hsub b0 y hy], h2⟩
      ·obtain ⟨ro, h1, _⟩ := hout b o h hn r sh hbr
       exact .inr ⟨b, sh, by simp [h], h1⟩
     ·obtain ⟨o, ho⟩ := Option.isSome_iff_exists.1 (ownB.some hb)
      rcases hsplit b o ho with h | ⟨h, hn⟩
      ·rcases q1.owb b r sh (by rw [ownB.eq (b := b) (c := b) (h.trans ho.symm)]; exact hb) hbr with h1 | ⟨b0, sh0, h1, h2⟩
       ·exact .inl h1
       ·obtain ⟨y, hy⟩ := Option.isSome_iff_exists.1 (ownB.some h1)
        exact .inr ⟨b0, sh0, by rw [ownB.eq (b := b0) (c := b0) ((hsub b0 y hy).trans hy.symm)]; exact h1, h2⟩
      ·obtain ⟨ro, h1, _⟩ := hout b o h hn r sh hbr
       exact .inr ⟨b, sh, by rw [ownB.eq (b := b) (c := b) (h.trans ho.symm)]; exact hb, h1⟩
     ·exact q1.keep r hrl fun b sh hb => by
       obtain ⟨y, hy⟩ := Option.isSome_iff_exists.1 (ownB.some hb)
       exact hn b sh (by rw [ownB.eq (b := b) (c := b) ((hsub b y hy).trans hy.symm)]; exact hb)
     ·rw [hnx]; exact q1.nx
     ·rw [hnc]; exact q1.nc
     ·rw [hnx]; exact q1.old
    ·refine ⟨fun b o hb => ?_, fun b b' r sh sh' hb hb' h1 h2 => ?_, q2.fresh, q2.freshc, q2.glob, q2.gnx, by rw [q1.ext.env]; exact hr.facts⟩
     ·rcases hsplit b o hb with h | ⟨h, hn⟩
      ·exact q2.obj b o h
      ·rcases hr.obj b o h with hv | ⟨r, sh, ro0, h0, _⟩
       ·exact .inl (hv.mono q1.ext.env (by rw [hold' b (hr.dom_lt (by simp [h]))]; exact hv.none))
       ·obtain ⟨ro, h1, h2, h3, h4, _⟩ := hout b o h hn r sh (q1.ext.blk _ _ h0)
        exact .inr ⟨r, sh, ro, q1.ext.blk _ _ h1, h4, h3.mono q1.ext⟩
     ·obtain ⟨o, ho⟩ := Option.isSome_iff_exists.1 hb
      obtain ⟨o', ho'⟩ := Option.isSome_iff_exists.1 hb'
      have cross : ∀ b b' o o' r sh sh', (hp x.2.1).get b = some o → s.h.get b' = some o' → (hp k.dom).get b' = none → φ'.blk b = some (r, sh) → φ'.blk b' = some (r, sh') → False := by
       intro b b' o o' r sh sh' h h' hn' h1 h2
       obtain ⟨ro, g1, g2, _, _, g5⟩ := hout b' o' h' hn' r sh' h2
       rcases q1.own b r sh (by simp [h]) h1 with e | ⟨b0, sh0, e1, e2⟩
       ·have := (Array.getElem?_eq_some_iff.1 g2).1
        omega
       ·exact g5 b0 sh0 e1 e2
      rcases hsplit b o ho with h | ⟨h, hn⟩
      ·rcases hsplit b' o' ho' with h' | ⟨h', hn'⟩
       ·exact q2.inj b b' r sh sh' (by simp [h]) (by simp [h']) h1 h2
       ·exact (cross b b' o o' r sh sh' h h' hn' h1 h2).elim
      ·rcases hsplit b' o' ho' with h' | ⟨h', hn'⟩
       ·exact (cross b' b o' o r sh' sh h' h hn h2 h1).elim
       ·obtain ⟨ro, g1, _⟩ := hout b o h hn r sh h1
        obtain ⟨ro', g2, _⟩ := hout b' o' h' hn' r sh' h2
        exact hr.inj b b' _ _ _ (by simp [h]) (by simp [h']) g1 g2
def KnownOk (P : Program) (k : Known) : Prop := CallAt P k.g k.args k.st k.ends
theorem memoOf_ok : ∀ {l : List Known}, (∀ k, k ∈ l → KnownOk P k) → ∀ g args s outs, memoOf l g args s = some outs → CallAt P g args s outs
 | [], _, g, args, s, outs, h => by simp [memoOf] at h
 | k :: r, hk, g, args, s, outs, h => by
  simp only [memoOf] at h
  split at h
  ·exact memoOf_ok (fun k' h' => hk k' (List.mem_cons_of_mem _ h')) g args s outs h
  ·rename_i hg
   split at h
   ·rename_i hf
    simp only [Option.some.injEq] at h
    subst h
    rw [beq_true hg]
    have : args = k.args := by
     have hf' := hf
     unfold Known.fits at hf'
     split at hf'
     ·simp at hf'
     ·split at hf'
      ·simp at hf'
      ·split at hf'
       ·simp at hf'
       ·rename_i he; exact eqL_ok (eqAV_ok 6) he
    subst this
    exact frame_ok (hk k (List.mem_cons_self ..)) hf
   ·exact memoOf_ok (fun k' h' => hk k' (List.mem_cons_of_mem _ h')) g args s outs h
theorem mergeK_ok {l : List Known} (h : ∀ k, k ∈ l → KnownOk P k) : MergeOk P (mergeK l) := ⟨mergeAll_ok, memoOf_ok h, fun _ _ _ _ _ h => by simp [mergeK] at h, fun _ _ _ h => by simp [mergeK] at h⟩
def sameEnds : List (AV × St) → List (AV × List (Nat × AObj) × Nat × Nat) → Bool
 | [], _ => true
 | (v, s) :: r, l => (l.any fun x => eqAV 6 v x.1 && Nat.beq s.nx x.2.2.1 && Nat.beq s.nc x.2.2.2 && has s.h x.2.1) && sameEnds r l
def Known.check (k : Known) (D : Tab) (mg : Merge) (fuel : Nat) : Bool :=
 match callB D (goF D mg fuel) mg k.g k.args k.st with
 | some l => sameEnds l k.outs
 | none => false
theorem sameEnds_ok : ∀ {l : List (AV × St)} {l' : List (AV × List (Nat × AObj) × Nat × Nat)}, sameEnds l l' = true → ∀ v s, (v, s) ∈ l → ∃ x, x ∈ l' ∧ x.1 = v ∧ s.nx = x.2.2.1 ∧ s.nc = x.2.2.2 ∧ has s.h x.2.1 = true
 | [], _, _, v, s, hm => by simp at hm
 | (v0, s0) :: r, l', h, v, s, hm => by
  simp only [sameEnds, Bool.and_eq_true, List.any_eq_true] at h
  rcases List.mem_cons.1 hm with hm | hm
  ·simp at hm
   obtain ⟨rfl, rfl⟩ := hm
   obtain ⟨x, h1, ⟨⟨h2, h3⟩, h4⟩, h5⟩ := h.1
   exact ⟨x, h1, (eqAV_ok _ _ _ h2).symm, beq_true h3, beq_true h4, h5⟩
  ·exact sameEnds_ok h.2 v s hm
theorem known_ok (hD : TabOk P D) (hmix : P.follows .mixedOrders = true) {mg : Merge} (hmg : MergeOk P mg) {k : Known} {fuel : Nat} (h : k.check D mg fuel = true) : KnownOk P k := by
 unfold Known.check at h
 split at h
 ·rename_i l hl
  rw [goF_eq] at hl
  intro φ vals w cs hr hv
  obtain ⟨v, s', hm, φ', u, w', fr, q1, q2, q3, q4, q5, q6⟩ := callB_ok hD (run_ok hD hmix hmg fuel) hmg _ _ _ l hl φ vals w cs hr hv
  obtain ⟨x, h1, rfl, h3, h4, h5⟩ := sameEnds_ok h v s' hm
  have hl0 := q2.less (h' := hp x.2.1) (fun b o hb => has_ok h5 b o (hp_get hb))
  have hl1 := hl0.1.fewer (fs := []) (by simp)
  have hl : _ ∧ _ := ⟨hl1.1, hl0.2.trans hl1.2⟩
  have e : ({ s' with h := hp x.2.1, fs := [] } : St) = { h := hp x.2.1, nx := x.2.2.1, nc := x.2.2.2, fs := [] } := by rw [← h3, ← h4]
  rw [e] at hl
  exact ⟨x.1, _, List.mem_map.2 ⟨x, h1, rfl⟩, φ', u, w', fr, q1.trans hl.2, hl.1, q3, q4, q5, q6⟩
 ·simp at h
def closedK (D : Tab) (l : List Known) (fuel : Nat) (g : FuncId) : Bool :=
 match callF D (goF D (mergeK l) fuel) (mergeK l) g [] st0 with
 | some l => allTrue l
 | none => false
theorem closedK_ok (hD : TabOk P D) (hmix : P.follows .mixedOrders = true) {l : List Known} (hl : ∀ k, k ∈ l → KnownOk P k) {fuel : Nat} {g : FuncId} (h : closedK D l fuel g = true) (w : World) : Calls P g #[] w fun e w' => e = .returned (.bool true) ∧ Kept w w' := by
 unfold closedK at h
 split at h
 ·rename_i l' hl'
  rw [goF_eq] at hl'
  intro cs
  obtain ⟨v, s', m, φ', u, w', fr, q1, q2, q3, q4, q5, q6⟩ := callF_ok hD (run_ok hD hmix (mergeK_ok hl) fuel) (mergeK_ok hl) g [] st0 l' hl' phi0 [] w cs (rel0 w) .nil
  have := allTrue_mem h v s' m
  subst this
  cases q3
  exact ⟨.returned (.bool true), w', fr, ⟨rfl, q1.os, q1.out, q1.size, fun r hr => q1.keep r hr fun b sh hb => by simp [st0, ownB] at hb, q1.tape, q1.dr⟩, q4, q5, q6⟩
 ·simp at h
end
end Go.Eng

