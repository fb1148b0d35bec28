/-
  The abstract interpreter: entries of the model's that are met: math/bits.Add64, math/bits.Sub64.
  The abstract interpreter, arranged for the kernel: each choice is made by a small closed function.
  The abstract interpreter: calls that are known, each by the blocks that it looks at.
-/
import Derived.Test.YtnhlppginnojfaaDoorEng34
import Derived.Laws.Externs
set_option linter.unusedVariables false
set_option linter.unusedSimpArgs false
namespace Go.Eng
noncomputable section
variable {P : Program} {D : Tab}
end
end Go.Eng

namespace Go.Eng
noncomputable section
def oMove (x : Operand) (_ : Tab) (T : PT AV) (s : St) : Option Do := v1 s (ev T x)
def oPick (c a b : Operand) (_ : Tab) (T : PT AV) (s : St) : Option Do := ev1 T c fun v => v1 s (pickA T v a b)
def oAlloc (t : TypeId) (D : Tab) (_ : PT AV) (s : St) : Option Do := v2 (allocA D s t)
def oBox (x : Operand) (_ : Tab) (T : PT AV) (s : St) : Option Do := ev1 T x fun v => v2 (some (boxA s v))
def oBuild (t : TypeId) (ps : Array (Nat × Operand)) (D : Tab) (T : PT AV) (s : St) : Option Do := match evAll T (ps.toList.map (·.2)) with | some vs => v1 s (buildA D t (ps.toList.map (·.1)) vs) | none => none
def oBuildSlice (t : TypeId) (n : Nat) (ps : Array (Nat × Operand)) (D : Tab) (T : PT AV) (s : St) : Option Do := match evAll T (ps.toList.map (·.2)) with | some vs => v2 (buildSliceA D s t n (ps.toList.map (·.1)) vs) | none => none
def oLoad (t : TypeId) (a : Operand) (D : Tab) (T : PT AV) (s : St) : Option Do := ev1 T a fun p => v1 s (loadX D s t p)
def oStore (t : TypeId) (a v : Operand) (D : Tab) (T : PT AV) (s : St) : Option Do := ev2 T a v fun p x => u1 (storeX D s t p x)
def oNil (x : Operand) (_ : Tab) (T : PT AV) (s : St) : Option Do := ev1 T x fun v => v1 s (nilCheckA v)
def oBin (op : BinOp) (t : TypeId) (x y : Operand) (D : Tab) (T : PT AV) (s : St) : Option Do := ev2 T x y fun a b => v1 s (binA D s op t x y a b)
def oUn (op : UnOp) (x : Operand) (_ : Tab) (T : PT AV) (s : St) : Option Do := ev1 T x fun v => v1 s (unA op v)
def oConv (a b : TypeId) (x : Operand) (D : Tab) (T : PT AV) (s : St) : Option Do := ev1 T x fun v => v2 (convS D s a b v)
def oIface (t : TypeId) (x : Operand) (D : Tab) (T : PT AV) (s : St) : Option Do := ev1 T x fun v => v1 s (ifaceA D t v)
def oFn (fn : Fn) (first caps : Array Operand) (_ : Tab) (T : PT AV) (s : St) : Option Do := fnOp T s fn first caps
def oMakeSlice (t : TypeId) (l c : Operand) (D : Tab) (T : PT AV) (s : St) : Option Do := ev2 T l c fun a b => v2 (makeSliceA D s t a b)
def oSlice (t : TypeId) (x : Operand) (lo hi mx : Option Operand) (D : Tab) (T : PT AV) (s : St) : Option Do := ev1 T x fun v => sliceOp D T s t v lo hi mx
def oFieldAddr (t : TypeId) (x : Operand) (f : Nat) (D : Tab) (T : PT AV) (s : St) : Option Do := ev1 T x fun v => v1 s (fieldAddrA D t v f)
def oField (t : TypeId) (x : Operand) (f : Nat) (D : Tab) (T : PT AV) (s : St) : Option Do := ev1 T x fun v => v1 s (fieldA D t v f)
def oIndexAddr (t : TypeId) (x i : Operand) (D : Tab) (T : PT AV) (s : St) : Option Do := ev2 T x i fun a b => v1 s (indexAddrX D s t a b)
def oIndex (t : TypeId) (x i : Operand) (D : Tab) (T : PT AV) (s : St) : Option Do := ev2 T x i fun a b => v1 s (indexA D t a b)
def oExtract (x : Operand) (i : Nat) (_ : Tab) (T : PT AV) (s : St) : Option Do := ev1 T x fun v => v1 s (extractA v i)
def oCall (c : Call) (D : Tab) (T : PT AV) (s : St) : Option Do := callOp D T s c
def oOther (op : Op) (D : Tab) (T : PT AV) (s : St) : Option Do := opA D T s op
def opF (op : Op) : Tab → PT AV → St → Option Do :=
 match op with
 | .move x => oMove x
 | .assign x => oMove x
 | .pick c a b => oPick c a b
 | .alloc t => oAlloc t
 | .box _ x => oBox x
 | .build t ps => oBuild t ps
 | .buildSlice t n ps => oBuildSlice t n ps
 | .load t a => oLoad t a
 | .store t a v => oStore t a v
 | .nilCheck x => oNil x
 | .binOp op t x y _ => oBin op t x y
 | .unOp op _ x => oUn op x
 | .convert a b x => oConv a b x
 | .makeInterface t x => oIface t x
 | .makeFunc fn first caps => oFn fn first caps
 | .makeSlice t l c => oMakeSlice t l c
 | .slice t x lo hi mx => oSlice t x lo hi mx
 | .fieldAddr t x f => oFieldAddr t x f
 | .field t x f => oField t x f
 | .indexAddr t x i => oIndexAddr t x i
 | .index t x i => oIndex t x i
 | .extract x i => oExtract x i
 | .call c => oCall c
 | op => oOther op
theorem opF_eq (op : Op) (D : Tab) (T : PT AV) (s : St) : opF op D T s = opA D T s op := by cases op <;> rfl
abbrev Outs := Option (List (AV × St))
def doVal (v : AV) (s' : St) (_ : Tab) (_ : Rec) (_ : Merge) (_ : St) : Outs := some [(v, s')]
def doEnter (g : FuncId) (args : List AV) (D : Tab) (rec : Rec) (mg : Merge) (s : St) : Outs := callF D rec mg g args s
def doRound (l : Nat) (args : List AV) (_ : Tab) (rec : Rec) (_ : Merge) (s : St) : Outs := roundF rec l args s
def doNext (it : AV) (str : Bool) (_ : Tab) (_ : Rec) (_ : Merge) (s : St) : Outs := nextA s it str
def doNo (_ : Tab) (_ : Rec) (_ : Merge) (_ : St) : Outs := none
def doF (d : Option Do) : Tab → Rec → Merge → St → Outs :=
 match d with
 | none => doNo
 | some (.val v s') => doVal v s'
 | some (.enter g args) => doEnter g args
 | some (.round l args) => doRound l args
 | some (.next it str) => doNext it str
def operF (D : Tab) (rec : Rec) (mg : Merge) (T : PT AV) (s : St) (op : Op) : Outs := doF (opF op D T s) D rec mg s
theorem operF_eq (D : Tab) (rec : Rec) (mg : Merge) (T : PT AV) (s : St) (op : Op) : operF D rec mg T s op = oper D rec mg T s op := by
 unfold operF oper
 rw [opF_eq]
 cases opA D T s op with
 | none => rfl
 | some d => cases d <;> rfl
abbrev SeqK := Tab → Rec → Merge → Array Oper → Cf → Option (List Cf)
def setCf (cf : Cf) (o : Oper) (v : AV) (s : St) : Cf := { cf with t := putA cf.t cf.n o.dst v, s }
def skipCf (cf : Cf) (o : Oper) : Cf := { cf with t := putA cf.t cf.n o.dst .undef }
def sqNone (_ : Oper) (_ : SeqK) : SeqK := fun _ _ _ _ _ => none
def sqSkip (o : Oper) (ih : SeqK) : SeqK := fun D rec mg ops cf => ih D rec mg ops (skipCf cf o)
def sqOne (v : AV) (s : St) (o : Oper) (ih : SeqK) : SeqK := fun D rec mg ops cf => ih D rec mg ops (setCf cf o v s)
def sqMany (l : List (AV × St)) (o : Oper) (ih : SeqK) : SeqK := fun D rec mg ops cf => bindL l fun x => ih D rec mg ops (setCf cf o x.1 x.2)
def sqOuts (l : Outs) : Oper → SeqK → SeqK :=
 match l with
 | none => sqNone
 | some [(v, s)] => sqOne v s
 | some l => sqMany l
def sqDo (o : Oper) (ih : SeqK) : SeqK := fun D rec mg ops cf => sqOuts (operF D rec mg cf.t cf.s o.op) o ih D rec mg ops cf
def sqGuard (g : Option Bool) : Oper → SeqK → SeqK :=
 match g with
 | none => sqNone
 | some false => sqSkip
 | some true => sqDo
def sqStep (o : Oper) (ih : SeqK) : SeqK := fun D rec mg ops cf => sqGuard (guardOk cf.t ops o) o ih D rec mg ops cf
def sqEnd : SeqK := fun _ _ _ _ cf => some [cf]
def seqF (l : List Oper) : SeqK := List.rec (motive := fun _ => SeqK) sqEnd (fun o _ ih => sqStep o ih) l
theorem seqF_eq (D : Tab) (rec : Rec) (mg : Merge) (ops : Array Oper) : ∀ (l : List Oper) (cf : Cf), seqF l D rec mg ops cf = seqOps D rec mg ops l cf
 | [], _ => rfl
 | o :: r, cf => by
  have ih := seqF_eq D rec mg ops r
  show sqGuard (guardOk cf.t ops o) o (seqF r) D rec mg ops cf = _
  simp only [seqOps]
  cases guardOk cf.t ops o with
  | none => rfl
  | some b =>
   cases b with
   | false => exact ih _
   | true =>
    show sqOuts (operF D rec mg cf.t cf.s o.op) o (seqF r) D rec mg ops cf = _
    rw [operF_eq]
    cases oper D rec mg cf.t cf.s o.op with
    | none => rfl
    | some l =>
     have e : (fun x : AV × St => seqF r D rec mg ops (setCf cf o x.1 x.2)) = fun x => seqOps D rec mg ops r (setCf cf o x.1 x.2) := by
      funext x; exact ih _
     cases l with
     | nil => rfl
     | cons x q =>
      cases q with
      | nil => exact ih _
      | cons y q =>
       show bindL (x :: y :: q) (fun x => seqF r D rec mg ops (setCf cf o x.1 x.2)) = _
       rw [e]
       rfl
abbrev DrK := Nat → Nat → Oper → Rg → PT AV → Tab → Rec → Merge → Array Oper → List Nat → Nat → Nat → Option Rg
def setRg (g : Rg) (n : Nat) (o : Oper) (v : AV) : Rg :=
 match g with
 | ⟨t, s, pend, past, reads⟩ => ⟨putA t n o.dst v, s, pend, past, reads⟩
def addRead (g : Rg) (x : Nat × Op × PT AV × AV) : Rg :=
 match g with
 | ⟨t, s, pend, past, reads⟩ => ⟨t, s, pend, past, x :: reads⟩
def addPend (g : Rg) (x : Nat × Nat × AObj) : Rg :=
 match g with
 | ⟨t, s, pend, past, reads⟩ => ⟨t, s, x :: pend, past, reads⟩
def drNone : DrK := fun _ _ _ _ _ _ _ _ _ _ _ _ => none
def drSkip : DrK := fun _ _ o g _ _ _ _ _ _ _ n => some (setRg g n o .undef)
def drPureV (v : Option AV) (g : Rg) (n : Nat) (o : Oper) : Option Rg := match v with | none => none | some v => some (setRg g n o v)
def readF (D : Tab) (T : PT AV) (s : St) (op : Op) : Option AV := match opF op D T s with | some (.val v _) => some v | _ => none
def drPure : DrK := fun _ _ o g T D _ _ _ _ _ n => drPureV (readF D T g.s o.op) g n o
def flushSt (m : Nat) (g : Rg) : St := match g with | ⟨_, ⟨h, nx, nc, fs⟩, pend, _, _⟩ => ⟨flush m pend h, nx, nc, fs⟩
def drReadV (v : Option AV) (i m : Nat) (o : Oper) (g : Rg) (T : PT AV) (D : Tab) (n : Nat) : Option Rg :=
 match v with
 | none => none
 | some v => match pastOk D T o.op m g.pend v g.past with | true => some (addRead (setRg g n o v) (i, o.op, T, v)) | false => none
def drRead : DrK := fun i m o g T D _ _ _ _ _ n => drReadV (readF D T (flushSt m g) o.op) i m o g T D n
def drAllocB (ob : Option AObj) (v : AV) (b i : Nat) (o : Oper) (g : Rg) (n : Nat) : Option Rg :=
 match ob with
 | some ob => some (addPend (setRg g n o v) (i, b, ob))
 | none => none
def drAllocV (d : Option Do) (b i : Nat) (o : Oper) (g : Rg) (n : Nat) : Option Rg :=
 match d with
 | some (.val v s') => drAllocB (s'.h.get b) v b i o g n
 | _ => none
def drAlloc : DrK := fun i _ o g T D _ _ _ _ base n => drAllocV (opF o.op D T { g.s with nx := base + i }) (base + i) i o g n
def drHeavyR (rs : Option (List (Nat × Op × PT AV × AV))) (v : AV) (s' : St) (i m : Nat) (o : Oper) (g : Rg) (n : Nat) : Option Rg :=
 match rs with
 | some reads => (match g with | ⟨t, s, pend, past, _⟩ => some ⟨putA t n o.dst v, s', keep m pend, (i, s) :: past, reads⟩)
 | none => none
def drHeavyV (l : Outs) (i m : Nat) (o : Oper) (g : Rg) (D : Tab) (ms : List Nat) (n : Nat) : Option Rg :=
 match l with
 | some [(v, s')] => drHeavyR (readsOk D ms m (keep m g.pend) s' g.reads) v s' i m o g n
 | _ => none
def drHeavy : DrK := fun i m o g T D rec mg _ ms _ n =>
 match allPast m g.past with
 | true => drHeavyV (operF D rec mg T (flushSt m g) o.op) i m o g D ms n
 | false => none
def drKind (k : OpK) : DrK := match k with | .pure => drPure | .read => drRead | .alloc => drAlloc | .heavy => drHeavy
def drDo : DrK := fun i m o g T D rec mg ops ms base n => drKind (kindOf D o.op) i m o g T D rec mg ops ms base n
def drGuard (g : Option Bool) : DrK := match g with | none => drNone | some false => drSkip | some true => drDo
def drOne : DrK := fun i m o g T D rec mg ops ms base n => drGuard (guardOk T ops o) i m o g T D rec mg ops ms base n
theorem readF_eq (D : Tab) (T : PT AV) (s : St) (op : Op) : readF D T s op = readAt D T s op := by
 unfold readF readAt
 rw [opF_eq]
 cases opA D T s op with
 | none => rfl
 | some d => cases d <;> rfl
theorem drOne_eq (D : Tab) (rec : Rec) (mg : Merge) (ops : Array Oper) (ms : List Nat) (base n i : Nat) (o : Oper) (m : Nat) (g : Rg) (T : PT AV) :
  drOne i m o g T D rec mg ops ms base n = drawOne D rec mg ops ms base n i o m g T := by
 obtain ⟨t, ⟨h, nx, nc, fs⟩, pend, past, reads⟩ := g
 unfold drOne drawOne
 cases guardOk T ops o with
 | none => rfl
 | some b =>
  cases b with
  | false => rfl
  | true =>
   show drKind (kindOf D o.op) _ _ _ _ _ _ _ _ _ _ _ _ = _
   cases kindOf D o.op with
   | pure =>
    show drPureV (readF D T _ o.op) _ _ _ = _
    rw [readF_eq]
    simp only
    cases readAt D T ⟨h, nx, nc, fs⟩ o.op <;> rfl
   | read =>
    show drReadV (readF D T _ o.op) _ _ _ _ _ _ _ = _
    rw [readF_eq]
    show drReadV (readAt D T ⟨flush m pend h, nx, nc, fs⟩ o.op) _ _ _ _ _ _ _ = _
    simp only
    cases readAt D T ⟨flush m pend h, nx, nc, fs⟩ o.op with
    | none => rfl
    | some v =>
     simp only [drReadV]
     cases pastOk D T o.op m pend v past <;> rfl
   | alloc =>
    show drAllocV (opF o.op D T _) _ _ _ _ _ = _
    rw [opF_eq]
    simp only
    cases opA D T ⟨h, base + i, nc, fs⟩ o.op with
    | none => rfl
    | some d =>
     cases d with
     | val v s' =>
      show drAllocB (s'.h.get (base + i)) _ _ _ _ _ _ = _
      simp only
      cases s'.h.get (base + i) <;> rfl
     | _ => rfl
   | heavy =>
    show (match allPast m past with | true => drHeavyV (operF D rec mg T ⟨flush m pend h, nx, nc, fs⟩ o.op) _ _ _ _ _ _ _ | false => none) = _
    rw [operF_eq]
    simp only
    cases allPast m past with
    | false => rfl
    | true =>
     simp only [if_true]
     cases oper D rec mg T ⟨flush m pend h, nx, nc, fs⟩ o.op with
     | none => rfl
     | some l =>
      cases l with
      | nil => rfl
      | cons x q =>
       cases q with
       | cons y q => rfl
       | nil =>
        obtain ⟨v, s'⟩ := x
        simp only [drHeavyV]
        cases readsOk D ms m (keep m pend) s' reads <;> rfl
abbrev DsK := Nat → Rg → Tab → Rec → Merge → Array Oper → List Nat → Nat → Nat → Option Rg
def dsNext (g : Option Rg) (ih : DsK) (i : Nat) (D : Tab) (rec : Rec) (mg : Merge) (ops : Array Oper) (ms : List Nat) (base n : Nat) : Option Rg :=
 match g with
 | some g => forceN (Nat.succ i) fun i => ih i g D rec mg ops ms base n
 | none => none
def dsStep (x : Oper × Nat) (ih : DsK) : DsK := fun i g D rec mg ops ms base n => dsNext (drOne i x.2 x.1 g (cut g.t (looksOf ops x.1)) D rec mg ops ms base n) ih i D rec mg ops ms base n
def dsEnd : DsK := fun _ g _ _ _ _ _ _ _ => some g
def drawsF (l : List (Oper × Nat)) : DsK := List.rec (motive := fun _ => DsK) dsEnd (fun x _ ih => dsStep x ih) l
theorem drawsF_eq (D : Tab) (rec : Rec) (mg : Merge) (ops : Array Oper) (ms : List Nat) (base n : Nat) : ∀ (l : List (Oper × Nat)) (i : Nat) (g : Rg), drawsF l i g D rec mg ops ms base n = drawOps D rec mg ops ms base n i l g
 | [], _, _ => rfl
 | (o, m) :: r, i, g => by
  show dsNext (drOne i m o g (cut g.t (looksOf ops o)) D rec mg ops ms base n) (drawsF r) i D rec mg ops ms base n = _
  rw [drOne_eq]
  simp only [drawOps]
  cases drawOne D rec mg ops ms base n i o m g (cut g.t (looksOf ops o)) with
  | none => rfl
  | some g' =>
   show (forceN (Nat.succ i) fun i => drawsF r i g' D rec mg ops ms base n) = drawOps D rec mg ops ms base n (i + 1) r g'
   rw [forceN_eq]
   exact drawsF_eq D rec mg ops ms base n r (i + 1) g'
def drawEnd (g : Option Rg) (cf : Cf) : Option (List Cf) :=
 match g with
 | some ⟨t, ⟨h, nx, nc, fs⟩, pend, _, _⟩ => (match cf with | ⟨_, n, _, ds⟩ => some [⟨t, n, ⟨flushAll pend h, nx, nc, fs⟩, ds⟩])
 | none => none
def drawGo (ops : Array Oper) (ms : List Nat) (D : Tab) (rec : Rec) (mg : Merge) (cf : Cf) : Option (List Cf) :=
 drawEnd (drawsF (ops.toList.zip ms) 0 { t := cf.t, s := { cf.s with nx := cf.s.nx + ops.size }, pend := [], past := [], reads := [] } D rec mg ops ms cf.s.nx cf.n) cf
def drawF (ops : Array Oper) (D : Tab) (rec : Rec) (mg : Merge) (cf : Cf) : Option (List Cf) :=
 match regOk ops with
 | true => drawGo ops (masks ops.toList) D rec mg cf
 | false => none
theorem drawF_eq (ops : Array Oper) (D : Tab) (rec : Rec) (mg : Merge) (cf : Cf) : drawF ops D rec mg cf = drawReg D rec mg ops cf := by
 unfold drawF drawReg
 cases regOk ops with
 | false => rfl
 | true =>
  show drawEnd (drawsF _ _ _ _ _ _ _ _ _ _) cf = _
  rw [drawsF_eq]
  simp only [if_true]
  cases drawOps D rec mg ops (masks ops.toList) cf.s.nx cf.n 0 (ops.toList.zip (masks ops.toList)) { t := cf.t, s := { cf.s with nx := cf.s.nx + ops.size }, pend := [], past := [], reads := [] } with
  | none => rfl
  | some g => obtain ⟨t, ⟨h, nx, nc, fs⟩, pend, past, reads⟩ := g; rfl
abbrev CoK := Tab → Merge → Rec → Nat → Option Nat → FuncId → Cf → Option (List (Ex × Cf))
def cSkip : CoK := fun _ _ _ _ _ _ cf => some [(.normal, cf)]
def cRet : CoK := fun _ _ _ _ _ _ cf => some [(.ret, cf)]
def cExit (id : Nat) : CoK := fun _ _ _ _ _ _ cf => some [(.exit id, cf)]
def seqMany (outs : List (Ex × Cf)) (b : Code) (ih : Rec) (rnd : Option Nat) (fn : FuncId) : Option (List (Ex × Cf)) :=
 bindL outs fun
  | (.normal, cf') => ih rnd fn b cf'
  | x => some [x]
def seqNext (outs : Option (List (Ex × Cf))) (b : Code) (ih : Rec) (rnd : Option Nat) (fn : FuncId) : Option (List (Ex × Cf)) :=
 match outs with
 | none => none
 | some [(.normal, cf')] => ih rnd fn b cf'
 | some outs => seqMany outs b ih rnd fn
def cSeq (a b : Code) : CoK := fun _ _ ih _ rnd fn cf => seqNext (ih rnd fn a cf) b ih rnd fn
def condGo (v : Option AV) (a b : Code) (ih : Rec) (rnd : Option Nat) (fn : FuncId) (cf : Cf) : Option (List (Ex × Cf)) :=
 match v with
 | some (.bool true) => ih rnd fn a cf
 | some (.bool false) => ih rnd fn b cf
 | _ => none
def cCond (c : Operand) (a b : Code) : CoK := fun _ _ ih _ rnd fn cf => condGo (ev cf.t c) a b ih rnd fn cf
def blockEnd (id : Nat) (outs : Option (List (Ex × Cf))) : Option (List (Ex × Cf)) :=
 match outs with
 | none => none
 | some outs => some (outs.map fun
  | (.exit i, cf') => if Nat.beq i id then (.normal, cf') else (.exit i, cf')
  | x => x)
def cBlock (id : Nat) (a : Code) : CoK := fun _ _ ih _ rnd fn cf => blockEnd id (ih rnd fn a cf)
def cScope (a : Code) : CoK := fun _ _ ih _ rnd fn cf => ih rnd fn a cf
def loopOr (l : Option (List (Ex × Cf))) (a : Code) (ih : Rec) (rnd : Option Nat) (fn : FuncId) (cf : Cf) : Option (List (Ex × Cf)) :=
 match l with
 | some l => some l
 | none => seqNext (ih rnd fn a cf) (.loop a) ih rnd fn
def cLoop (a : Code) : CoK := fun _ mg ih _ rnd fn cf => loopOr (mg.lp rnd fn a cf) a ih rnd fn cf
def regEnd (l : Option (List Cf)) : Option (List (Ex × Cf)) := match l with | some l => some (normals l) | none => none
def forkJoin (a b : Option (List Cf)) : Option (List Cf) :=
 match a, b with
 | some a, some b => some (a ++ b)
 | _, _ => none
def forkAsk (y : Option Bool) (f : Fm) (ih : Cf → Option (List Cf)) (cf : Cf) : Option (List Cf) :=
 match y with
 | some true => ih (withF cf f)
 | some false => ih (withF cf f.neg)
 | none => forkJoin (ih (withF cf f)) (ih (withF cf f.neg))
def forkNeed (orc : List Fm → Fm → Option Bool) (f : Option Fm) (ih : Cf → Option (List Cf)) (cf : Cf) : Option (List Cf) :=
 match f with
 | none => none
 | some f => forkAsk (orc cf.s.fs f) f ih cf
def forkOr (orc : List Fm → Fm → Option Bool) (l : Option (List Cf)) (need : Cf → Option Fm) (ih : Cf → Option (List Cf)) (cf : Cf) : Option (List Cf) :=
 match l with
 | some l => some l
 | none => forkNeed orc (need cf) ih cf
def forkF (orc : List Fm → Fm → Option Bool) (go : Cf → Option (List Cf)) (need : Cf → Option Fm) (d : Nat) : Cf → Option (List Cf) :=
 Nat.rec (motive := fun _ => Cf → Option (List Cf)) go (fun _ ih cf => forkOr orc (go cf) need ih cf) d
theorem forkF_eq (orc : List Fm → Fm → Option Bool) (go : Cf → Option (List Cf)) (need : Cf → Option Fm) : ∀ (d : Nat) (cf : Cf), forkF orc go need d cf = forks orc go need d cf
 | 0, cf => rfl
 | d + 1, cf => by
  show forkOr orc (go cf) need (forkF orc go need d) cf = _
  have ih : forkF orc go need d = forks orc go need d := funext (forkF_eq orc go need d)
  rw [ih]
  simp only [forks]
  cases go cf with
  | some l => rfl
  | none =>
   show forkNeed orc (need cf) (forks orc go need d) cf = _
   cases need cf with
   | none => rfl
   | some f =>
    show forkAsk (orc cf.s.fs f) f (forks orc go need d) cf = _
    simp only []
    cases orc cf.s.fs f with
    | some y => cases y <;> rfl
    | none =>
     show forkJoin (forks orc go need d (withF cf f)) (forks orc go need d (withF cf f.neg)) = _
     simp only []
     cases forks orc go need d (withF cf f) <;> cases forks orc go need d (withF cf f.neg) <;> rfl
def needF (ops : Array Oper) (D : Tab) (cf : Cf) : Option Fm := needOps D ops cf.n cf.s ops.toList cf.t
def cDraw (ops : Array Oper) : CoK := fun D mg ih _ _ _ cf => regEnd (forkF mg.orc (drawF ops D ih mg) (needF ops D) 16 cf)
def cText (ops : Array Oper) : CoK := fun D mg ih _ _ _ cf => regEnd (forkF mg.orc (seqF ops.toList D ih mg ops) (needF ops D) 16 cf)
def cRegion (ops : Array Oper) (draw : Bool) : CoK := match draw with | true => cDraw ops | false => cText ops
def cOther (code : Code) : CoK := fun D mg _ f rnd fn cf => run D mg (f + 1) rnd fn code cf
def codeF (code : Code) : CoK :=
 match code with
 | .skip => cSkip
 | .label _ => cSkip
 | .ret => cRet
 | .exit id => cExit id
 | .seq a b => cSeq a b
 | .cond c a b => cCond c a b
 | .block id a => cBlock id a
 | .scope a => cScope a
 | .loop a => cLoop a
 | .region _ ops draw => cRegion ops draw
 | code => cOther code
def goF (D : Tab) (mg : Merge) (f : Nat) : Rec :=
 Nat.rec (motive := fun _ => Rec) (fun _ _ _ _ => none) (fun f ih rnd fn code cf => codeF code D mg ih f rnd fn cf) f
theorem goF_eq (D : Tab) (mg : Merge) : ∀ f, goF D mg f = run D mg f
 | 0 => by funext rnd fn code cf; rfl
 | f + 1 => by
  have ih := goF_eq D mg f
  funext rnd fn code cf
  show codeF code D mg (goF D mg f) f rnd fn cf = _
  rw [ih]
  cases code with
  | seq a b =>
   show seqNext (run D mg f rnd fn a cf) b _ rnd fn = _
   simp only [run]
   cases run D mg f rnd fn a cf with
   | none => rfl
   | some l =>
    cases l with
    | nil => rfl
    | cons x q => obtain ⟨e, c⟩ := x; cases q <;> cases e <;> rfl
  | loop a =>
   show loopOr (mg.lp rnd fn a cf) a (run D mg f) rnd fn cf = _
   simp only [run]
   cases mg.lp rnd fn a cf with
   | some l => rfl
   | none =>
   show seqNext (run D mg f rnd fn a cf) (.loop a) _ rnd fn = _
   simp only []
   cases run D mg f rnd fn a cf with
   | none => rfl
   | some l =>
    cases l with
    | nil => rfl
    | cons x q => obtain ⟨e, c⟩ := x; cases q <;> cases e <;> rfl
  | cond c a b =>
   show condGo (ev cf.t c) a b _ rnd fn cf = _
   simp only [run]
   cases ev cf.t c with
   | none => rfl
   | some v =>
    cases v with
    | bool b => cases b <;> rfl
    | _ => rfl
  | block id a =>
   show blockEnd id (run D mg f rnd fn a cf) = _
   simp only [run]
   cases run D mg f rnd fn a cf <;> rfl
  | region id ops draw =>
   cases draw with
   | true =>
    show regEnd (forkF mg.orc (drawF ops D (run D mg f) mg) (needF ops D) 16 cf) = _
    rw [forkF_eq, show drawF ops D (run D mg f) mg = drawReg D (run D mg f) mg ops from funext (drawF_eq ops D (run D mg f) mg)]
    simp only [run, if_true]
    show regEnd (forks mg.orc (drawReg D (run D mg f) mg ops) (needF ops D) 16 cf) = match forks mg.orc (drawReg D (run D mg f) mg ops) (needF ops D) 16 cf with | some l => some (normals l) | none => none
    cases forks mg.orc (drawReg D (run D mg f) mg ops) (needF ops D) 16 cf <;> rfl
   | false =>
    show regEnd (forkF mg.orc (seqF ops.toList D (run D mg f) mg ops) (needF ops D) 16 cf) = _
    rw [forkF_eq, show seqF ops.toList D (run D mg f) mg ops = seqOps D (run D mg f) mg ops ops.toList from funext (seqF_eq D (run D mg f) mg ops ops.toList)]
    simp only [run, Bool.false_eq_true, if_false]
    show regEnd (forks mg.orc (seqOps D (run D mg f) mg ops ops.toList) (needF ops D) 16 cf) = match forks mg.orc (seqOps D (run D mg f) mg ops ops.toList) (needF ops D) 16 cf with | some l => some (normals l) | none => none
    cases forks mg.orc (seqOps D (run D mg f) mg ops ops.toList) (needF ops D) 16 cf <;> rfl
  | _ => rfl
def closedF (D : Tab) (fuel : Nat) (g : FuncId) : Bool :=
 match callF D (goF D merge fuel) merge g [] st0 with
 | some l => allTrue l
 | none => false
theorem closedF_eq (D : Tab) (fuel : Nat) (g : FuncId) : closedF D fuel g = closed D fuel g := by
 unfold closedF closed
 rw [goF_eq]
 cases callF D (run D merge fuel) merge g [] st0 <;> rfl
end
end Go.Eng

namespace Go.Eng
noncomputable section
variable {P : Program} {D : Tab}
structure Known where
 g : FuncId
 args : List AV
 dom : List (Nat × AObj)
 nx : Nat
 nc : Nat
 outs : List (AV × List (Nat × AObj) × Nat × Nat)
end
end Go.Eng

