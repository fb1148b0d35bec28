/-
  The abstract interpreter: regions, code, functions.
-/
import Derived.Test.YtabjigkabgecaaaGreatDoorEng1
namespace Go.Eng
noncomputable section

inductive OpK where
  | pure | read | alloc | heavy

def kindOf (D : Tab) : Op → OpK
  | .move _ | .assign _ | .pick .. | .field .. | .fieldAddr .. | .indexAddr .. | .index .. | .slice .. | .unOp .. | .extract .. | .makeInterface .. | .makeFunc .. | .build .. | .nilCheck _ => .pure
  | .binOp .eql .. | .binOp .neq .. | .binOp .lss .. | .binOp .leq .. | .binOp .gtr .. | .binOp .geq .. => .read
  | .binOp .. => .pure
  | .convert _ t _ => (match D.ty.get t with | some { d := .int _, .. } => .pure | _ => .heavy)
  | .load .. | .lookup .. => .read
  | .alloc _ | .box .. | .buildSlice .. | .makeMap .. | .makeSlice .. => .alloc
  | .call { callee := .builtin .len, .. } => .read
  | .call { callee := .builtin .cap, .. } | .call { callee := .builtin .max, .. } | .call { callee := .builtin .min, .. } => .pure
  | _ => .heavy

/-- Of each operation which ones are ahead of it in every order. -/
def masks (ops : List Oper) : List Nat :=
  go ops []
where
  go : List Oper → List Nat → List Nat
    | [], acc => acc.reverse
    | o :: r, acc => go r (one o.after.toList acc 0 :: acc)
  one : List Edge → List Nat → Nat → Nat
    | [], _, m => m
    | e :: r, acc, m =>
      match e.ground with
      | .textOnly _ | .gcOnly _ => one r acc m
      | _ => one r acc (Nat.lor (Nat.lor m (2 ^ e.on)) (acc[acc.length - 1 - e.on]?.getD 0))

def tmpsOf : List Operand → List Nat
  | [] => []
  | .tmp t :: r => t :: tmpsOf r
  | _ :: r => tmpsOf r

def bitOf (m i : Nat) : Bool := Nat.beq ((m / 2 ^ i) % 2) 1

def memN : List Nat → Nat → Bool
  | [], _ => false
  | x :: r, n => Nat.beq x n || memN r n

/-- What an operation reads and writes of the temporaries (its guard's too). -/
def looksOf (ops : Array Oper) (o : Oper) : List Nat :=
  tmpsOf o.op.operands.toList ++ (match o.guard with | some (g, _) => (match ops[g]? with | some x => (match x.dst with | some d => [d] | none => []) | none => []) | none => [])

/-- Every two operations, one of which writes a temporary that the other one names, are ordered. -/
def regOk (ops : Array Oper) : Bool :=
  let ms := masks ops.toList
  go 0 (ops.toList.zip ms) []
where
  apart (x y : Oper) : Bool :=
    (match x.dst with
     | some d => !memN (looksOf ops y) d && (match y.dst with | some e => !Nat.beq d e | none => true)
     | none => true) &&
    (match y.dst with
     | some d => !memN (looksOf ops x) d
     | none => true)
  against (y : Oper) (m : Nat) : List (Nat × Oper) → Bool
    | [] => true
    | (i, x) :: r => (bitOf m i || apart x y) && against y m r
  go (j : Nat) : List (Oper × Nat) → List (Nat × Oper) → Bool
    | [], _ => true
    | (y, m) :: r, acc => against y m acc && (y.after.all fun e => match e.ground with | .textOnly _ | .gcOnly _ => true | _ => Nat.blt e.on j) && go (j + 1) r ((j, y) :: acc)

abbrev Rec := Option Nat → FuncId → Code → Cf → Option (List (Ex × Cf))

def endDs : St → List Nat → Option St
  | s, [] => some s
  | s, d :: r =>
    match s.h.get d with
    | some (.dfd true) => endDs { s with h := s.h.set d (.dfd false) } r
    | _ => none

def endFn (D : Tab) (rs : List ResultVar) (cf : Cf) : Option (AV × St) :=
  match endDs cf.s cf.ds with
  | none => none
  | some s =>
    match resA D cf.t s rs with
    | none => none
    | some vs => some (oneOf vs, s)

def endAll (D : Tab) (rs : List ResultVar) : List (Ex × Cf) → Option (List (AV × St))
  | [] => some []
  | (.exit _, _) :: _ => none
  | (_, cf) :: r =>
    match endFn D rs cf, endAll D rs r with
    | some x, some l => some (x :: l)
    | _, _ => none

/-- How ends of a call are taken together; calls that are known. -/
structure Merge where
  mg : List (AV × St) → St → List (AV × St)
  memo : FuncId → List AV → St → Option (List (AV × St))

def callB (D : Tab) (rec : Rec) (mg : Merge) (g : FuncId) (args : List AV) (s : St) : Option (List (AV × St)) :=
  match D.fn.get g with
  | none => none
  | some fi =>
    match rec none g fi.body { t := PT.setAll .nil 0 args, n := max args.length fi.nt, s, ds := [] } with
    | none => none
    | some outs =>
      match endAll D fi.results outs with
      | none => none
      | some l => some (mg.mg l s)

def callF (D : Tab) (rec : Rec) (mg : Merge) (g : FuncId) (args : List AV) (s : St) : Option (List (AV × St)) :=
  match mg.memo g args s with
  | some l => some l
  | none => callB D rec mg g args s

def setPs (n : Nat) (t : PT AV) : List Tmp → List AV → Option (PT AV)
  | [], [] => some t
  | p :: ps, v :: vs => setPs n (putA t n (some p) v) ps vs
  | _, _ => none

def endRound (l : Nat) (s : St) (jump : Option Code) : Option (AV × St) :=
  match s.h.get l with
  | some (.loop _ _ fn t n ps assign body ds) =>
    some (.bool (match jump with | none => true | some _ => false), { s with h := s.h.set l (.loop (match jump with | none => .ready | some _ => .done) jump fn t n ps assign body ds) })
  | _ => none

def roundEnds (l : Nat) : List (Ex × Cf) → Option (List (AV × St))
  | [] => some []
  | (e, cf) :: r =>
    match cf.ds with
    | _ :: _ => none
    | [] =>
      match endRound l cf.s (match e with | .normal => none | .exit id => some (.exit id) | .ret => some .ret), roundEnds l r with
      | some x, some m => some (x :: m)
      | _, _ => none

def roundF (rec : Rec) (l : Nat) (args : List AV) (s : St) : Option (List (AV × St)) :=
  match s.h.get l with
  | some (.loop _ _ fn t n ps assign body _) =>
    match setPs n t ps args with
    | none => none
    | some t' =>
      match rec (some l) fn assign { t := t', n, s, ds := [] } with
      | some [(.normal, cf)] =>
        match cf.s.h.get l with
        | some (.loop .ready pd fn2 t2 n2 ps2 as2 bd2 ds2) =>
          match rec (some l) fn body { cf with s := { cf.s with h := cf.s.h.set l (.loop .busy pd fn2 t2 n2 ps2 as2 bd2 ds2) } } with
          | some outs => roundEnds l outs
          | none => none
        | _ => none
      | _ => none
  | _ => none

/-- One operation, whole. -/
def oper (D : Tab) (rec : Rec) (mg : Merge) (T : PT AV) (s : St) (op : Op) : Option (List (AV × St)) :=
  match opA D T s op with
  | none => none
  | some (.val v s') => some [(v, s')]
  | some (.enter g args) => callF D rec mg g args s
  | some (.round l args) => roundF rec l args s
  | some (.next it str) => nextA s it str

/-- Operations in the order of the text. -/
def seqOps (D : Tab) (rec : Rec) (mg : Merge) (ops : Array Oper) : List Oper → Cf → Option (List Cf)
  | [], cf => some [cf]
  | o :: r, cf =>
    match guardOk cf.t ops o with
    | none => none
    | some false => seqOps D rec mg ops r { cf with t := putA cf.t cf.n o.dst .undef }
    | some true =>
      match oper D rec mg cf.t cf.s o.op with
      | none => none
      | some [(v, s)] => seqOps D rec mg ops r { cf with t := putA cf.t cf.n o.dst v, s }
      | some l => bindL l fun (v, s) => seqOps D rec mg ops r { cf with t := putA cf.t cf.n o.dst v, s }

/-! A region that draws its order: in the order of the text, what is only read held against all states at which it may be read. -/
structure Rg where
  t : PT AV
  s : St
  pend : List (Nat × Nat × AObj)      -- place among the operations, block, what it is
  past : List (Nat × St)              -- heavy operations, and the state ahead of each
  reads : List (Nat × Op × PT AV × AV)         -- what has been read, with the temporaries of then

def flush (m : Nat) : List (Nat × Nat × AObj) → PT AObj → PT AObj
  | [], h => h
  | (i, b, o) :: r, h => if bitOf m i then flush m r (h.set b o) else flush m r h

def keep (m : Nat) : List (Nat × Nat × AObj) → List (Nat × Nat × AObj)
  | [] => []
  | (i, b, o) :: r => if bitOf m i then keep m r else (i, b, o) :: keep m r

def same1 (a b : AV) : Bool :=
  match a, b with
  | .bool x, .bool y => x == y
  | .int j x, .int k y => decide (j = k) && x == y
  | .str x, .str y => bytesEq x.data.toList y.data.toList
  | .nilptr, .nilptr => true
  | .ptr x o, .ptr y u => Nat.beq x y && Nat.beq o u
  | .nilslice, .nilslice => true
  | .slice x o l (.exact c), .slice y u m (.exact d) => Nat.beq x y && Nat.beq o u && Nat.beq l m && Nat.beq c d
  | .slice x o l (.var c e), .slice y u m (.var d f) => Nat.beq x y && Nat.beq o u && Nat.beq l m && Nat.beq c d && Nat.beq e f
  | .slice0 x, .slice0 y => x == y
  | .sym x, .sym y => Nat.beq x y
  | .tm j x, .tm k y => decide (j = k) && x.beq y
  | .nilmap, .nilmap => true
  | .map x, .map y => Nat.beq x y
  | .nilFunc, .nilFunc => true
  | .nilIface, .nilIface => true
  | .func f [] [], .func g [] [] => Nat.beq f g
  | .yld l, .yld m => Nat.beq l m
  | _, _ => false
def sames : List AV → List AV → Bool
  | [], [] => true
  | a :: x, b :: y => same1 a b && sames x y
  | _, _ => false
def same (a b : AV) : Bool :=
  match a, b with
  | .agg x, .agg y => sames x y
  | .tuple x, .tuple y => sames x y
  | x, y => same1 x y

def readAt (D : Tab) (T : PT AV) (s : St) (op : Op) : Option AV :=
  match opA D T s op with
  | some (.val v _) => some v
  | _ => none

/-- Is the same read at all states ahead of heavy operations that are not ahead of it? -/
def pastOk (D : Tab) (T : PT AV) (op : Op) (m : Nat) (pend : List (Nat × Nat × AObj)) (v : AV) : List (Nat × St) → Bool
  | [] => true
  | (k, s) :: r => if bitOf m k then true else (match readAt D T { s with h := flush m pend s.h } op with | some u => same u v | none => false) && pastOk D T op m pend v r

/-- Behind a heavy operation: what was read and is not ahead of it reads the same still. -/
def readsOk (D : Tab) (ms : List Nat) (m : Nat) (pend : List (Nat × Nat × AObj)) (s : St) : List (Nat × Op × PT AV × AV) → Option (List (Nat × Op × PT AV × AV))
  | [] => some []
  | (i, op, T, v) :: r =>
    if bitOf m i then readsOk D ms m pend s r else
    match readAt D T { s with h := flush (ms[i]?.getD 0) pend s.h } op with
    | some u => if same u v then (match readsOk D ms m pend s r with | some l => some ((i, op, T, v) :: l) | none => none) else none
    | none => none

def allPast (m : Nat) : List (Nat × St) → Bool
  | [] => true
  | (k, _) :: _ => bitOf m k

def cut (T : PT AV) : List Nat → PT AV
  | [] => .nil
  | t :: r => match T.get t with | some x => (cut T r).set t x | none => cut T r

/-- One operation of a region that draws; 'T': the temporaries that it looks at. -/
def drawOne (D : Tab) (rec : Rec) (mg : Merge) (ops : Array Oper) (ms : List Nat) (base n i : Nat) (o : Oper) (m : Nat) (g : Rg) (T : PT AV) : Option Rg :=
  match guardOk T ops o with
  | none => none
  | some false => some { g with t := putA g.t n o.dst .undef }
  | some true =>
    match kindOf D o.op with
    | .pure =>
      match readAt D T g.s o.op with
      | none => none
      | some v => some { g with t := putA g.t n o.dst v }
    | .read =>
      match readAt D T { g.s with h := flush m g.pend g.s.h } o.op with
      | none => none
      | some v => if pastOk D T o.op m g.pend v g.past then some { g with t := putA g.t n o.dst v, reads := (i, o.op, T, v) :: g.reads } else none
    | .alloc =>
      match opA D T { g.s with nx := base + i } o.op with
      | some (.val v s') =>
        match s'.h.get (base + i) with
        | some ob => some { g with t := putA g.t n o.dst v, pend := (i, base + i, ob) :: g.pend }
        | none => none
      | _ => none
    | .heavy =>
      if allPast m g.past then
        match oper D rec mg T { g.s with h := flush m g.pend g.s.h } o.op with
        | some [(v, s')] =>
          match readsOk D ms m (keep m g.pend) s' g.reads with
          | some reads => some { t := putA g.t n o.dst v, s := s', pend := keep m g.pend, past := (i, g.s) :: g.past, reads }
          | none => none
        | _ => none
      else none

def drawOps (D : Tab) (rec : Rec) (mg : Merge) (ops : Array Oper) (ms : List Nat) (base n : Nat) : Nat → List (Oper × Nat) → Rg → Option Rg
  | _, [], g => some g
  | i, (o, m) :: r, g =>
    match drawOne D rec mg ops ms base n i o m g (cut g.t (looksOf ops o)) with
    | some g' => drawOps D rec mg ops ms base n (i + 1) r g'
    | none => none

def flushAll : List (Nat × Nat × AObj) → PT AObj → PT AObj
  | [], h => h
  | (_, b, o) :: r, h => flushAll r (h.set b o)

def drawReg (D : Tab) (rec : Rec) (mg : Merge) (ops : Array Oper) (cf : Cf) : Option (List Cf) :=
  if regOk ops then
    let ms := masks ops.toList
    match drawOps D rec mg ops ms cf.s.nx cf.n 0 (ops.toList.zip ms) { t := cf.t, s := { cf.s with nx := cf.s.nx + ops.size }, pend := [], past := [], reads := [] } with
    | some g => some [{ cf with t := g.t, s := { g.s with h := flushAll g.pend g.s.h } }]
    | none => none
  else none

/-! What is forced: else each region adds to a chain that is walked again and again. -/
def forceN {α : Type} (n : Nat) (k : Nat → α) : α :=
  match n with
  | 0 => k 0
  | m + 1 => k (Nat.succ m)
def forceP {α β : Type} (t : PT β) (k : PT β → α) : α :=
  match t with
  | .nil => k .nil
  | .nd l v r => k (.nd l v r)
def forceC {α : Type} (c : Cf) (k : Cf → α) : α :=
  match c with
  | ⟨t, n, ⟨h, nx, nc, fs⟩, ds⟩ => forceP t fun t => forceN n fun n => forceP h fun h => forceN nx fun nx => forceN nc fun nc => k ⟨t, n, ⟨h, nx, nc, fs⟩, ds⟩

def normals : List Cf → List (Ex × Cf)
  | [] => []
  | c :: r => forceC c fun c => (.normal, c) :: normals r

/-! Where something is not known: both ways. -/
def needOp (T : PT AV) (s : St) (op : Op) : Option Fm :=
  match op with
  | .binOp o _ x y _ =>
    match ev T x, ev T y with
    | some a, some b =>
      match tmOf a, tmOf b with
      | some (_, x), some (_, y) => (match cmpT s.fs o x y with | some _ => none | none => askT o x y)
      | _, _ => none
    | _, _ => none
  | _ => none

def needOps (D : Tab) (ops : Array Oper) (n : Nat) (s : St) : List Oper → PT AV → Option Fm
  | [], _ => none
  | o :: r, T =>
    match guardOk T ops o with
    | some true =>
      match readAt D T s o.op with
      | some v => needOps D ops n s r (putA T n o.dst v)
      | none => (match needOp T s o.op with | some f => some f | none => needOps D ops n s r T)
    | some false => needOps D ops n s r (putA T n o.dst .undef)
    | none => needOps D ops n s r T

def withF (cf : Cf) (f : Fm) : Cf := { cf with s := { cf.s with fs := f :: cf.s.fs } }

def forks (go : Cf → Option (List Cf)) (need : Cf → Option Fm) : Nat → Cf → Option (List Cf)
  | 0, cf => go cf
  | d + 1, cf =>
    match go cf with
    | some l => some l
    | none =>
      match need cf with
      | none => none
      | some f =>
        match forks go need d (withF cf f), forks go need d (withF cf f.neg) with
        | some a, some b => some (a ++ b)
        | _, _ => none

def run (D : Tab) (mg : Merge) : Nat → Rec
  | 0, _, _, _, _ => none
  | f + 1, rnd, fn, code, cf =>
    match code with
    | .skip | .label _ => some [(.normal, cf)]
    | .ret => some [(.ret, cf)]
    | .exit id => some [(.exit id, cf)]
    | .seq a b =>
      match run D mg f rnd fn a cf with
      | none => none
      | some [(.normal, cf')] => run D mg f rnd fn b cf'
      | some outs => bindL outs fun
        | (.normal, cf') => run D mg f rnd fn b cf'
        | x => some [x]
    | .cond c a b =>
      match ev cf.t c with
      | some (.bool true) => run D mg f rnd fn a cf
      | some (.bool false) => run D mg f rnd fn b cf
      | _ => none
    | .block id a =>
      match run D mg f rnd fn a cf with
      | none => none
      | some outs => some (outs.map fun
        | (.exit i, cf') => if Nat.beq i id then (.normal, cf') else (.exit i, cf')
        | x => x)
    | .scope a => run D mg f rnd fn a cf
    | .loop a =>
      match run D mg f rnd fn a cf with
      | none => none
      | some [(.normal, cf')] => run D mg f rnd fn (.loop a) cf'
      | some outs => bindL outs fun
        | (.normal, cf') => run D mg f rnd fn (.loop a) cf'
        | x => some [x]
    | .region _ ops draw =>
      match forks (fun cf => if draw then drawReg D (run D mg f) mg ops cf else seqOps D (run D mg f) mg ops ops.toList cf) (fun cf => needOps D ops cf.n cf.s ops.toList cf.t) 16 cf with
      | some l => some (normals l)
      | none => none
    | .rangeFunc g ps assign body =>
      match ev cf.t g with
      | some (.func q first caps) =>
        let r0 : Option (Nat × St × List Nat) :=
          match rnd with
          | some l => match cf.s.h.get l with | some (.loop _ _ _ _ _ _ _ _ ds) => some (ds, cf.s, []) | _ => none
          | none => let x := cf.s.new (.dfd true); some (x.1, x.2, [x.1])
        match r0 with
        | none => none
        | some (ds, s1, mark) =>
          let x := s1.new (.loop .ready none fn cf.t cf.n ps.toList assign body ds)
          match callB D (run D mg f) mg q (first ++ [.yld x.1] ++ caps) x.2 with
          | none => none
          | some l => bindL l fun (_, s2) =>
            match s2.h.get x.1 with
            | some (.loop st pd fn2 t2 n2 ps2 as2 bd2 ds2) =>
              if st == .busy then none else
              let cf' : Cf := { t := cf.t, n := cf.n, s := { s2 with h := s2.h.set x.1 (.loop .exhausted pd fn2 t2 n2 ps2 as2 bd2 ds2) }, ds := mark ++ cf.ds }
              match pd with
              | none => some [(.normal, cf')]
              | some (.exit id) => some [(.exit id, cf')]
              | some .ret => some [(.ret, cf')]
              | _ => none
            | _ => none
      | _ => none
    | _ => none

def noMerge : Merge := { mg := fun l _ => l, memo := fun _ _ _ => none }

end
end Go.Eng
