/-
  An abstract interpreter of the model's code: definitions only (the soundness is proved elsewhere).
  The abstract interpreter: regions, code, functions.
  The abstract interpreter: ends of one call that are alike are taken together.
-/
import GoSem.Step
set_option linter.unusedVariables false
set_option linter.unusedSimpArgs false
namespace Go.Eng
noncomputable section
inductive PT (α : Type) where
 | nil : PT α
 | nd (l : PT α) (v : Option α) (r : PT α) : PT α
namespace PT
variable {α : Type}
def sel {β : Type} (n : Nat) (a b : β) : β := Nat.rec (motive := fun _ => β) a (fun _ _ => b) n
def get (t : PT α) : Nat → Option α :=
 PT.rec (motive := fun _ => Nat → Option α) (fun _ => .none)
  (fun _ v _ gl gr k => Nat.rec (motive := fun _ => Option α) v (fun k _ => sel (Nat.mod k 2) (gl (Nat.div k 2)) (gr (Nat.div k 2))) k) t
def onL (v : Option α) (r : PT α) (l : PT α) : PT α := PT.rec (motive := fun _ => PT α) (.nd .nil v r) (fun a b c _ _ => .nd (.nd a b c) v r) l
def onR (l : PT α) (v : Option α) (r : PT α) : PT α := PT.rec (motive := fun _ => PT α) (.nd l v .nil) (fun a b c _ _ => .nd l v (.nd a b c)) r
def one (x : Option α) (f : Nat) : Nat → PT α :=
 Nat.rec (motive := fun _ => Nat → PT α) (fun _ => .nd .nil x .nil)
  (fun _ ih k => Nat.rec (motive := fun _ => PT α) (.nd .nil x .nil) (fun k _ => sel (Nat.mod k 2) (onL .none .nil (ih (Nat.div k 2))) (onR .nil .none (ih (Nat.div k 2)))) k) f
def put (x : Option α) (t : PT α) : Nat → PT α :=
 PT.rec (motive := fun _ => Nat → PT α) (fun k => one x k k)
  (fun l v r sl sr k => Nat.rec (motive := fun _ => PT α) (.nd l x r) (fun k _ => sel (Nat.mod k 2) (onL v r (sl (Nat.div k 2))) (onR l v (sr (Nat.div k 2)))) k) t
def set (t : PT α) (k : Nat) (x : α) : PT α := put (some x) t k
def del (t : PT α) (k : Nat) : PT α := put .none t k
def setAll (t : PT α) (k : Nat) : List α → PT α
 | [] => t
 | x :: r => setAll (t.set k x) (k + 1) r
def getAll (t : PT α) (k : Nat) : Nat → Option (List α)
 | 0 => some []
 | n + 1 =>
  match t.get k with
  | none => none
  | some x =>
   match getAll t (k + 1) n with
   | none => none
   | some r => some (x :: r)
end PT
mutual
inductive Tm where
 | c (n : Int)
 | v (i : Nat)
 | op (o : BinOp) (k : IntKind) (a b : Tm)
 | cv (k : IntKind) (a : Tm)
 | sel (A : ATm) (t : Tm) (z o : Nat)      -- cell t * z + o
 | p3 (p : Nat) (a b c : Tm)      -- what the library's entries give
 | fn (f : Nat) (A : ATm) (n : Tm) (B : ATm) (m : Tm)      -- whatever one likes
inductive ATm where
 | v (i : Nat)
 | k (n : Int)
 | upd (A : ATm) (t : Tm) (z o : Nat) (x : Tm)
 | fn (f : Nat) (A : ATm) (n : Tm) (B : ATm) (m : Tm)
end
mutual
def Tm.beq : Tm → Tm → Bool
 | .c a, .c b => a == b
 | .v i, .v j => Nat.beq i j
 | .op o k a b, .op o' k' a' b' => decide (o = o') && decide (k = k') && a.beq a' && b.beq b'
 | .cv k a, .cv k' a' => decide (k = k') && a.beq a'
 | .sel A t z o, .sel A' t' z' o' => Nat.beq z z' && Nat.beq o o' && A.beq A' && t.beq t'
 | .p3 p a b c, .p3 p' a' b' c' => Nat.beq p p' && a.beq a' && b.beq b' && c.beq c'
 | .fn f A n B m, .fn f' A' n' B' m' => Nat.beq f f' && A.beq A' && n.beq n' && B.beq B' && m.beq m'
 | _, _ => false
def ATm.beq : ATm → ATm → Bool
 | .v i, .v j => Nat.beq i j
 | .k a, .k b => a == b
 | .upd A t z o x, .upd A' t' z' o' x' => Nat.beq z z' && Nat.beq o o' && A.beq A' && t.beq t' && x.beq x'
 | .fn f A n B m, .fn f' A' n' B' m' => Nat.beq f f' && A.beq A' && n.beq n' && B.beq B' && m.beq m'
 | _, _ => false
end
inductive Fm where
 | lt (a b : Tm) (y : Bool)
 | eq (a b : Tm) (y : Bool)
 | pr (p : Nat) (A : ATm) (n : Tm) (B : ATm) (m : Tm) (y : Bool)
def Fm.neg : Fm → Fm
 | .lt a b y => .lt a b (!y)
 | .eq a b y => .eq a b (!y)
 | .pr p A n B m y => .pr p A n B m (!y)
def Fm.beq : Fm → Fm → Bool
 | .lt a b y, .lt a' b' y' => y == y' && a.beq a' && b.beq b'
 | .eq a b y, .eq a' b' y' => y == y' && a.beq a' && b.beq b'
 | .pr p A n B m y, .pr p' A' n' B' m' y' => y == y' && Nat.beq p p' && A.beq A' && n.beq n' && B.beq B' && m.beq m'
 | _, _ => false
def maxO : Option Int → Option Int → Option Int
 | none, y => y
 | x, none => x
 | some a, some b => some (if a < b then b else a)
def minO : Option Int → Option Int → Option Int
 | none, y => y
 | x, none => x
 | some a, some b => some (if a < b then a else b)
def addO (x : Option Int) (k : Int) : Option Int :=
 match x with
 | some a => some (a + k)
 | none => none
def lbs (rec : Tm → Option Int) (t : Tm) : List Fm → Option Int
 | [] => none
 | .lt x y true :: r => (match y.beq t with | true => maxO (addO (rec x) 1) (lbs rec t r) | false => lbs rec t r)
 | .lt x y false :: r => (match x.beq t with | true => maxO (rec y) (lbs rec t r) | false => lbs rec t r)
 | .eq x y true :: r => (match x.beq t with | true => maxO (rec y) (lbs rec t r) | false => lbs rec t r)
 | _ :: r => lbs rec t r
def lb (fs : List Fm) : Nat → Tm → Option Int
 | 0, .c n => some n
 | 0, _ => none
 | _ + 1, .c n => some n
 | d + 1, t => lbs (lb fs d) t fs
def ubs (rec : Tm → Option Int) (t : Tm) : List Fm → Option Int
 | [] => none
 | .lt x y true :: r => (match x.beq t with | true => minO (addO (rec y) (-1)) (ubs rec t r) | false => ubs rec t r)
 | .lt x y false :: r => (match y.beq t with | true => minO (rec x) (ubs rec t r) | false => ubs rec t r)
 | .eq x y true :: r => (match x.beq t with | true => minO (rec y) (ubs rec t r) | false => ubs rec t r)
 | _ :: r => ubs rec t r
def ub (fs : List Fm) : Nat → Tm → Option Int
 | 0, .c n => some n
 | 0, _ => none
 | _ + 1, .c n => some n
 | d + 1, t => ubs (ub fs d) t fs
def below (x y : Option Int) : Bool :=
 match x, y with
 | some a, some b => decide (a < b)
 | _, _ => false
def notAbove (x y : Option Int) : Bool :=
 match x, y with
 | some a, some b => decide (a ≤ b)
 | _, _ => false
def seekLt (a b : Tm) : List Fm → Option Bool
 | [] => none
 | .lt x y v :: r => if x.beq a && y.beq b then some v else seekLt a b r
 | _ :: r => seekLt a b r
def seekEq (a b : Tm) : List Fm → Option Bool
 | [] => none
 | .eq x y v :: r => if x.beq a && y.beq b then some v else seekEq a b r
 | _ :: r => seekEq a b r
def decLt (fs : List Fm) (a b : Tm) : Option Bool :=
 match seekLt a b fs with
 | some v => some v
 | none =>
  match below (ub fs 2 a) (lb fs 2 b) with
  | true => some true
  | false => (match notAbove (ub fs 2 b) (lb fs 2 a) with | true => some false | false => none)
def decEq (fs : List Fm) (a b : Tm) : Option Bool :=
 match seekEq a b fs with
 | some v => some v
 | none =>
  match decLt fs a b, decLt fs b a with
  | some true, _ => some false
  | _, some true => some false
  | some false, some false => some true
  | _, _ => none
def notO : Option Bool → Option Bool
 | some b => some !b
 | none => none
def cmpT (fs : List Fm) (op : BinOp) (a b : Tm) : Option Bool :=
 match op with
 | .lss => decLt fs a b
 | .leq => notO (decLt fs b a)
 | .gtr => decLt fs b a
 | .geq => notO (decLt fs a b)
 | .eql => decEq fs a b
 | .neq => notO (decEq fs a b)
 | _ => none
def askT (op : BinOp) (a b : Tm) : Option Fm :=
 match op with
 | .lss => some (.lt a b true)
 | .leq => some (.lt b a true)
 | .gtr => some (.lt b a true)
 | .geq => some (.lt a b true)
 | .eql => some (.eq a b true)
 | .neq => some (.eq a b true)
 | _ => none
def isCmp : BinOp → Bool
 | .lss | .leq | .gtr | .geq | .eql | .neq => true
 | _ => false
def isArith : BinOp → Bool
 | .add | .sub | .mul | .and | .or | .xor | .andNot => true
 | _ => false
inductive ACap where
 | exact (n : Nat)
 | var (k sub : Nat)
inductive AV where
 | bool (b : Bool)
 | int (k : IntKind) (n : Int)
 | str (s : ByteArray)
 | nilptr
 | ptr (b o : Nat)
 | nilslice
 | slice (b o len : Nat) (cap : ACap)
 | slice0 (z : Bool)      -- empty, somewhere; z: its capacity is 0
 | sym (i : Nat)      -- whatever stands there
 | tm (k : IntKind) (t : Tm)
 | ssl (b : Nat) (len : Tm) (cap : ACap)      -- all of a block's elements
 | sptr (b : Nat) (t : Tm) (z o : Nat)      -- a block's cell t * z + o
 | nilmap
 | map (b : Nat)
 | func (f : FuncId) (first caps : List AV)
 | yld (l : Nat)
 | nilFunc
 | iface (t : TypeId) (v : AV)
 | nilIface
 | agg (cs : List AV)
 | tuple (vs : List AV)
def AV.undef : AV := .tuple []
def AV.cells : AV → List AV
 | .agg cs => cs
 | v => [v]
def scalarAV : Value → Option AV
 | .bool b => some (.bool b)
 | .int k n => some (.int k n)
 | .string s => some (.str s)
 | .pointer none => some .nilptr
 | .slice none 0 0 => some .nilslice
 | .map none => some .nilmap
 | .nilFunc => some .nilFunc
 | .nilIface => some .nilIface
 | _ => none
def scalarsAV : List Value → Option (List AV)
 | [] => some []
 | v :: r =>
  match scalarAV v, scalarsAV r with
  | some a, some l => some (a :: l)
  | _, _ => none
def constAV : Value → Option AV
 | .agg cs => (scalarsAV cs.toList).map .agg
 | .tuple cs => (scalarsAV cs.toList).map .tuple
 | .func (.func f) a b => (match a.toList, b.toList with | [], [] => some (.func f [] []) | _, _ => none)
 | v => scalarAV v
inductive TD where
 | bool | int (k : IntKind) | string
 | ptr (e : TypeId) | slice (e : TypeId) | array (n : Nat) (e : TypeId) | map (k e : TypeId)
 | struct (fs : List (TypeId × Nat × Bool))      -- type, offset, is its name other than "_"
 | iface | func | other
structure TyI where
 d : TD
 size : Nat
 bytes : Nat
 zero : Option AV
 held : Bool      -- a struct that the model stands in for
def tdOf : TypeDesc → TD
 | .bool => .bool
 | .int k => .int k
 | .string => .string
 | .pointer e => .ptr e
 | .slice e => .slice e
 | .array n e => .array n e
 | .map k e => .map k e
 | .struct fs => .struct (fs.toList.map fun f => (f.type, f.offset, f.name != "_"))
 | .interface _ => .iface
 | .func .. => .func
 | _ => .other
def zeroOf : Option Value → Option AV
 | some v => constAV v
 | none => none
def tyOf (P : Program) (t : TypeId) : Option TyI :=
 match P.types[t]?, P.underlying t with
 | some i, some d => some { d := tdOf d, size := i.size, bytes := i.bytes, zero := zeroOf i.zero, held := match d with | .struct _ => P.stoodInHeld t || P.eqGuardType P.depth t | _ => false }
 | _, _ => none
def tabOf {α : Type} (f : Nat → Option α) : Nat → PT α
 | 0 => .nil
 | n + 1 =>
  match f n with
  | some x => (tabOf f n).set n x
  | none => tabOf f n
structure FnI where
 nt : Nat
 body : Code
 results : List ResultVar
def fnOf (P : Program) (f : FuncId) : Option FnI :=
 match P.funcs[f]? with
 | some fn =>
  match fn.name == "runtime.NumGoroutine", fn.body with
  | false, some c => some { nt := fn.ntmps, body := c, results := fn.results.toList }
  | _, _ => none
 | none => none
inductive AObj where
 | cells (c : PT AV) (n : Nat) (tail : Option (Nat × Nat))      -- tail (k, size): there are as many more cells as capacity k has
 | map (es : List (AV × AV × Nat)) (clock : Nat)
 | iter (m : Option Nat) (since : Nat) (seen : List Nat) (stepped : Nat)
 | siter (s : ByteArray) (pos : Nat)
 | loop (st : LoopState) (pending : Option Code) (fn : FuncId) (t : PT AV) (n : Nat) (ps : List Tmp) (assign body : Code) (ds : Nat)
 | dfd (open_ : Bool)
 | arr (ks : List IntKind) (A : ATm) (n : Tm) (tail : Option (Nat × Nat))      -- n elements of so many cells
structure St where
 h : PT AObj
 nx : Nat
 nc : Nat
 fs : List Fm
def methOf (P : Program) (t : TypeId) (name : String) : Option FuncId :=
 match P.types[t]? with
 | none => none
 | some i =>
  match i.methods.find? (·.name == name) with
  | none => none
  | some m =>
   match m.path.toList, m.func with
   | [], some (f, pr) =>
    match P.underlying t, pr with
    | some (.pointer _), true => some f
    | some (.pointer _), false => none
    | some _, false => some f
    | _, _ => none
   | _, _ => none
structure Tab where
 ty : PT TyI
 fn : PT FnI
 ms : TypeId → String → Option FuncId
 ext : List (FuncId × (List AV → Option AV))
 xst : List (FuncId × (St → List AV → Option (AV × St)))
def Tab.mk' (P : Program) (ext : List (FuncId × (List AV → Option AV))) : Tab :=
 { ty := tabOf (tyOf P) P.types.size, fn := tabOf (fnOf P) P.funcs.size, ms := methOf P, ext, xst := [] }
def lookN {β : Type} : List (Nat × β) → Nat → Option β
 | [], _ => none
 | (k, x) :: r, n => match Nat.beq k n with | true => some x | false => lookN r n
structure Cf where
 t : PT AV
 n : Nat      -- how many temporaries there are
 s : St
 ds : List Nat
inductive Ex where
 | normal
 | exit (id : Nat)
 | ret
def GG : Nat := 2048
def GB : Nat := 4096
def ev (T : PT AV) : Operand → Option AV
 | .tmp i => T.get i
 | .const v => constAV v
 | .global g => (match Nat.blt g GG with | true => some (.ptr g 0) | false => none)
 | .func f => some (.func f [] [])
def evAll (T : PT AV) : List Operand → Option (List AV)
 | [] => some []
 | x :: r =>
  match ev T x, evAll T r with
  | some a, some l => some (a :: l)
  | _, _ => none
def St.new (s : St) (o : AObj) : Nat × St := (s.nx, { s with h := s.h.set s.nx o, nx := s.nx + 1 })
def bin (op : BinOp) (k : IntKind) (a b : Int) : Option AV :=
 match op with
 | .add => some (.int k (k.wrap (a + b)))
 | .sub => some (.int k (k.wrap (a - b)))
 | .mul => some (.int k (k.wrap (a * b)))
 | .quo => if b = 0 then none else some (.int k (k.wrap (a.tdiv b)))
 | .rem => if b = 0 then none else some (.int k (a.tmod b))
 | .eql => some (.bool (a == b))
 | .neq => some (.bool (a != b))
 | .lss => some (.bool (decide (a < b)))
 | .leq => some (.bool (decide (a ≤ b)))
 | .gtr => some (.bool (decide (a > b)))
 | .geq => some (.bool (decide (a ≥ b)))
 | .and => some (.int k (k.wrap (BitVec.ofInt k.bits a &&& BitVec.ofInt k.bits b).toNat))
 | .or => some (.int k (k.wrap (BitVec.ofInt k.bits a ||| BitVec.ofInt k.bits b).toNat))
 | .xor => some (.int k (k.wrap (BitVec.ofInt k.bits a ^^^ BitVec.ofInt k.bits b).toNat))
 | .andNot => some (.int k (k.wrap (BitVec.ofInt k.bits a &&& ~~~ BitVec.ofInt k.bits b).toNat))
 | _ => none
def shf (op : BinOp) (k : IntKind) (a b : Int) : Option AV :=
 if b < 0 then none else
 let n := min b.toNat k.bits
 match op with
 | .shl => some (.int k (k.wrap (a * 2 ^ n)))
 | .shr => some (.int k (a.fdiv (2 ^ n)))
 | _ => none
def bytesLt : List UInt8 → List UInt8 → Bool
 | _, [] => false
 | [], _ :: _ => true
 | a :: x, b :: y => Nat.blt a.toNat b.toNat || (Nat.beq a.toNat b.toNat && bytesLt x y)
def bytesEq : List UInt8 → List UInt8 → Bool
 | [], [] => true
 | a :: x, b :: y => Nat.beq a.toNat b.toNat && bytesEq x y
 | _, _ => false
def sbin (op : BinOp) (x y : ByteArray) : Option AV :=
 let a := x.data.toList
 let b := y.data.toList
 match op with
 | .add => if (x.size + y.size) < 9223372036854775808 then some (.str (x ++ y)) else none
 | .eql => some (.bool (bytesEq a b))
 | .neq => some (.bool (!bytesEq a b))
 | .lss => some (.bool (bytesLt a b))
 | .leq => some (.bool (bytesLt a b || bytesEq a b))
 | .gtr => some (.bool (!(bytesLt a b || bytesEq a b)))
 | .geq => some (.bool (!bytesLt a b))
 | _ => none
def live (h : PT AObj) (b : Nat) : Bool :=
 match h.get b with
 | some (.cells _ (_ + 1) _) => true
 | _ => false
def textual (h : PT AObj) (b : Nat) : Bool :=
 match h.get b with
 | some (.cells _ _ (some (_, 1))) => true
 | some (.cells _ _ (some (_, 0))) => true
 | _ => false
def partAV (i : TyI) (cs : List AV) (off : Nat) : Option AV :=
 match i.d with
 | .struct _ | .array _ _ => some (.agg ((cs.drop off).take i.size))
 | _ => cs[off]?
def fieldOf (i : TyI) : AV → Nat → Option AV
 | .agg cs, off => partAV i cs off
 | _, _ => none
def eqBool : AV → AV → Option Bool
 | .bool a, .bool b => some (a == b)
 | _, _ => none
def eqInt : AV → AV → Option Bool
 | .int j a, .int k b => if j = k then some (a == b) else none
 | _, _ => none
def eqStr : AV → AV → Option Bool
 | .str a, .str b => some (bytesEq a.data.toList b.data.toList)
 | _, _ => none
def eqAddr (D : Tab) (h : PT AObj) (e : TypeId) (a o b u : Nat) : Option Bool :=
 match D.ty.get e with
 | some ei =>
  match ei.size with
  | 0 => none
  | _ + 1 =>
   match Nat.beq a b with
   | true => some (Nat.beq o u)
   | false => if live h a && live h b && !(textual h a && textual h b) then some false else none
 | none => none
def eqPtr (D : Tab) (h : PT AObj) (e : TypeId) : AV → AV → Option Bool
 | .nilptr, .nilptr => some true
 | .nilptr, .ptr _ _ => some false
 | .ptr _ _, .nilptr => some false
 | .ptr a o, .ptr b u => eqAddr D h e a o b u
 | _, _ => none
def eqIface : AV → AV → Option Bool
 | .nilIface, .nilIface => some true
 | .nilIface, .iface _ _ => some false
 | .iface _ _, .nilIface => some false
 | _, _ => none
def eqSlice : AV → AV → Option Bool
 | .nilslice, .nilslice => some true
 | .slice .., .nilslice => some false
 | .slice0 _, .nilslice => some false
 | .nilslice, .slice0 _ => some false
 | .nilslice, .slice .. => some false
 | _, _ => none
def eqMap : AV → AV → Option Bool
 | .nilmap, .nilmap => some true
 | .map _, .nilmap => some false
 | .nilmap, .map _ => some false
 | _, _ => none
def eqFunc : AV → AV → Option Bool
 | .nilFunc, .nilFunc => some true
 | .nilFunc, .func .. => some false
 | .func .., .nilFunc => some false
 | _, _ => none
mutual
def aeq (D : Tab) (h : PT AObj) : Nat → TypeId → AV → AV → Option Bool
 | 0, _, _, _ => none
 | d + 1, t, x, y =>
  match D.ty.get t with
  | none => none
  | some i =>
   match i.d with
   | .bool => eqBool x y
   | .int _ => eqInt x y
   | .string => eqStr x y
   | .ptr e => eqPtr D h e x y
   | .iface => eqIface x y
   | .slice _ => eqSlice x y
   | .map _ _ => eqMap x y
   | .func => eqFunc x y
   | .struct fs => if i.held then none else aeqs D h d fs x y
   | _ => none
def aeqs (D : Tab) (h : PT AObj) : Nat → List (TypeId × Nat × Bool) → AV → AV → Option Bool
 | 0, _, _, _ => none
 | d + 1, fs, x, y =>
  match fs with
  | [] => (match x, y with | .agg _, .agg _ => some true | _, _ => none)
  | (t, off, named) :: r =>
   match named with
   | false => aeqs D h d r x y
   | true =>
    match D.ty.get t with
    | none => none
    | some i =>
     match fieldOf i x off, fieldOf i y off with
     | some a, some b =>
      match aeq D h d t a b with
      | some true => aeqs D h d r x y
      | o => o
     | _, _ => none
end
def geq1 : AV → AV → Bool
 | .bool a, .bool b => a == b
 | .int j a, .int k b => decide (j = k) && a == b
 | .str a, .str b => bytesEq a.data.toList b.data.toList
 | .nilptr, .nilptr => true
 | .ptr a o, .ptr b u => Nat.beq a b && Nat.beq o u
 | _, _ => false
def geqs : List AV → List AV → Bool
 | [], [] => true
 | a :: x, b :: y => geq1 a b && geqs x y
 | _, _ => false
def geq : AV → AV → Bool
 | .agg x, .agg y => geqs x y
 | x, y => geq1 x y
def depth : Nat := 200
def findK (D : Tab) (h : PT AObj) (kt : TypeId) (k : AV) : List (AV × AV × Nat) → Nat → Option (Option (Nat × AV))
 | [], _ => some none
 | (k', v, _) :: r, i =>
  match aeq D h depth kt k k' with
  | some true => if geq k k' then some (some (i, v)) else none
  | some false => findK D h kt k r (i + 1)
  | none => none
def keyFields (D : Tab) (go : TypeId → AV → Bool) (k : AV) : List (TypeId × Nat × Bool) → Bool
 | [] => true
 | (t, off, named) :: r =>
  (match named with
  | true => (match D.ty.get t with | some i => (match fieldOf i k off with | some a => go t a | none => false) | none => false)
  | false => true) && keyFields D go k r
def keyN (D : Tab) : Nat → TypeId → AV → Bool
 | 0, _, _ => false
 | n + 1, kt, k =>
  match D.ty.get kt with
  | some i =>
   (match i.d, k with
   | .int _, .int _ _ => true
   | .string, .str _ => true
   | .bool, .bool _ => true
   | .ptr _, .nilptr => true
   | .ptr _, .ptr _ _ => true
   | .struct fs, .agg _ => keyFields D (keyN D n) k fs
   | _, _ => false)
  | none => false
def keyOk (D : Tab) (kt : TypeId) (k : AV) : Bool := keyN D 4 kt k
def setVal : List (AV × AV × Nat) → Nat → AV → List (AV × AV × Nat)
 | [], _, _ => []
 | (k, _, b) :: r, 0, v => (k, v, b) :: r
 | x :: r, i + 1, v => x :: setVal r i v
def setBorn : List (AV × AV × Nat) → Nat → AV → Option (List (AV × AV × Nat))
 | [], _, _ => none
 | (k, w, b) :: r, n, v => if Nat.beq b n then some ((k, v, b) :: r) else
  match setBorn r n v with
  | some l => some ((k, w, b) :: l)
  | none => none
def fillP (places : List (Nat × Nat)) (cells : List AV) : List (Nat × AV) → Option (List AV)
 | [] => some cells
 | (i, v) :: rest =>
  match places[i]? with
  | none => none
  | some (off, size) =>
   let vc := v.cells
   if Nat.beq vc.length size && Nat.ble (off + size) cells.length then fillP places (cells.take off ++ vc ++ cells.drop (off + size)) rest else none
def zeros (z : List AV) : Nat → List AV
 | 0 => []
 | n + 1 => z ++ zeros z n
def sliceCells (h : PT AObj) (size : Nat) : AV → Option (List AV)
 | .nilslice => some []
 | .slice0 _ => some []
 | .slice b o len _ =>
  match h.get b with
  | some (.cells c n _) => if Nat.ble (o + len * size) n then c.getAll o (len * size) else none
  | _ => none
 | .str s => if Nat.beq size 1 then some (s.data.toList.map fun x => .int .u8 x.toNat) else none
 | _ => none
def avLen : AV → Option Nat
 | .nilslice => some 0
 | .slice0 _ => some 0
 | .slice _ _ n _ => some n
 | .str s => some s.size
 | _ => none
def ones : List AV → Bool
 | [] => true
 | .agg _ :: _ => false
 | .tuple _ :: _ => false
 | _ :: r => ones r
def wr : Option (Nat × Nat) → Bool
 | some (_, 0) => false
 | _ => true
def writeAll (s : St) (b o : Nat) (vs : List AV) : Option St :=
 match s.h.get b with
 | some (.cells c n tl) => if ones vs && Nat.ble (o + vs.length) n && wr tl then some { s with h := s.h.set b (.cells (c.setAll o vs) n tl) } else none
 | _ => none
def pow48 : Nat := 281474976710656
def growA (s : St) (h : PT AObj) (size need : Nat) (cells : List AV) : AV × St :=
 (.slice s.nx 0 need (.var s.nc 0), { s with h := h.set s.nx (.cells (PT.setAll .nil 0 cells) (need * size) (some (s.nc, size))), nx := s.nx + 1, nc := s.nc + 1 })
def appendC (s : St) (size : Nat) (x : AV) (m : Nat) (old new : List AV) : Option (AV × St) :=
 match x with
 | .nilslice => some (growA s s.h size m new)
 | .slice0 true => some (growA s s.h size m new)
 | .slice b o n (.exact c) =>
  match Nat.ble (n + m) c with
  | true =>
   match writeAll s b (o + n * size) new with
   | some s' => some (.slice b o (n + m) (.exact c), s')
   | none => none
  | false => some (growA s s.h size (n + m) (old ++ new))
 | .slice b o n (.var k sub) =>
  match s.h.get b with
  | some (.cells _ _ (some (k', sz))) => if Nat.beq k k' && Nat.beq sz size && Nat.beq o (sub * sz) && ones new && Nat.blt 0 sz then some (growA s (s.h.del b) size (n + m) (old ++ new)) else none
  | _ => none
 | _ => none
def isSl : AV → Bool
 | .nilslice => true
 | .slice0 _ => true
 | .slice .. => true
 | _ => false
def appendB (s : St) (size bytes : Nat) (x y : AV) : Option (AV × St) :=
 match avLen x, sliceCells s.h size x, avLen y, sliceCells s.h size y with
 | some n, some old, some m, some new =>
  match m with
  | 0 => if isSl x then some (x, s) else none
  | m + 1 => if Nat.ble ((n + (m + 1) + (n + (m + 1)) / 4 + 600) * bytes) pow48 && Nat.ble (n + (m + 1)) pow48 then appendC s size x (m + 1) old new else none
 | _, _, _, _ => none
def isSeq : TD → Bool
 | .slice _ => true
 | .string => true
 | _ => false
def appendA (D : Tab) (s : St) (sT xT : TypeId) (x y : AV) : Option (AV × St) :=
 match D.ty.get sT, D.ty.get xT with
 | some i, some xi =>
  match i.d with
  | .slice e =>
   match D.ty.get e with
   | some ei => (match ei.zero with | some z => if isSeq xi.d && Nat.beq z.cells.length ei.size then appendB s ei.size ei.bytes x y else none | none => none)
   | none => none
  | _ => none
 | _, _ => none
def oneInt : AV → Option (IntKind × Int)
 | .int k n => some (k, n)
 | _ => none
def optInt (d : Nat) : Option AV → Option Nat
 | none => some d
 | some (.int _ n) => if 0 ≤ n then some n.toNat else none
 | some _ => none
def capSub (c : ACap) (l : Nat) : ACap :=
 match c with
 | .exact n => .exact (n - l)
 | .var k s => .var k (s + l)
def sliceStr (s : ByteArray) (l h : Option Nat) : Option AV :=
 match l, h with
 | some l, some h => if Nat.ble l h && Nat.ble h s.size then some (.str (s.extract l h)) else none
 | _, _ => none
def sliceEx (size b o c l h m : Nat) : Option AV :=
 if Nat.ble l h && Nat.ble h m && Nat.ble m c then some (.slice b (match Nat.beq m l with | true => o | false => o + l * size) (h - l) (.exact (m - l))) else none
def sliceVar (size b o len k s l h : Nat) : Option AV :=
 if Nat.ble l h && Nat.ble h len then (match Nat.blt l len with | true => some (.slice b (o + l * size) (h - l) (.var k (s + l))) | false => some (.slice0 false)) else none
def natOf : AV → Option Nat
 | .int _ n => if 0 ≤ n then some n.toNat else none
 | _ => none
def sliceSl (size b o len : Nat) (cap : ACap) (l h : Option Nat) (hi mx : Option AV) : Option AV :=
 match l, h with
 | some l, some h =>
  match mx with
  | none =>
   match cap with
   | .exact c => sliceEx size b o c l h c
   | .var k s => sliceVar size b o len k s l h
  | some m =>
   match natOf m, hi with
   | some m, some _ =>
    match cap with
    | .exact c => sliceEx size b o c l h m
    | .var _ _ => sliceEx size b o len l h m
   | _, _ => none
 | _, _ => none
def slice00 (z : Bool) : Option Nat → Option Nat → Option AV → Option AV → Option AV
 | some 0, some 0, _, none => some (.slice0 z)
 | some 0, some 0, some _, some (.int _ 0) => some (.slice0 true)
 | _, _, _, _ => none
def sliceNil : Option Nat → Option Nat → Option AV → Option AV → Option AV
 | some 0, some 0, _, none => some .nilslice
 | some 0, some 0, some _, some (.int _ 0) => some .nilslice
 | _, _, _, _ => none
def sliceA (D : Tab) (t : TypeId) (x : AV) (lo hi mx : Option AV) : Option AV :=
 match D.ty.get t with
 | none => none
 | some i =>
  match i.d with
  | .string =>
   match x, mx with
   | .str s, none => sliceStr s (optInt 0 lo) (optInt s.size hi)
   | _, _ => none
  | .slice e =>
   match D.ty.get e with
   | none => none
   | some ei =>
    match x with
    | .nilslice => sliceNil (optInt 0 lo) (optInt 0 hi) hi mx
    | .slice0 z => slice00 z (optInt 0 lo) (optInt 0 hi) hi mx
    | .slice b o len cap => sliceSl ei.size b o len cap (optInt 0 lo) (optInt len hi) hi mx
    | _ => none
  | .array n e =>
   match D.ty.get e with
   | none => none
   | some ei =>
    match x, mx, optInt 0 lo, optInt n hi with
    | .ptr b o, none, some l, some h => sliceEx ei.size b o n l h n
    | _, _, _, _ => none
  | _ => none
def storeA (D : Tab) (s : St) (t : TypeId) (a v : AV) : Option St :=
 match D.ty.get t, a with
 | some i, .ptr b o => let vs := v.cells; if Nat.beq vs.length i.size then writeAll s b o vs else none
 | _, _ => none
def loadA (D : Tab) (s : St) (t : TypeId) (a : AV) : Option AV :=
 match D.ty.get t, a with
 | some i, .ptr b o =>
  match s.h.get b with
  | some (.cells c n _) =>
   match i.d with
   | .struct _ | .array _ _ => if Nat.ble (o + i.size) n then (c.getAll o i.size).map .agg else none
   | _ => if Nat.blt o n then c.get o else none
  | _ => none
 | _, _ => none
def entriesA (s : St) : AV → Option (List (AV × AV × Nat))
 | .nilmap => some []
 | .map b => (match s.h.get b with | some (.map es _) => some es | _ => none)
 | _ => none
def lookupA (D : Tab) (s : St) (t : TypeId) (m k : AV) (ok : Bool) : Option AV :=
 match D.ty.get t with
 | some { d := .map kt et, .. } =>
  if !keyOk D kt k then none else
  match entriesA s m with
  | none => none
  | some es =>
   match findK D s.h kt k es 0 with
   | none => none
   | some (some (_, v)) => some (if ok then .tuple [v, .bool true] else v)
   | some none =>
    match D.ty.get et with
    | some ei =>
     match ei.zero with
     | some v => some (if ok then .tuple [v, .bool false] else v)
     | none => none
    | none => none
 | _ => none
def mapUpdA (D : Tab) (s : St) (t : TypeId) (m k v : AV) : Option St :=
 match D.ty.get t, m with
 | some { d := .map kt _, .. }, .map b =>
  if !keyOk D kt k then none else
  match s.h.get b with
  | some (.map es clock) =>
   match findK D s.h kt k es 0 with
   | none => none
   | some (some (i, _)) => some { s with h := s.h.set b (.map (setVal es i v) clock) }
   | some none => some { s with h := s.h.set b (.map (es ++ [(k, v, clock)]) (clock + 1)) }
  | _ => none
 | _, _ => none
def zeroAV (D : Tab) (t : TypeId) : Option AV :=
 match D.ty.get t with
 | some ei => ei.zero
 | none => none
def eraseAt : List (AV × AV × Nat) → Nat → List (AV × AV × Nat)
 | [], _ => []
 | _ :: r, 0 => r
 | x :: r, i + 1 => x :: eraseAt r i
def maxA : AV → List AV → Bool → Option AV
 | x, [], _ => some x
 | .int k x, .int _ y :: r, gt => maxA (.int k (if gt then (if y > x then y else x) else (if y < x then y else x))) r gt
 | _, _, _ => none
def firstA (h : PT AObj) (size k : Nat) : AV → Option (List AV)
 | .nilslice => some []
 | .slice0 _ => (match k with | 0 => some [] | _ => none)
 | .slice b o _ _ =>
  match h.get b with
  | some (.cells c n _) => if Nat.ble (o + k * size) n then c.getAll o (k * size) else none
  | _ => none
 | .str s => if Nat.beq size 1 then some ((s.data.toList.take k).map fun x => .int .u8 x.toNat) else none
 | _ => none
def copyA (D : Tab) (s : St) (t : TypeId) (x y : AV) : Option (AV × St) :=
 match D.ty.get t with
 | some i =>
  match i.d with
  | .slice e =>
   match D.ty.get e with
   | some ei =>
    match avLen x, avLen y with
    | some n, some m =>
     match firstA s.h ei.size (min m n) y with
     | some new =>
      match x with
      | .nilslice => some (.int .i64 0, s)
      | .slice b o _ _ => (match writeAll s b o new with | some s' => some (.int .i64 (min m n : Nat), s') | none => none)
      | _ => none
     | none => none
    | _, _ => none
   | none => none
  | _ => none
 | none => none
def clearA (D : Tab) (s : St) (t : TypeId) (x : AV) : Option (AV × St) :=
 match D.ty.get t, x with
 | some i, .slice b o (n + 1) _ =>
  match i.d with
  | .slice e =>
   match D.ty.get e with
   | some ei => (match ei.zero with | some z => (match writeAll s b o (zeros z.cells (n + 1)) with | some s' => some (.tuple [], s') | none => none) | none => none)
   | none => none
  | _ => none
 | some _, .slice _ _ 0 _ => some (.tuple [], s)
 | some _, .nilslice => some (.tuple [], s)
 | some _, .nilmap => some (.tuple [], s)
 | some _, .map b =>
  match s.h.get b with
  | some (.map _ clock) => some (.tuple [], { s with h := s.h.set b (.map [] clock) })
  | _ => none
 | _, _ => none
def lenA (D : Tab) (s : St) (t : TypeId) (x : AV) : Option AV :=
 match D.ty.get t with
 | some i =>
  match i.d, x with
  | .string, .str x => some (.int .i64 x.size)
  | .slice _, .nilslice => some (.int .i64 0)
  | .slice _, .slice _ _ n _ => some (.int .i64 n)
  | .slice _, .slice0 _ => some (.int .i64 0)
  | .slice _, .ssl _ n _ => some (.tm .i64 n)
  | .map _ _, .nilmap => some (.int .i64 0)
  | .map _ _, .map m => (match s.h.get m with | some (.map es _) => some (.int .i64 es.length) | _ => none)
  | .array n _, _ => some (.int .i64 n)
  | _, _ => none
 | none => none
def capA (D : Tab) (t : TypeId) (x : AV) : Option AV :=
 match D.ty.get t with
 | some i =>
  match i.d, x with
  | .slice _, .nilslice => some (.int .i64 0)
  | .slice _, .slice _ _ _ (.exact n) => some (.int .i64 n)
  | .slice _, .slice0 true => some (.int .i64 0)
  | _, _ => none
 | none => none
def deleteA (D : Tab) (s : St) (t : TypeId) (m k : AV) : Option (AV × St) :=
 match D.ty.get t with
 | some i =>
  match i.d with
  | .map kt _ =>
   if keyOk D kt k then
    match m with
    | .nilmap => some (.tuple [], s)
    | .map b =>
     match s.h.get b with
     | some (.map es clock) =>
      match findK D s.h kt k es 0 with
      | none => none
      | some (some (i, _)) => some (.tuple [], { s with h := s.h.set b (.map (eraseAt es i) clock) })
      | some none => some (.tuple [], { s with h := s.h.set b (.map es clock) })
     | _ => none
    | _ => none
   else none
  | _ => none
 | none => none
def st1 (s : St) : Option AV → Option (AV × St)
 | some v => some (v, s)
 | none => none
def tmOf : AV → Option (IntKind × Tm)
 | .int k n => some (k, .c n)
 | .tm k t => some (k, t)
 | _ => none
def isTm : AV → Bool
 | .tm _ _ => true
 | _ => false
def inR (fs : List Fm) (u n : Tm) : Bool :=
 match decLt fs u (.c 0), decLt fs u n with
 | some false, some true => true
 | _, _ => false
structure RowP where
 b : Nat
 ks : List IntKind
 A : ATm
 n : Tm
 tl : Option (Nat × Nat)
 u : Tm
 o : Nat
def rowAt (h : PT AObj) : AV → Option RowP
 | .sptr b u z o =>
  match h.get b with
  | some (.arr ks A n tl) => (match Nat.beq z ks.length with | true => some ⟨b, ks, A, n, tl, u, o⟩ | false => none)
  | _ => none
 | .ptr b o =>
  match h.get b with
  | some (.arr ks A n tl) => some ⟨b, ks, A, n, tl, .c (Nat.div o ks.length), Nat.mod o ks.length⟩
  | _ => none
 | _ => none
def selsFrom (p : RowP) (o : Nat) : Nat → Option (List AV)
 | 0 => some []
 | m + 1 =>
  match p.ks[o]?, selsFrom p (o + 1) m with
  | some k, some l => some (.tm k (.sel p.A p.u p.ks.length o) :: l)
  | _, _ => none
def symLoad (D : Tab) (fs : List Fm) (t : TypeId) (p : RowP) : Option AV :=
 match D.ty.get t with
 | none => none
 | some i =>
  match inR fs p.u p.n, Nat.blt 0 i.size, selsFrom p p.o i.size with
  | true, true, some l =>
   match i.d with
   | .struct _ | .array _ _ => some (.agg l)
   | _ => (match l with | [v] => some v | _ => none)
  | _, _, _ => none
def loadX (D : Tab) (s : St) (t : TypeId) (a : AV) : Option AV :=
 match rowAt s.h a with
 | some p => symLoad D s.fs t p
 | none => loadA D s t a
def updsFrom (ks : List IntKind) (u : Tm) (o : Nat) : List AV → ATm → Option ATm
 | [], A => some A
 | x :: r, A =>
  match ks[o]?, tmOf x with
  | some k, some (k', y) => if k = k' then updsFrom ks u (o + 1) r (.upd A u ks.length o y) else none
  | _, _ => none
def symStore (D : Tab) (s : St) (t : TypeId) (p : RowP) (v : AV) : Option St :=
 match D.ty.get t with
 | none => none
 | some i =>
  match Nat.beq v.cells.length i.size, Nat.blt 0 i.size && inR s.fs p.u p.n, updsFrom p.ks p.u p.o v.cells p.A with
  | true, true, some A => some { s with h := s.h.set p.b (.arr p.ks A p.n p.tl) }
  | _, _, _ => none
def storeX (D : Tab) (s : St) (t : TypeId) (a v : AV) : Option St :=
 match rowAt s.h a with
 | some p => symStore D s t p v
 | none => storeA D s t a v
def isSsl : AV → Bool
 | .ssl .. => true
 | _ => false
def symIdx (D : Tab) (fs : List Fm) (t : TypeId) (x i : AV) : Option AV :=
 match D.ty.get t, tmOf i with
 | some ti, some (_, u) =>
  match ti.d with
  | .array n e =>
   match D.ty.get e, x with
   | some ei, .ptr b o => (match inR fs u (.c n) with | true => some (.sptr b u ei.size o) | false => none)
   | _, _ => none
  | .slice e =>
   match D.ty.get e, x with
   | some ei, .ssl b len _ => (match inR fs u len with | true => some (.sptr b u ei.size 0) | false => none)
   | _, _ => none
  | _ => none
 | _, _ => none
def symAppend (D : Tab) (s : St) (sT xT : TypeId) (b : Nat) (len : Tm) (k : Nat) (y : AV) : Option (AV × St) :=
 match D.ty.get sT, D.ty.get xT, s.h.get b with
 | some i, some xi, some (.arr ks A n (some (k', z'))) =>
  match i.d with
  | .slice e =>
   match D.ty.get e with
   | some ei =>
    match ei.zero, avLen y, sliceCells s.h ei.size y, ub s.fs 3 len with
    | some z, some 1, some new, some K =>
     if isSeq xi.d && Nat.beq z.cells.length ei.size && Nat.beq k k' && Nat.beq z' ei.size && Nat.beq ks.length ei.size && n.beq len && decide (K ≤ 1000000) && Nat.ble (3100000 * ei.bytes) pow48 && Nat.blt 0 ei.size then
      match updsFrom ks len 0 new A with
      | some A' =>
       some (.ssl s.nx (.op .add .i64 len (.c 1)) (.var s.nc 0),
        { s with h := (s.h.del b).set s.nx (.arr ks A' (.op .add .i64 len (.c 1)) (some (s.nc, ei.size))), nx := s.nx + 1, nc := s.nc + 1 })
      | none => none
     else none
    | _, _, _, _ => none
   | none => none
  | _ => none
 | _, _, _ => none
def appendX (D : Tab) (s : St) (sT xT : TypeId) (x y : AV) : Option (AV × St) :=
 match x with
 | .ssl b len (.var k 0) => symAppend D s sT xT b len k y
 | x => appendA D s sT xT x y
def builtinA (D : Tab) (s : St) (b : Builtin) (ats : List TypeId) (args : List AV) : Option (AV × St) :=
 match b with
 | .len => (match ats, args with | [t], [x] => st1 s (lenA D s t x) | _, _ => none)
 | .cap => (match ats, args with | [t], [x] => st1 s (capA D t x) | _, _ => none)
 | .max => (match args with | x :: r => st1 s (maxA x r true) | _ => none)
 | .min => (match args with | x :: r => st1 s (maxA x r false) | _ => none)
 | .append => (match ats, args with | [t, u], [x, y] => appendX D s t u x y | _, _ => none)
 | .copy => (match ats, args with | [t, _], [x, y] => copyA D s t x y | _, _ => none)
 | .delete => (match ats, args with | [t, _], [m, k] => deleteA D s t m k | _, _ => none)
 | .clear => (match ats, args with | [t], [x] => clearA D s t x | _, _ => none)
 | _ => none
def asBytes : List AV → Option (List UInt8)
 | [] => some []
 | .int .u8 n :: r =>
  match asBytes r with
  | some l => some (UInt8.ofNat n.toNat :: l)
  | none => none
 | _ => none
def bytesOf (s : St) : AV → Option ByteArray
 | .nilslice => some .empty
 | .slice b o len _ =>
  match s.h.get b with
  | some (.cells c n _) =>
   if Nat.ble (o + len) n then
    match c.getAll o len with
    | some l => (match asBytes l with | some bs => some ⟨bs.toArray⟩ | none => none)
    | none => none
   else none
  | _ => none
 | _ => none
def isByte (D : Tab) (e : TypeId) : Bool :=
 match D.ty.get e with
 | some i => (match i.d with | .int .u8 => Nat.beq i.size 1 | _ => false)
 | none => false
def newBytes (s : St) (t : ByteArray) : AV × St :=
 (.slice s.nx 0 t.size (.var s.nc 0), { s with h := s.h.set s.nx (.cells (PT.setAll .nil 0 (t.data.toList.map fun b => .int .u8 b.toNat)) t.size (some (s.nc, 1))), nx := s.nx + 1, nc := s.nc + 1 })
def markA (s : St) (x : AV) : Option (AV × St) :=
 match x with
 | .slice b _ _ _ =>
  match s.h.get b with
  | some (.cells c n none) => some (x, { s with h := s.h.set b (.cells c n (some (s.nc, 1))), nc := s.nc + 1 })
  | _ => none
 | _ => none
def convS (D : Tab) (s : St) (src dst : TypeId) (x : AV) : Option (AV × St) :=
 match D.ty.get src, D.ty.get dst with
 | some i, some j =>
  match i.d, j.d with
  | _, .int k => (match x with | .int _ n => some (.int k (k.wrap n), s) | .tm _ t => some (.tm k (.cv k t), s) | _ => none)
  | .string, .string => (match x with | .str b => some (.str b, s) | _ => none)
  | .slice e, .string => if isByte D e then (match bytesOf s x with | some b => some (.str b, s) | none => none) else none
  | .string, .slice e => if isByte D e then (match x with | .str t => some (newBytes s t) | _ => none) else none
  | .slice e, .slice _ => if Nat.beq src dst && isByte D e then markA s x else none
  | _, _ => none
 | _, _ => none
def lastN : List Nat → Option Nat
 | [] => none
 | [x] => some x
 | _ :: r => lastN r
def findBorn : List (AV × AV × Nat) → Nat → Option AV
 | [], _ => none
 | (k, v, b) :: r, n => if Nat.beq b n then some (.tuple [k, v]) else findBorn r n
def mapEntryA (D : Tab) (s : St) (t : TypeId) (m k : AV) : Option (AV × St) :=
 match D.ty.get t, m with
 | some { d := .map kt et, .. }, .map b =>
  if !keyOk D kt k then none else
  match s.h.get b with
  | some (.map es clock) =>
   match findK D s.h kt k es 0 with
   | none => none
   | some (some (i, v)) => match es[i]? with | some (_, _, born) => some (.tuple [v, .int .i64 born], s) | none => none
   | some none =>
    match zeroAV D et with
    | some z => some (.tuple [z, .int .i64 clock], { s with h := s.h.set b (.map (es ++ [(k, z, clock)]) (clock + 1)) })
    | none => none
  | _ => none
 | _, _ => none
def entryStoreA (s : St) (m st x : AV) : Option St :=
 match m, st with
 | .map b, .int _ n =>
  match s.h.get b with
  | some (.map es clock) => if 0 ≤ n then (match setBorn es n.toNat x with | some es' => some { s with h := s.h.set b (.map es' clock) } | none => none) else none
  | _ => none
 | _, _ => none
def entryA (s : St) (it : AV) : Option AV :=
 match it with
 | .ptr r 0 =>
  match s.h.get r with
  | some (.iter (some m) _ seen stepped) =>
   match s.h.get m, lastN seen with
   | some (.map es clock), some stamp => (match Nat.beq clock stepped with | true => findBorn es stamp | false => none)
   | _, _ => none
  | _ => none
 | _ => none
inductive Do where
 | val (v : AV) (s : St)
 | enter (f : FuncId) (args : List AV)
 | round (l : Nat) (args : List AV)
 | next (it : AV) (str : Bool)
def v1 (s : St) : Option AV → Option Do
 | some v => some (.val v s)
 | none => none
def v2 : Option (AV × St) → Option Do
 | some (v, s) => some (.val v s)
 | none => none
def u1 : Option St → Option Do
 | some s => some (.val .undef s)
 | none => none
def unA (op : UnOp) (x : AV) : Option AV :=
 match op, x with
 | .not, .bool b => some (.bool !b)
 | .neg, .int k n => some (.int k (k.wrap (0 - n)))
 | .xor, .int k n => some (.int k (k.wrap (BitVec.ofInt k.bits (if k.signed then -1 else k.max) ^^^ BitVec.ofInt k.bits n).toNat))
 | _, _ => none
def placesA (D : Tab) : List (TypeId × Nat × Bool) → Option (List (Nat × Nat))
 | [] => some []
 | (t, off, _) :: r =>
  match D.ty.get t, placesA D r with
  | some i, some l => some ((off, i.size) :: l)
  | _, _ => none
def newCells (s : St) (vs : List AV) : Nat × St := s.new (.cells (PT.setAll .nil 0 vs) vs.length none)
def makeSliceA (D : Tab) (s : St) (t : TypeId) (l c : AV) : Option (AV × St) :=
 match D.ty.get t, l, c with
 | some i, .int _ n, .int _ m =>
  match i.d with
  | .slice e =>
   match D.ty.get e with
   | some ei =>
    match ei.zero with
    | some z =>
     if 0 ≤ n && n ≤ m && decide (m ≤ 281474976710656) && Nat.ble (ei.bytes * m.toNat) pow48 && Nat.beq z.cells.length ei.size then
      some (.slice (newCells s (zeros z.cells m.toNat)).1 0 n.toNat (.exact m.toNat), (newCells s (zeros z.cells m.toNat)).2)
     else none
    | none => none
   | none => none
  | _ => none
 | _, _, _ => none
def buildSliceA (D : Tab) (s : St) (t : TypeId) (n : Nat) (is : List Nat) (vs : List AV) : Option (AV × St) :=
 match D.ty.get t with
 | some i =>
  match i.d with
  | .slice e =>
   match D.ty.get e with
   | some ei =>
    match ei.zero with
    | some z =>
     if Nat.ble (n * ei.size) 10000 && Nat.beq z.cells.length ei.size then
      match fillP ((List.range n).map fun i => (i * ei.size, ei.size)) (zeros z.cells n) (is.zip vs) with
      | some cs => some (.slice (newCells s cs).1 0 n (.exact n), (newCells s cs).2)
      | none => none
     else none
    | none => none
   | none => none
  | _ => none
 | none => none
def isC : Operand → Bool
 | .const _ => true
 | _ => false
def nilIfs (x y : Operand) : AV → AV → Bool
 | .nilIface, .nilIface => !(isC x || isC y)
 | _, _ => false
def allocA (D : Tab) (s : St) (t : TypeId) : Option (AV × St) :=
 match D.ty.get t with
 | some i => (match i.zero with | some z => some (.ptr (newCells s z.cells).1 0, (newCells s z.cells).2) | none => none)
 | none => none
def boxA (s : St) (v : AV) : AV × St := (.ptr (newCells s v.cells).1 0, (newCells s v.cells).2)
def buildA (D : Tab) (t : TypeId) (is : List Nat) (vs : List AV) : Option AV :=
 match D.ty.get t with
 | some i =>
  match i.zero with
  | some z =>
   match i.d with
   | .struct fs =>
    match placesA D fs with
    | some pl => (match fillP pl z.cells (is.zip vs) with | some cs => some (.agg cs) | none => none)
    | none => none
   | .array n e =>
    match D.ty.get e with
    | some ei => (match fillP ((List.range n).map fun i => (i * ei.size, ei.size)) z.cells (is.zip vs) with | some cs => some (.agg cs) | none => none)
    | none => none
   | _ => none
  | none => none
 | none => none
def nilCheckA : AV → Option AV
 | .ptr b o => some (.ptr b o)
 | .sptr b t z o => some (.sptr b t z o)
 | .func f a c => some (.func f a c)
 | _ => none
def isEq : BinOp → Option Bool
 | .eql => some true
 | .neq => some false
 | _ => none
def isSh : BinOp → Bool
 | .shl => true
 | .shr => true
 | _ => false
def eqA (D : Tab) (s : St) (op : BinOp) (t : TypeId) (x y : Operand) (a b : AV) : Option AV :=
 match isEq op with
 | some yes =>
  match nilIfs x y a b with
  | true => none
  | false => (match aeq D s.h depth t a b with | some r => some (.bool (if yes then r else !r)) | none => none)
 | none => none
def symA (s : St) (op : BinOp) (a b : AV) : Option AV :=
 match tmOf a, tmOf b with
 | some (k, x), some (k', y) =>
  if k = k' then
   match isCmp op with
   | true => (match cmpT s.fs op x y with | some r => some (.bool r) | none => none)
   | false => (match isArith op with | true => some (.tm k (.op op k x y)) | false => none)
  else none
 | _, _ => none
def binB (D : Tab) (s : St) (op : BinOp) (t : TypeId) (x y : Operand) (a b : AV) : Option AV :=
 match a with
 | .int k n =>
  match b with
  | .int k' m => (match isSh op with | true => shf op k n m | false => if k = k' then bin op k n m else none)
  | _ => none
 | .str u => (match b with | .str v => sbin op u v | _ => none)
 | _ => eqA D s op t x y a b
def binA (D : Tab) (s : St) (op : BinOp) (t : TypeId) (x y : Operand) (a b : AV) : Option AV :=
 match isTm a || isTm b with
 | true => symA s op a b
 | false => binB D s op t x y a b
def ifaceA (D : Tab) (t : TypeId) (v : AV) : Option AV :=
 match D.ty.get t with
 | some i => (match i.d with | .iface => none | _ => some (.iface t v))
 | none => none
def fieldAddrB (D : Tab) (t : TypeId) (x : AV) (f : Nat) : Option AV :=
 match x, D.ty.get t with
 | .ptr b o, some i =>
  match i.d with
  | .struct fs =>
   match fs[f]? with
   | some y =>
    match D.ty.get y.1 with
    | some fi => (match fi.size with | 0 => none | _ + 1 => some (.ptr b (o + y.2.1)))
    | none => none
   | none => none
  | _ => none
 | _, _ => none
def fieldAddrS (D : Tab) (t : TypeId) (b : Nat) (u : Tm) (z o : Nat) (f : Nat) : Option AV :=
 match D.ty.get t with
 | some i =>
  match i.d with
  | .struct fs =>
   match fs[f]? with
   | some y =>
    match D.ty.get y.1 with
    | some fi => (match fi.size with | 0 => none | _ + 1 => some (.sptr b u z (o + y.2.1)))
    | none => none
   | none => none
  | _ => none
 | none => none
def fieldAddrA (D : Tab) (t : TypeId) (x : AV) (f : Nat) : Option AV :=
 match x with
 | .sptr b u z o => fieldAddrS D t b u z o f
 | x => fieldAddrB D t x f
def fieldA (D : Tab) (t : TypeId) (x : AV) (f : Nat) : Option AV :=
 match D.ty.get t with
 | some i =>
  match i.d with
  | .struct fs =>
   match fs[f]? with
   | some y => (match D.ty.get y.1 with | some fi => fieldOf fi x y.2.1 | none => none)
   | none => none
  | _ => none
 | none => none
def indexAddrA (D : Tab) (t : TypeId) (x i : AV) : Option AV :=
 match D.ty.get t, natOf i with
 | some ti, some n =>
  match ti.d with
  | .array len e =>
   match D.ty.get e, x with
   | some ei, .ptr b o => if Nat.blt n len then some (.ptr b (o + n * ei.size)) else none
   | _, _ => none
  | .slice e =>
   match D.ty.get e, x with
   | some ei, .slice b o len _ => if Nat.blt n len then some (.ptr b (o + n * ei.size)) else none
   | _, _ => none
  | _ => none
 | _, _ => none
def indexAddrX (D : Tab) (s : St) (t : TypeId) (x i : AV) : Option AV :=
 match isTm i || isSsl x with
 | true => symIdx D s.fs t x i
 | false => indexAddrA D t x i
def indexA (D : Tab) (t : TypeId) (x i : AV) : Option AV :=
 match D.ty.get t, natOf i with
 | some ti, some n =>
  match ti.d with
  | .array len e =>
   match D.ty.get e with
   | some ei => if Nat.blt n len then fieldOf ei x (n * ei.size) else none
   | none => none
  | .string => (match x with | .str b => (match b.data.toList[n]? with | some c => some (.int .u8 c.toNat) | none => none) | _ => none)
  | _ => none
 | _, _ => none
def rangeA (D : Tab) (s : St) (t : TypeId) (x : AV) : Option (AV × St) :=
 match D.ty.get t with
 | some i =>
  match i.d with
  | .map _ _ =>
   match x with
   | .nilmap => some (.ptr (s.new (.iter none 0 [] 0)).1 0, (s.new (.iter none 0 [] 0)).2)
   | .map b =>
    match s.h.get b with
    | some (.map _ clock) => some (.ptr (s.new (.iter (some b) clock [] clock)).1 0, (s.new (.iter (some b) clock [] clock)).2)
    | _ => none
   | _ => none
  | _ => none
 | none => none
def extractA (x : AV) (i : Nat) : Option AV :=
 match x with
 | .tuple vs => vs[i]?
 | _ => none
def evOpt (T : PT AV) : Option Operand → Option (Option AV)
 | none => some none
 | some x => (match ev T x with | some a => some (some a) | none => none)
def callA (D : Tab) (s : St) (f : AV) (args : List AV) : Option Do :=
 match f with
 | .func g first caps =>
  match D.fn.get g with
  | some _ => some (.enter g (first ++ args ++ caps))
  | none =>
   match lookN D.ext g with
   | some e => v1 s (e (first ++ args ++ caps))
   | none => (match lookN D.xst g with | some e => v2 (e s (first ++ args ++ caps)) | none => none)
 | .yld l => some (.round l args)
 | _ => none
def invokeA (D : Tab) (s : St) (r : AV) (name : String) (args : List AV) : Option Do :=
 match r with
 | .iface t v => (match D.ms t name with | some f => callA D s (.func f [] []) (v :: args) | none => none)
 | _ => none
def assertA (D : Tab) (x : AV) (t : TypeId) (ok : Bool) : Option AV :=
 match D.ty.get t with
 | none => none
 | some i =>
  match i.d with
  | .iface => none
  | _ =>
   match x with
   | .iface u v =>
    match Nat.beq u t, ok with
    | true, true => some (.tuple [v, .bool true])
    | true, false => some v
    | false, true => (match zeroAV D t with | some z => some (.tuple [z, .bool false]) | none => none)
    | false, false => none
   | .nilIface =>
    match ok with
    | true => (match zeroAV D t with | some z => some (.tuple [z, .bool false]) | none => none)
    | false => none
   | _ => none
def pickA (T : PT AV) (c : AV) (a b : Operand) : Option AV :=
 match c with
 | .bool true => ev T a
 | .bool false => ev T b
 | _ => none
def ev2 (T : PT AV) (x y : Operand) (k : AV → AV → Option Do) : Option Do :=
 match ev T x with
 | some a => (match ev T y with | some b => k a b | none => none)
 | none => none
def ev1 (T : PT AV) (x : Operand) (k : AV → Option Do) : Option Do :=
 match ev T x with
 | some a => k a
 | none => none
def fnOp (T : PT AV) (s : St) (fn : Fn) (first caps : Array Operand) : Option Do :=
 match fn with
 | .func f => (match evAll T first.toList, evAll T caps.toList with | some a, some b => some (.val (.func f a b) s) | _, _ => none)
 | _ => none
def sliceOp (D : Tab) (T : PT AV) (s : St) (t : TypeId) (v : AV) (lo hi mx : Option Operand) : Option Do :=
 match evOpt T lo, evOpt T hi, evOpt T mx with
 | some l, some h, some m => v1 s (sliceA D t v l h m)
 | _, _, _ => none
def callOp (D : Tab) (T : PT AV) (s : St) (c : Call) : Option Do :=
 match evAll T c.args.toList with
 | none => none
 | some args =>
  match c.callee with
  | .builtin b => v2 (builtinA D s b c.argTypes.toList args)
  | .value f => ev1 T f fun g => callA D s g args
  | .invoke r name => ev1 T r fun v => invokeA D s v name args
def opA (D : Tab) (T : PT AV) (s : St) (op : Op) : Option Do :=
 match op with
 | .move x => v1 s (ev T x)
 | .assign x => v1 s (ev T x)
 | .pick c a b => ev1 T c fun v => v1 s (pickA T v a b)
 | .alloc t => v2 (allocA D s t)
 | .box _ x => ev1 T x fun v => v2 (some (boxA s v))
 | .build t ps => (match evAll T (ps.toList.map (·.2)) with | some vs => v1 s (buildA D t (ps.toList.map (·.1)) vs) | none => none)
 | .buildSlice t n ps => (match evAll T (ps.toList.map (·.2)) with | some vs => v2 (buildSliceA D s t n (ps.toList.map (·.1)) vs) | none => none)
 | .load t a => ev1 T a fun p => v1 s (loadX D s t p)
 | .store t a v => ev2 T a v fun p x => u1 (storeX D s t p x)
 | .nilCheck x => ev1 T x fun v => v1 s (nilCheckA v)
 | .binOp op t x y _ => ev2 T x y fun a b => v1 s (binA D s op t x y a b)
 | .unOp op _ x => ev1 T x fun v => v1 s (unA op v)
 | .convert a b x => ev1 T x fun v => v2 (convS D s a b v)
 | .makeInterface t x => ev1 T x fun v => v1 s (ifaceA D t v)
 | .makeFunc fn first caps => fnOp T s fn first caps
 | .makeMap _ none => v2 (some (.map (s.new (.map [] 0)).1, (s.new (.map [] 0)).2))
 | .makeSlice t l c => ev2 T l c fun a b => v2 (makeSliceA D s t a b)
 | .slice t x lo hi mx => ev1 T x fun v => sliceOp D T s t v lo hi mx
 | .fieldAddr t x f => ev1 T x fun v => v1 s (fieldAddrA D t v f)
 | .field t x f => ev1 T x fun v => v1 s (fieldA D t v f)
 | .indexAddr t x i => ev2 T x i fun a b => v1 s (indexAddrX D s t a b)
 | .index t x i => ev2 T x i fun a b => v1 s (indexA D t a b)
 | .lookup t m k ok => ev2 T m k fun a b => v1 s (lookupA D s t a b ok)
 | .mapUpdate t m k v => ev2 T m k fun a b => ev1 T v fun c => u1 (mapUpdA D s t a b c)
 | .insert t m k v => ev2 T m k fun a b => ev1 T v fun c => u1 (mapUpdA D s t a b c)
 | .mapEntry t m k => ev2 T m k fun a b => v2 (mapEntryA D s t a b)
 | .entryStore _ m st v => ev2 T m st fun a b => ev1 T v fun c => u1 (entryStoreA s a b c)
 | .range t x => ev1 T x fun v => v2 (rangeA D s t v)
 | .entry it => ev1 T it fun v => v1 s (entryA s v)
 | .next it str => ev1 T it fun v => some (.next v str)
 | .extract x i => ev1 T x fun v => v1 s (extractA v i)
 | .typeAssert x _ t ok => ev1 T x fun v => v1 s (assertA D v t ok)
 | .call c => callOp D T s c
 | _ => none
def rmBorn : List Nat → Nat → Bool
 | [], _ => false
 | x :: r, n => Nat.beq x n || rmBorn r n
def oldOf (seen : List Nat) (since : Nat) (es : List (AV × AV × Nat)) : List (AV × AV × Nat) := (es.filter fun e => !rmBorn seen e.2.2).filter fun e => Nat.blt e.2.2 since
def newOf (seen : List Nat) (since : Nat) (es : List (AV × AV × Nat)) : List (AV × AV × Nat) := (es.filter fun e => !rmBorn seen e.2.2).filter fun e => Nat.ble since e.2.2
def stepTo (s : St) (r m since : Nat) (seen : List Nat) (clock : Nat) (e : AV × AV × Nat) : AV × St :=
 (.tuple [.bool true, e.1, e.2.1], { s with h := s.h.set r (.iter (some m) since (seen ++ [e.2.2]) clock) })
def nextA (s : St) (it : AV) (str : Bool) : Option (List (AV × St)) :=
 match it with
 | .ptr r 0 =>
  match s.h.get r, str with
  | some (.iter none _ _ _), false => some [(.tuple [.bool false], s)]
  | some (.iter (some m) since seen last), false =>
   match s.h.get m with
   | some (.map es clock) =>
    if !seen.isEmpty && !es.isEmpty && es.all (fun e => Nat.ble last e.2.2) then none else
    some ((if (oldOf seen since es).isEmpty then [(.tuple [.bool false], s)] else []) ++
     (oldOf seen since es ++ newOf seen since es).map (stepTo s r m since seen clock))
   | _ => none
  | _, _ => none
 | _ => none
def guardOk (T : PT AV) (ops : Array Oper) (o : Oper) : Option Bool :=
 match o.guard with
 | none => some true
 | some (j, want) =>
  match ops[j]? with
  | some g =>
   match g.dst with
   | some d => match T.get d with | some (.bool b) => some (b == want) | some _ => some false | none => none
   | none => none
  | none => none
def putA (T : PT AV) (n : Nat) (d : Option Tmp) (v : AV) : PT AV :=
 match d with
 | some d => (match Nat.blt d n with | true => T.set d v | false => T)
 | none => T
def bindL {α β : Type} : List α → (α → Option (List β)) → Option (List β)
 | [], _ => some []
 | x :: r, f =>
  match f x with
  | none => none
  | some l =>
   match bindL r f with
   | none => none
   | some m => some (l ++ m)
def resA (D : Tab) (T : PT AV) (s : St) : List ResultVar → Option (List AV)
 | [] => some []
 | .tmp t :: r => match T.get t, resA D T s r with | some v, some l => some (v :: l) | _, _ => none
 | .cell a t :: r =>
  match T.get a with
  | some p => match loadA D s t p, resA D T s r with | some v, some l => some (v :: l) | _, _ => none
  | none => none
def oneOf : List AV → AV
 | [v] => v
 | vs => .tuple vs
end
end Go.Eng

namespace Go.Eng
noncomputable section
inductive OpK where
 | pure | read | alloc | heavy
def kindOf (D : Tab) : Op → OpK
 | .move _ | .assign _ | .pick .. | .field .. | .fieldAddr .. | .index .. | .slice .. | .unOp .. | .extract .. | .makeInterface .. | .makeFunc .. | .build .. | .nilCheck _ => .pure
 | .binOp .eql .. | .binOp .neq .. | .binOp .lss .. | .binOp .leq .. | .binOp .gtr .. | .binOp .geq .. => .read
 | .binOp .. => .pure
 | .convert _ t _ => (match D.ty.get t with | some { d := .int _, .. } => .pure | _ => .heavy)
 | .load .. | .lookup .. | .indexAddr .. => .read
 | .alloc _ | .box .. | .buildSlice .. | .makeMap .. | .makeSlice .. => .alloc
 | .call { callee := .builtin .len, .. } => .read
 | .call { callee := .builtin .cap, .. } | .call { callee := .builtin .max, .. } | .call { callee := .builtin .min, .. } => .pure
 | _ => .heavy
def masks (ops : List Oper) : List Nat :=
 go ops []
where
 go : List Oper → List Nat → List Nat
  | [], acc => acc.reverse
  | o :: r, acc => go r (one o.after.toList acc 0 :: acc)
 one : List Edge → List Nat → Nat → Nat
  | [], _, m => m
  | e :: r, acc, m =>
   match e.ground with
   | .textOnly _ | .gcOnly _ => one r acc m
   | _ => one r acc (Nat.lor (Nat.lor m (2 ^ e.on)) (acc[acc.length - 1 - e.on]?.getD 0))
def tmpsOf : List Operand → List Nat
 | [] => []
 | .tmp t :: r => t :: tmpsOf r
 | _ :: r => tmpsOf r
def bitOf (m i : Nat) : Bool := Nat.beq ((m / 2 ^ i) % 2) 1
def memN : List Nat → Nat → Bool
 | [], _ => false
 | x :: r, n => Nat.beq x n || memN r n
def looksOf (ops : Array Oper) (o : Oper) : List Nat :=
 tmpsOf o.op.operands.toList ++ (match o.guard with | some (g, _) => (match ops[g]? with | some x => (match x.dst with | some d => [d] | none => []) | none => []) | none => [])
def regOk (ops : Array Oper) : Bool :=
 let ms := masks ops.toList
 go 0 (ops.toList.zip ms) []
where
 apart (x y : Oper) : Bool :=
  (match x.dst with
  | some d => !memN (looksOf ops y) d && (match y.dst with | some e => !Nat.beq d e | none => true)
  | none => true) &&
  (match y.dst with
  | some d => !memN (looksOf ops x) d
  | none => true)
 against (y : Oper) (m : Nat) : List (Nat × Oper) → Bool
  | [] => true
  | (i, x) :: r => (bitOf m i || apart x y) && against y m r
 go (j : Nat) : List (Oper × Nat) → List (Nat × Oper) → Bool
  | [], _ => true
  | (y, m) :: r, acc => against y m acc && (y.after.all fun e => match e.ground with | .textOnly _ | .gcOnly _ => true | _ => Nat.blt e.on j) && go (j + 1) r ((j, y) :: acc)
abbrev Rec := Option Nat → FuncId → Code → Cf → Option (List (Ex × Cf))
def endDs : St → List Nat → Option St
 | s, [] => some s
 | s, d :: r =>
  match s.h.get d with
  | some (.dfd true) => endDs { s with h := s.h.set d (.dfd false) } r
  | _ => none
def endFn (D : Tab) (rs : List ResultVar) (cf : Cf) : Option (AV × St) :=
 match endDs cf.s cf.ds with
 | none => none
 | some s =>
  match resA D cf.t s rs with
  | none => none
  | some vs => some (oneOf vs, s)
def endAll (D : Tab) (rs : List ResultVar) : List (Ex × Cf) → Option (List (AV × St))
 | [] => some []
 | (.exit _, _) :: _ => none
 | (_, cf) :: r =>
  match endFn D rs cf, endAll D rs r with
  | some x, some l => some (x :: l)
  | _, _ => none
structure Merge where
 mg : List (AV × St) → St → List (AV × St)
 memo : FuncId → List AV → St → Option (List (AV × St))
 lp : Option Nat → FuncId → Code → Cf → Option (List (Ex × Cf))      -- loops that are known
 orc : List Fm → Fm → Option Bool      -- what else is known of numbers
def callB (D : Tab) (rec : Rec) (mg : Merge) (g : FuncId) (args : List AV) (s : St) : Option (List (AV × St)) :=
 match D.fn.get g with
 | none => none
 | some fi =>
  match rec none g fi.body { t := PT.setAll .nil 0 args, n := max args.length fi.nt, s, ds := [] } with
  | none => none
  | some outs =>
   match endAll D fi.results outs with
   | none => none
   | some l => some (mg.mg l s)
def callF (D : Tab) (rec : Rec) (mg : Merge) (g : FuncId) (args : List AV) (s : St) : Option (List (AV × St)) :=
 match mg.memo g args s with
 | some l => some l
 | none => callB D rec mg g args s
def setPs (n : Nat) (t : PT AV) : List Tmp → List AV → Option (PT AV)
 | [], [] => some t
 | p :: ps, v :: vs => setPs n (putA t n (some p) v) ps vs
 | _, _ => none
def endRound (l : Nat) (s : St) (jump : Option Code) : Option (AV × St) :=
 match s.h.get l with
 | some (.loop _ _ fn t n ps assign body ds) =>
  some (.bool (match jump with | none => true | some _ => false), { s with h := s.h.set l (.loop (match jump with | none => .ready | some _ => .done) jump fn t n ps assign body ds) })
 | _ => none
def roundEnds (l : Nat) : List (Ex × Cf) → Option (List (AV × St))
 | [] => some []
 | (e, cf) :: r =>
  match cf.ds with
  | _ :: _ => none
  | [] =>
   match endRound l cf.s (match e with | .normal => none | .exit id => some (.exit id) | .ret => some .ret), roundEnds l r with
   | some x, some m => some (x :: m)
   | _, _ => none
def roundF (rec : Rec) (l : Nat) (args : List AV) (s : St) : Option (List (AV × St)) :=
 match s.h.get l with
 | some (.loop _ _ fn t n ps assign body _) =>
  match setPs n t ps args with
  | none => none
  | some t' =>
   match rec (some l) fn assign { t := t', n, s, ds := [] } with
   | some [(.normal, cf)] =>
    match cf.s.h.get l with
    | some (.loop .ready pd fn2 t2 n2 ps2 as2 bd2 ds2) =>
     match rec (some l) fn body { cf with s := { cf.s with h := cf.s.h.set l (.loop .busy pd fn2 t2 n2 ps2 as2 bd2 ds2) } } with
     | some outs => roundEnds l outs
     | none => none
    | _ => none
   | _ => none
 | _ => none
def oper (D : Tab) (rec : Rec) (mg : Merge) (T : PT AV) (s : St) (op : Op) : Option (List (AV × St)) :=
 match opA D T s op with
 | none => none
 | some (.val v s') => some [(v, s')]
 | some (.enter g args) => callF D rec mg g args s
 | some (.round l args) => roundF rec l args s
 | some (.next it str) => nextA s it str
def seqOps (D : Tab) (rec : Rec) (mg : Merge) (ops : Array Oper) : List Oper → Cf → Option (List Cf)
 | [], cf => some [cf]
 | o :: r, cf =>
  match guardOk cf.t ops o with
  | none => none
  | some false => seqOps D rec mg ops r { cf with t := putA cf.t cf.n o.dst .undef }
  | some true =>
   match oper D rec mg cf.t cf.s o.op with
   | none => none
   | some [(v, s)] => seqOps D rec mg ops r { cf with t := putA cf.t cf.n o.dst v, s }
   | some l => bindL l fun (v, s) => seqOps D rec mg ops r { cf with t := putA cf.t cf.n o.dst v, s }
structure Rg where
 t : PT AV
 s : St
 pend : List (Nat × Nat × AObj)      -- place among the operations, block, what it is
 past : List (Nat × St)              -- heavy operations, and the state ahead of each
 reads : List (Nat × Op × PT AV × AV)         -- what has been read, with the temporaries of then
def flush (m : Nat) : List (Nat × Nat × AObj) → PT AObj → PT AObj
 | [], h => h
 | (i, b, o) :: r, h => if bitOf m i then flush m r (h.set b o) else flush m r h
def keep (m : Nat) : List (Nat × Nat × AObj) → List (Nat × Nat × AObj)
 | [] => []
 | (i, b, o) :: r => if bitOf m i then keep m r else (i, b, o) :: keep m r
def same1 (a b : AV) : Bool :=
 match a, b with
 | .bool x, .bool y => x == y
 | .int j x, .int k y => decide (j = k) && x == y
 | .str x, .str y => bytesEq x.data.toList y.data.toList
 | .nilptr, .nilptr => true
 | .ptr x o, .ptr y u => Nat.beq x y && Nat.beq o u
 | .nilslice, .nilslice => true
 | .slice x o l (.exact c), .slice y u m (.exact d) => Nat.beq x y && Nat.beq o u && Nat.beq l m && Nat.beq c d
 | .slice x o l (.var c e), .slice y u m (.var d f) => Nat.beq x y && Nat.beq o u && Nat.beq l m && Nat.beq c d && Nat.beq e f
 | .slice0 x, .slice0 y => x == y
 | .sym x, .sym y => Nat.beq x y
 | .tm j x, .tm k y => decide (j = k) && x.beq y
 | .ssl b n (.var c d), .ssl b' n' (.var c' d') => Nat.beq b b' && Nat.beq c c' && Nat.beq d d' && n.beq n'
 | .sptr b t z o, .sptr b' t' z' o' => Nat.beq b b' && Nat.beq z z' && Nat.beq o o' && t.beq t'
 | .nilmap, .nilmap => true
 | .map x, .map y => Nat.beq x y
 | .nilFunc, .nilFunc => true
 | .nilIface, .nilIface => true
 | .func f [] [], .func g [] [] => Nat.beq f g
 | .yld l, .yld m => Nat.beq l m
 | _, _ => false
def sames : List AV → List AV → Bool
 | [], [] => true
 | a :: x, b :: y => same1 a b && sames x y
 | _, _ => false
def same (a b : AV) : Bool :=
 match a, b with
 | .agg x, .agg y => sames x y
 | .tuple x, .tuple y => sames x y
 | x, y => same1 x y
def readAt (D : Tab) (T : PT AV) (s : St) (op : Op) : Option AV :=
 match opA D T s op with
 | some (.val v _) => some v
 | _ => none
def pastOk (D : Tab) (T : PT AV) (op : Op) (m : Nat) (pend : List (Nat × Nat × AObj)) (v : AV) : List (Nat × St) → Bool
 | [] => true
 | (k, s) :: r => if bitOf m k then true else (match readAt D T { s with h := flush m pend s.h } op with | some u => same u v | none => false) && pastOk D T op m pend v r
def readsOk (D : Tab) (ms : List Nat) (m : Nat) (pend : List (Nat × Nat × AObj)) (s : St) : List (Nat × Op × PT AV × AV) → Option (List (Nat × Op × PT AV × AV))
 | [] => some []
 | (i, op, T, v) :: r =>
  if bitOf m i then readsOk D ms m pend s r else
  match readAt D T { s with h := flush (ms[i]?.getD 0) pend s.h } op with
  | some u => if same u v then (match readsOk D ms m pend s r with | some l => some ((i, op, T, v) :: l) | none => none) else none
  | none => none
def allPast (m : Nat) : List (Nat × St) → Bool
 | [] => true
 | (k, _) :: _ => bitOf m k
def cut (T : PT AV) : List Nat → PT AV
 | [] => .nil
 | t :: r => match T.get t with | some x => (cut T r).set t x | none => cut T r
def drawOne (D : Tab) (rec : Rec) (mg : Merge) (ops : Array Oper) (ms : List Nat) (base n i : Nat) (o : Oper) (m : Nat) (g : Rg) (T : PT AV) : Option Rg :=
 match guardOk T ops o with
 | none => none
 | some false => some { g with t := putA g.t n o.dst .undef }
 | some true =>
  match kindOf D o.op with
  | .pure =>
   match readAt D T g.s o.op with
   | none => none
   | some v => some { g with t := putA g.t n o.dst v }
  | .read =>
   match readAt D T { g.s with h := flush m g.pend g.s.h } o.op with
   | none => none
   | some v => if pastOk D T o.op m g.pend v g.past then some { g with t := putA g.t n o.dst v, reads := (i, o.op, T, v) :: g.reads } else none
  | .alloc =>
   match opA D T { g.s with nx := base + i } o.op with
   | some (.val v s') =>
    match s'.h.get (base + i) with
    | some ob => some { g with t := putA g.t n o.dst v, pend := (i, base + i, ob) :: g.pend }
    | none => none
   | _ => none
  | .heavy =>
   if allPast m g.past then
    match oper D rec mg T { g.s with h := flush m g.pend g.s.h } o.op with
    | some [(v, s')] =>
     match readsOk D ms m (keep m g.pend) s' g.reads with
     | some reads => some { t := putA g.t n o.dst v, s := s', pend := keep m g.pend, past := (i, g.s) :: g.past, reads }
     | none => none
    | _ => none
   else none
def drawOps (D : Tab) (rec : Rec) (mg : Merge) (ops : Array Oper) (ms : List Nat) (base n : Nat) : Nat → List (Oper × Nat) → Rg → Option Rg
 | _, [], g => some g
 | i, (o, m) :: r, g =>
  match drawOne D rec mg ops ms base n i o m g (cut g.t (looksOf ops o)) with
  | some g' => drawOps D rec mg ops ms base n (i + 1) r g'
  | none => none
def flushAll : List (Nat × Nat × AObj) → PT AObj → PT AObj
 | [], h => h
 | (_, b, o) :: r, h => flushAll r (h.set b o)
def drawReg (D : Tab) (rec : Rec) (mg : Merge) (ops : Array Oper) (cf : Cf) : Option (List Cf) :=
 if regOk ops then
  let ms := masks ops.toList
  match drawOps D rec mg ops ms cf.s.nx cf.n 0 (ops.toList.zip ms) { t := cf.t, s := { cf.s with nx := cf.s.nx + ops.size }, pend := [], past := [], reads := [] } with
  | some g => some [{ cf with t := g.t, s := { g.s with h := flushAll g.pend g.s.h } }]
  | none => none
 else none
def forceN {α : Type} (n : Nat) (k : Nat → α) : α :=
 match n with
 | 0 => k 0
 | m + 1 => k (Nat.succ m)
def forceP {α β : Type} (t : PT β) (k : PT β → α) : α :=
 match t with
 | .nil => k .nil
 | .nd l v r => k (.nd l v r)
def forceC {α : Type} (c : Cf) (k : Cf → α) : α :=
 match c with
 | ⟨t, n, ⟨h, nx, nc, fs⟩, ds⟩ => forceP t fun t => forceN n fun n => forceP h fun h => forceN nx fun nx => forceN nc fun nc => k ⟨t, n, ⟨h, nx, nc, fs⟩, ds⟩
def normals : List Cf → List (Ex × Cf)
 | [] => []
 | c :: r => forceC c fun c => (.normal, c) :: normals r
def needOp (T : PT AV) (s : St) (op : Op) : Option Fm :=
 match op with
 | .binOp o _ x y _ =>
  match ev T x, ev T y with
  | some a, some b =>
   match tmOf a, tmOf b with
   | some (_, x), some (_, y) => (match cmpT s.fs o x y with | some _ => none | none => askT o x y)
   | _, _ => none
  | _, _ => none
 | _ => none
def needOps (D : Tab) (ops : Array Oper) (n : Nat) (s : St) : List Oper → PT AV → Option Fm
 | [], _ => none
 | o :: r, T =>
  match guardOk T ops o with
  | some true =>
   match readAt D T s o.op with
   | some v => needOps D ops n s r (putA T n o.dst v)
   | none => (match needOp T s o.op with | some f => some f | none => needOps D ops n s r T)
  | some false => needOps D ops n s r (putA T n o.dst .undef)
  | none => needOps D ops n s r T
def withF (cf : Cf) (f : Fm) : Cf := { cf with s := { cf.s with fs := f :: cf.s.fs } }
def forks (orc : List Fm → Fm → Option Bool) (go : Cf → Option (List Cf)) (need : Cf → Option Fm) : Nat → Cf → Option (List Cf)
 | 0, cf => go cf
 | d + 1, cf =>
  match go cf with
  | some l => some l
  | none =>
   match need cf with
   | none => none
   | some f =>
    match orc cf.s.fs f with
    | some true => forks orc go need d (withF cf f)
    | some false => forks orc go need d (withF cf f.neg)
    | none =>
     match forks orc go need d (withF cf f), forks orc go need d (withF cf f.neg) with
     | some a, some b => some (a ++ b)
     | _, _ => none
def run (D : Tab) (mg : Merge) : Nat → Rec
 | 0, _, _, _, _ => none
 | f + 1, rnd, fn, code, cf =>
  match code with
  | .skip | .label _ => some [(.normal, cf)]
  | .ret => some [(.ret, cf)]
  | .exit id => some [(.exit id, cf)]
  | .seq a b =>
   match run D mg f rnd fn a cf with
   | none => none
   | some [(.normal, cf')] => run D mg f rnd fn b cf'
   | some outs => bindL outs fun
    | (.normal, cf') => run D mg f rnd fn b cf'
    | x => some [x]
  | .cond c a b =>
   match ev cf.t c with
   | some (.bool true) => run D mg f rnd fn a cf
   | some (.bool false) => run D mg f rnd fn b cf
   | _ => none
  | .block id a =>
   match run D mg f rnd fn a cf with
   | none => none
   | some outs => some (outs.map fun
    | (.exit i, cf') => if Nat.beq i id then (.normal, cf') else (.exit i, cf')
    | x => x)
  | .scope a => run D mg f rnd fn a cf
  | .loop a =>
   match mg.lp rnd fn a cf with
   | some outs => some outs
   | none =>
   match run D mg f rnd fn a cf with
   | none => none
   | some [(.normal, cf')] => run D mg f rnd fn (.loop a) cf'
   | some outs => bindL outs fun
    | (.normal, cf') => run D mg f rnd fn (.loop a) cf'
    | x => some [x]
  | .region _ ops draw =>
   match forks mg.orc (fun cf => if draw then drawReg D (run D mg f) mg ops cf else seqOps D (run D mg f) mg ops ops.toList cf) (fun cf => needOps D ops cf.n cf.s ops.toList cf.t) 16 cf with
   | some l => some (normals l)
   | none => none
  | .rangeFunc g ps assign body =>
   match ev cf.t g with
   | some (.func q first caps) =>
    let r0 : Option (Nat × St × List Nat) :=
     match rnd with
     | some l => match cf.s.h.get l with | some (.loop _ _ _ _ _ _ _ _ ds) => some (ds, cf.s, []) | _ => none
     | none => let x := cf.s.new (.dfd true); some (x.1, x.2, [x.1])
    match r0 with
    | none => none
    | some (ds, s1, mark) =>
     let x := s1.new (.loop .ready none fn cf.t cf.n ps.toList assign body ds)
     match callB D (run D mg f) mg q (first ++ [.yld x.1] ++ caps) x.2 with
     | none => none
     | some l => bindL l fun (_, s2) =>
      match s2.h.get x.1 with
      | some (.loop st pd fn2 t2 n2 ps2 as2 bd2 ds2) =>
       if st == .busy then none else
       let cf' : Cf := { t := cf.t, n := cf.n, s := { s2 with h := s2.h.set x.1 (.loop .exhausted pd fn2 t2 n2 ps2 as2 bd2 ds2) }, ds := mark ++ cf.ds }
       match pd with
       | none => some [(.normal, cf')]
       | some (.exit id) => some [(.exit id, cf')]
       | some .ret => some [(.ret, cf')]
       | _ => none
      | _ => none
   | _ => none
  | _ => none
end
end Go.Eng

namespace Go.Eng
noncomputable section
def eqL (f : AV → AV → Bool) : List AV → List AV → Bool
 | [], [] => true
 | a :: x, b :: y => f a b && eqL f x y
 | _, _ => false
def eqCap : ACap → ACap → Bool
 | .exact a, .exact b => Nat.beq a b
 | .var a c, .var b d => Nat.beq a b && Nat.beq c d
 | _, _ => false
def eqAV : Nat → AV → AV → Bool
 | 0, _, _ => false
 | d + 1, a, b =>
  match a, b with
  | .bool x, .bool y => x == y
  | .int j x, .int k y => decide (j = k) && x == y
  | .str x, .str y => bytesEq x.data.toList y.data.toList
  | .nilptr, .nilptr => true
  | .ptr x o, .ptr y u => Nat.beq x y && Nat.beq o u
  | .nilslice, .nilslice => true
  | .slice x o l c, .slice y u m e => Nat.beq x y && Nat.beq o u && Nat.beq l m && eqCap c e
  | .slice0 x, .slice0 y => x == y
  | .sym x, .sym y => Nat.beq x y
  | .tm j x, .tm k y => decide (j = k) && x.beq y
  | .ssl b n c, .ssl b' n' c' => Nat.beq b b' && eqCap c c' && n.beq n'
  | .sptr b t z o, .sptr b' t' z' o' => Nat.beq b b' && Nat.beq z z' && Nat.beq o o' && t.beq t'
  | .nilmap, .nilmap => true
  | .map x, .map y => Nat.beq x y
  | .nilFunc, .nilFunc => true
  | .nilIface, .nilIface => true
  | .iface t v, .iface u w => Nat.beq t u && eqAV d v w
  | .func f x y, .func g u v => Nat.beq f g && eqL (eqAV d) x u && eqL (eqAV d) y v
  | .yld l, .yld m => Nat.beq l m
  | .agg x, .agg y => eqL (eqAV d) x y
  | .tuple x, .tuple y => eqL (eqAV d) x y
  | _, _ => false
def eqPT {α : Type} (f : α → α → Bool) : PT α → PT α → Bool
 | .nil, .nil => true
 | .nd l v r, .nd l' v' r' => (match v, v' with | none, none => true | some x, some y => f x y | _, _ => false) && eqPT f l l' && eqPT f r r'
 | _, _ => false
def eqEs : List (AV × AV × Nat) → List (AV × AV × Nat) → Bool
 | [], [] => true
 | (k, v, b) :: x, (k', v', b') :: y => Nat.beq b b' && eqAV 5 k k' && eqAV 5 v v' && eqEs x y
 | _, _ => false
def eqNs : List Nat → List Nat → Bool
 | [], [] => true
 | a :: x, b :: y => Nat.beq a b && eqNs x y
 | _, _ => false
def eqON : Option Nat → Option Nat → Bool
 | none, none => true
 | some a, some b => Nat.beq a b
 | _, _ => false
def eqObj : AObj → AObj → Bool
 | .cells c n none, .cells c' n' none => Nat.beq n n' && eqPT (eqAV 5) c c'
 | .cells c n (some (k, z)), .cells c' n' (some (k', z')) => Nat.beq n n' && Nat.beq k k' && Nat.beq z z' && eqPT (eqAV 5) c c'
 | .map es k, .map es' k' => Nat.beq k k' && eqEs es es'
 | .iter m s l n, .iter m' s' l' n' => eqON m m' && Nat.beq s s' && eqNs l l' && Nat.beq n n'
 | .siter s p, .siter s' p' => bytesEq s.data.toList s'.data.toList && Nat.beq p p'
 | .dfd a, .dfd b => a == b
 | .arr ks A n none, .arr ks' A' n' none => decide (ks = ks') && A.beq A' && n.beq n'
 | .arr ks A n (some (k, z)), .arr ks' A' n' (some (k', z')) => decide (ks = ks') && Nat.beq k k' && Nat.beq z z' && A.beq A' && n.beq n'
 | _, _ => false
def up1 {α : Type} : List (Nat × α) → List (Nat × α)
 | [] => []
 | (k, x) :: r => (2 * k + 1, x) :: up1 r
def up2 {α : Type} : List (Nat × α) → List (Nat × α)
 | [] => []
 | (k, x) :: r => (2 * k + 2, x) :: up2 r
def PT.toL {α : Type} : PT α → List (Nat × α)
 | .nil => []
 | .nd l v r => (match v with | some x => [(0, x)] | none => []) ++ up1 l.toL ++ up2 r.toL
def idsL (f : AV → List Nat) : List AV → List Nat
 | [] => []
 | a :: r => f a ++ idsL f r
def idsAV : Nat → AV → List Nat
 | 0, _ => []
 | d + 1, a =>
  match a with
  | .ptr b _ | .slice b _ _ _ | .map b | .yld b | .ssl b _ _ | .sptr b _ _ _ => [b]
  | .func _ x y => idsL (idsAV d) x ++ idsL (idsAV d) y
  | .iface _ v => idsAV d v
  | .agg x | .tuple x => idsL (idsAV d) x
  | _ => []
def idsPT : PT AV → List Nat
 | .nil => []
 | .nd l v r => (match v with | some x => idsAV 5 x | none => []) ++ idsPT l ++ idsPT r
def idsEs : List (AV × AV × Nat) → List Nat
 | [] => []
 | (k, v, _) :: r => idsAV 5 k ++ idsAV 5 v ++ idsEs r
def idsObj : AObj → List Nat
 | .cells c _ _ => idsPT c
 | .map es _ => idsEs es
 | .iter (some m) _ _ _ => [m]
 | .loop _ _ _ t _ _ _ _ ds => ds :: idsPT t
 | _ => []
def reach (h : PT AObj) (nx : Nat) : Nat → List Nat → PT Bool → PT Bool
 | 0, _, seen => seen
 | _, [], seen => seen
 | f + 1, b :: r, seen =>
  match Nat.ble nx b with
  | false => reach h nx f r seen
  | true =>
   match seen.get b with
   | some _ => reach h nx f r seen
   | none =>
    match h.get b with
    | some o => reach h nx f (idsObj o ++ r) (seen.set b true)
    | none => reach h nx f r seen
def oldIds (nx : Nat) : List (Nat × AObj) → List Nat
 | [] => []
 | (b, o) :: r => (match Nat.blt b nx with | true => idsObj o | false => []) ++ oldIds nx r
def kept (nx : Nat) (seen : PT Bool) : List (Nat × AObj) → PT AObj → PT AObj
 | [], h => h
 | (b, o) :: r, h =>
  match Nat.blt b nx with
  | true => kept nx seen r (h.set b o)
  | false =>
   match seen.get b with
   | some _ => kept nx seen r (h.set b o)
   | none => kept nx seen r h
def gc (nx : Nat) (x : AV × St) : PT AObj :=
 let l := x.2.h.toL
 kept nx (reach x.2.h nx 100000 (idsAV 5 x.1 ++ oldIds nx l) .nil) l .nil
def maxNx : List (AV × St) → Nat → Nat
 | [], n => n
 | (_, s) :: r, n => maxNx r (max n s.nx)
def maxNc : List (AV × St) → Nat → Nat
 | [], n => n
 | (_, s) :: r, n => maxNc r (max n s.nc)
def alike (v : AV) (h : PT AObj) : List (AV × St) → Bool
 | [] => false
 | (u, s) :: r => (eqAV 6 v u && eqPT eqObj h s.h) || alike v h r
def memF : List Fm → Fm → Bool
 | [], _ => false
 | x :: r, f => x.beq f || memF r f
def meetF (x : List Fm) : List Fm → List Fm
 | [] => []
 | f :: r => (match memF x f with | true => f :: meetF x r | false => meetF x r)
def commonF (nx0 : Nat) (v : AV) (h : PT AObj) : List (AV × St) → List Fm → List Fm
 | [], fs => fs
 | x :: r, fs => (match eqAV 6 x.1 v && eqPT eqObj (gc nx0 x) h with | true => commonF nx0 v h r (meetF x.2.fs fs) | false => commonF nx0 v h r fs)
def mergeL (nx0 nx nc : Nat) : List (AV × St) → List (AV × St) → List (AV × St)
 | [], acc => acc
 | x :: r, acc =>
  let h := gc nx0 x
  match alike x.1 h acc with
  | true => mergeL nx0 nx nc r acc
  | false => mergeL nx0 nx nc r ((x.1, { h, nx, nc, fs := commonF nx0 x.1 h r x.2.fs }) :: acc)
def mergeAll (l : List (AV × St)) (s : St) : List (AV × St) :=
 match l with
 | [] => l
 | [_] => l
 | _ => mergeL s.nx (maxNx l s.nx) (maxNc l s.nc) l []
def merge : Merge := { mg := mergeAll, memo := fun _ _ _ => none, lp := fun _ _ _ _ => none, orc := fun _ _ => none }
end
end Go.Eng

