/-
  The abstract interpreter: ends of one call that are alike are taken together.
-/
import Derived.Test.YtabjigkabgecaaaGreatDoorEng2
namespace Go.Eng
noncomputable section

def eqL (f : AV → AV → Bool) : List AV → List AV → Bool
  | [], [] => true
  | a :: x, b :: y => f a b && eqL f x y
  | _, _ => false

def eqCap : ACap → ACap → Bool
  | .exact a, .exact b => Nat.beq a b
  | .var a c, .var b d => Nat.beq a b && Nat.beq c d
  | _, _ => false

def eqAV : Nat → AV → AV → Bool
  | 0, _, _ => false
  | d + 1, a, b =>
    match a, b with
    | .bool x, .bool y => x == y
    | .int j x, .int k y => decide (j = k) && x == y
    | .str x, .str y => bytesEq x.data.toList y.data.toList
    | .nilptr, .nilptr => true
    | .ptr x o, .ptr y u => Nat.beq x y && Nat.beq o u
    | .nilslice, .nilslice => true
    | .slice x o l c, .slice y u m e => Nat.beq x y && Nat.beq o u && Nat.beq l m && eqCap c e
    | .slice0 x, .slice0 y => x == y
    | .sym x, .sym y => Nat.beq x y
    | .tm j x, .tm k y => decide (j = k) && x.beq y
    | .nilmap, .nilmap => true
    | .map x, .map y => Nat.beq x y
    | .nilFunc, .nilFunc => true
    | .nilIface, .nilIface => true
    | .iface t v, .iface u w => Nat.beq t u && eqAV d v w
    | .func f x y, .func g u v => Nat.beq f g && eqL (eqAV d) x u && eqL (eqAV d) y v
    | .yld l, .yld m => Nat.beq l m
    | .agg x, .agg y => eqL (eqAV d) x y
    | .tuple x, .tuple y => eqL (eqAV d) x y
    | _, _ => false

def eqPT {α : Type} (f : α → α → Bool) : PT α → PT α → Bool
  | .nil, .nil => true
  | .nd l v r, .nd l' v' r' => (match v, v' with | none, none => true | some x, some y => f x y | _, _ => false) && eqPT f l l' && eqPT f r r'
  | _, _ => false

def eqEs : List (AV × AV × Nat) → List (AV × AV × Nat) → Bool
  | [], [] => true
  | (k, v, b) :: x, (k', v', b') :: y => Nat.beq b b' && eqAV 5 k k' && eqAV 5 v v' && eqEs x y
  | _, _ => false

def eqNs : List Nat → List Nat → Bool
  | [], [] => true
  | a :: x, b :: y => Nat.beq a b && eqNs x y
  | _, _ => false

def eqON : Option Nat → Option Nat → Bool
  | none, none => true
  | some a, some b => Nat.beq a b
  | _, _ => false

def eqObj : AObj → AObj → Bool
  | .cells c n none, .cells c' n' none => Nat.beq n n' && eqPT (eqAV 5) c c'
  | .cells c n (some (k, z)), .cells c' n' (some (k', z')) => Nat.beq n n' && Nat.beq k k' && Nat.beq z z' && eqPT (eqAV 5) c c'
  | .map es k, .map es' k' => Nat.beq k k' && eqEs es es'
  | .iter m s l n, .iter m' s' l' n' => eqON m m' && Nat.beq s s' && eqNs l l' && Nat.beq n n'
  | .siter s p, .siter s' p' => bytesEq s.data.toList s'.data.toList && Nat.beq p p'
  | .dfd a, .dfd b => a == b
  | _, _ => false

def up1 {α : Type} : List (Nat × α) → List (Nat × α)
  | [] => []
  | (k, x) :: r => (2 * k + 1, x) :: up1 r
def up2 {α : Type} : List (Nat × α) → List (Nat × α)
  | [] => []
  | (k, x) :: r => (2 * k + 2, x) :: up2 r

def PT.toL {α : Type} : PT α → List (Nat × α)
  | .nil => []
  | .nd l v r => (match v with | some x => [(0, x)] | none => []) ++ up1 l.toL ++ up2 r.toL

def idsL (f : AV → List Nat) : List AV → List Nat
  | [] => []
  | a :: r => f a ++ idsL f r

def idsAV : Nat → AV → List Nat
  | 0, _ => []
  | d + 1, a =>
    match a with
    | .ptr b _ | .slice b _ _ _ | .map b | .yld b => [b]
    | .func _ x y => idsL (idsAV d) x ++ idsL (idsAV d) y
    | .iface _ v => idsAV d v
    | .agg x | .tuple x => idsL (idsAV d) x
    | _ => []

def idsPT : PT AV → List Nat
  | .nil => []
  | .nd l v r => (match v with | some x => idsAV 5 x | none => []) ++ idsPT l ++ idsPT r

def idsEs : List (AV × AV × Nat) → List Nat
  | [] => []
  | (k, v, _) :: r => idsAV 5 k ++ idsAV 5 v ++ idsEs r

def idsObj : AObj → List Nat
  | .cells c _ _ => idsPT c
  | .map es _ => idsEs es
  | .iter (some m) _ _ _ => [m]
  | .loop _ _ _ t _ _ _ _ ds => ds :: idsPT t
  | _ => []

def reach (h : PT AObj) (nx : Nat) : Nat → List Nat → PT Bool → PT Bool
  | 0, _, seen => seen
  | _, [], seen => seen
  | f + 1, b :: r, seen =>
    match Nat.ble nx b with
    | false => reach h nx f r seen
    | true =>
      match seen.get b with
      | some _ => reach h nx f r seen
      | none =>
        match h.get b with
        | some o => reach h nx f (idsObj o ++ r) (seen.set b true)
        | none => reach h nx f r seen

def oldIds (nx : Nat) : List (Nat × AObj) → List Nat
  | [] => []
  | (b, o) :: r => (match Nat.blt b nx with | true => idsObj o | false => []) ++ oldIds nx r

def kept (nx : Nat) (seen : PT Bool) : List (Nat × AObj) → PT AObj → PT AObj
  | [], h => h
  | (b, o) :: r, h =>
    match Nat.blt b nx with
    | true => kept nx seen r (h.set b o)
    | false =>
      match seen.get b with
      | some _ => kept nx seen r (h.set b o)
      | none => kept nx seen r h

def gc (nx : Nat) (x : AV × St) : PT AObj :=
  let l := x.2.h.toL
  kept nx (reach x.2.h nx 100000 (idsAV 5 x.1 ++ oldIds nx l) .nil) l .nil

def maxNx : List (AV × St) → Nat → Nat
  | [], n => n
  | (_, s) :: r, n => maxNx r (max n s.nx)
def maxNc : List (AV × St) → Nat → Nat
  | [], n => n
  | (_, s) :: r, n => maxNc r (max n s.nc)

def alike (v : AV) (h : PT AObj) : List (AV × St) → Bool
  | [] => false
  | (u, s) :: r => (eqAV 6 v u && eqPT eqObj h s.h) || alike v h r

/-- What is known at all ends that are alike. -/
def memF : List Fm → Fm → Bool
  | [], _ => false
  | x :: r, f => x.beq f || memF r f
def meetF (x : List Fm) : List Fm → List Fm
  | [] => []
  | f :: r => (match memF x f with | true => f :: meetF x r | false => meetF x r)
def commonF (nx0 : Nat) (v : AV) (h : PT AObj) : List (AV × St) → List Fm → List Fm
  | [], fs => fs
  | x :: r, fs => (match eqAV 6 x.1 v && eqPT eqObj (gc nx0 x) h with | true => commonF nx0 v h r (meetF x.2.fs fs) | false => commonF nx0 v h r fs)

def mergeL (nx0 nx nc : Nat) : List (AV × St) → List (AV × St) → List (AV × St)
  | [], acc => acc
  | x :: r, acc =>
    let h := gc nx0 x
    match alike x.1 h acc with
    | true => mergeL nx0 nx nc r acc
    | false => mergeL nx0 nx nc r ((x.1, { h, nx, nc, fs := commonF nx0 x.1 h r x.2.fs }) :: acc)

def mergeAll (l : List (AV × St)) (s : St) : List (AV × St) :=
  match l with
  | [] => l
  | [_] => l
  | _ => mergeL s.nx (maxNx l s.nx) (maxNc l s.nc) l []
def merge : Merge := { mg := mergeAll, memo := fun _ _ _ => none }

end
end Go.Eng
