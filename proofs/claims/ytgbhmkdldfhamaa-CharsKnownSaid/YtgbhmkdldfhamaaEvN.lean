/- Engine, part N: regions that draw their order: the evaluator. -/
import Derived.Test.YtgbhmkdldfhamaaEvM
namespace Go.Ev
noncomputable section
def bindB (e : Edge) : Bool := match e.ground with | .textOnly _ => false | .gcOnly _ => false | _ => true
def getN (l : List Nat) (i : Nat) : Nat := match lget l i with | some x => x | none => 0
def edgeMask (acc : List Nat) : List Edge → Nat
  | [] => 0
  | e :: r => match bindB e with
    | true => (2 ^ e.on ||| getN acc e.on) ||| edgeMask acc r
    | false => edgeMask acc r
/-- Of each operation the set (as bits) of those that come before it. -/
def masks : List Oper → List Nat → List Nat
  | [], acc => acc
  | o :: l, acc => masks l (acc ++ [edgeMask acc o.after.toList])
def rch (mk : List Nat) (i j : Nat) : Bool := Nat.testBit (getN mk j) i
def idxs (p : Nat → Bool) : Nat → Nat → List Nat
  | 0, _ => []
  | n + 1, i => match p i with
    | true => i :: idxs p n (i + 1)
    | false => idxs p n (i + 1)
def countB (p : Nat → Bool) : List Nat → Nat
  | [] => 0
  | x :: l => match p x with | true => countB p l + 1 | false => countB p l
def partB (p : Nat → Bool) : List Nat → List Nat × List Nat
  | [] => ([], [])
  | x :: l => match partB p l with
    | (a, b) => match p x with | true => (x :: a, b) | false => (a, x :: b)
/-- How an operation is put into the order: as early as may be, as late as may be, or as a step that all others know. -/
inductive SK where
  | r
  | a
  | e
def SK.isR : SK → Bool | .r => true | _ => false
def SK.isA : SK → Bool | .a => true | _ => false
def SK.isE : SK → Bool | .e => true | _ => false
def getK (l : List SK) (i : Nat) : SK := match lget l i with | some x => x | none => .e
/-- An order of the operations in which what only reads comes as early as may be, and what makes a variable as late. -/
def canonGo (mk : List Nat) (lev : Nat → Nat) (reads : List Nat) : Nat → List Nat → List Nat → List Nat
  | j, allocs, [] => (partB (fun i => Nat.beq (lev i) j) reads).1 ++ allocs
  | j, allocs, e :: es => match partB (fun k => rch mk k e) allocs with
    | (now, later) => (partB (fun i => Nat.beq (lev i) j) reads).1 ++ (now ++ (e :: canonGo mk lev reads (j + 1) later es))
def canonOrd (ks : List SK) (mk : List Nat) (n : Nat) : List Nat :=
  canonGo mk (fun i => countB (fun e => rch mk e i) (idxs (fun i => (getK ks i).isE) n 0)) (idxs (fun i => (getK ks i).isR) n 0) 0 (idxs (fun i => (getK ks i).isA) n 0) (idxs (fun i => (getK ks i).isE) n 0)
def memN (x : Nat) : List Nat → Bool
  | [] => false
  | y :: l => match Nat.beq x y with | true => true | false => memN x l
def allN (p : Nat → Bool) : List Nat → Bool
  | [] => true
  | x :: l => match p x with | true => allN p l | false => false
def tmpsOf : List Operand → List Nat
  | [] => []
  | .tmp t :: l => t :: tmpsOf l
  | _ :: l => tmpsOf l
/-- The temporaries that an operation looks at. -/
def looks (all : List Oper) (o : Oper) : List Nat :=
  match o.guard with
  | some (g, _) => match lget all g with
    | some og => match og.dst with
      | some d => d :: tmpsOf o.op.operands.toList
      | none => tmpsOf o.op.operands.toList
    | none => tmpsOf o.op.operands.toList
  | none => tmpsOf o.op.operands.toList
def afterOk (before : List Nat) : List Edge → Bool
  | [] => true
  | e :: r => match bindB e with
    | true => match memN e.on before with | true => afterOk before r | false => false
    | false => afterOk before r
def dstOf (all : List Oper) (i : Nat) : Option Nat := match lget all i with | some o => o.dst | none => none
def looksOf (all : List Oper) (i : Nat) : List Nat := match lget all i with | some o => looks all o | none => []
def optIs (d : Nat) : Option Nat → Bool | some d' => Nat.beq d d' | none => false
/-- Whether an operation names a temporary. -/
def hits (all : List Oper) (d i : Nat) : Bool := match memN d (looksOf all i) with | true => true | false => optIs d (dstOf all i)
def upto : Nat → Nat → List Nat
  | 0, _ => []
  | n + 1, i => i :: upto n (i + 1)
/-- All that name what the operation writes come behind it. -/
def tame (all : List Oper) (mk : List Nat) (x d : Nat) : List Nat → Bool
  | [] => true
  | i :: l => match Nat.beq x i with
    | true => match memN d (looksOf all i) with | true => false | false => tame all mk x d l
    | false => match hits all d i with
      | false => tame all mk x d l
      | true => match rch mk x i with | true => tame all mk x d l | false => false
/-- All that name what the operation writes come before or behind it. -/
def ordered (all : List Oper) (mk : List Nat) (x d : Nat) : List Nat → Bool
  | [] => true
  | i :: l => match Nat.beq x i with
    | true => ordered all mk x d l
    | false => match hits all d i with
      | false => ordered all mk x d l
      | true => match rch mk x i with
        | true => ordered all mk x d l
        | false => match rch mk i x with | true => ordered all mk x d l | false => false
def kindOf (P : Program) (all : List Oper) (mk : List Nat) (n x : Nat) (o : Oper) : SK := match cls P o.op with
  | 0 | 1 => match o.dst with
    | some d => match tame all mk x d (upto n 0) with | true => .r | false => .e
    | none => .r
  | 2 => .a
  | _ => .e
def kinds (P : Program) (all : List Oper) (mk : List Nat) (n : Nat) : Nat → List Oper → List SK
  | _, [] => []
  | x, o :: l => kindOf P all mk n x o :: kinds P all mk n (x + 1) l
def pairOk (all : List Oper) (ks : List SK) (mk : List Nat) (n x : Nat) : Bool := match dstOf all x with
  | none => true
  | some d => match getK ks x with
    | .e => ordered all mk x d (upto n 0)
    | _ => tame all mk x d (upto n 0)
def headOk (ks : List SK) (mk : List Nat) (i : Nat) : List Nat → Bool
  | [] => true
  | k :: r => match getK ks k with
    | .a => headOk ks mk i r
    | .e => rch mk i k
    | .r => false
def effs (ks : List SK) (mk : List Nat) (i : Nat) : List Nat → Bool
  | [] => true
  | e :: l => match getK ks e with
    | .e => match rch mk e i with | true => effs ks mk i l | false => false
    | _ => effs ks mk i l
/-- An order is a fit one. -/
def ordOk (all : List Oper) (ks : List SK) (mk : List Nat) : List Nat → List Nat → Bool
  | _, [] => true
  | before, i :: rest =>
    match lget all i with
    | none => false
    | some o => match memN i before with
      | true => false
      | false => match afterOk before o.after.toList with
        | false => false
        | true => match (match getK ks i with
            | .a => match o.guard with | none => headOk ks mk i rest | some _ => false
            | _ => effs ks mk i before) with
          | true => ordOk all ks mk (i :: before) rest
          | false => false
def regOk (all : List Oper) (ks : List SK) (mk ord : List Nat) (n : Nat) : Bool :=
  match ordOk all ks mk [] ord with
  | false => false
  | true => match allN (fun i => memN i ord) (upto n 0) with
    | false => false
    | true => allN (fun x => pairOk all ks mk n x) (upto n 0)
/-- Equality of virtual values that the kernel can decide. -/
def vaEq (a b : VA) : Bool := match a.b, b.b with
  | .base r, .base s => match Nat.beq r s with | true => Nat.beq a.o b.o | false => false
  | .loc r, .loc s => match Nat.beq r s with | true => Nat.beq a.o b.o | false => false
  | _, _ => false
mutual
def vvEq : VV → VV → Bool
  | .bool a, .bool b => match a, b with | true, true => true | false, false => true | _, _ => false
  | .int k a, .int k' b => match kEq k k' with | true => decide (a = b) | false => false
  | .string a, .string b => strEq a b
  | .ptr none, .ptr none => true
  | .ptr (some a), .ptr (some b) => vaEq a b
  | .slice none l c, .slice none l' c' => match Nat.beq l l' with | true => Nat.beq c c' | false => false
  | .slice (some a) l c, .slice (some b) l' c' => match vaEq a b with
    | true => match Nat.beq l l' with | true => Nat.beq c c' | false => false
    | false => false
  | .map none, .map none => true
  | .nilFunc, .nilFunc => true
  | .func (.func f) a b, .func (.func g) c d => match Nat.beq f g with
    | true => match vvsEq a c with | true => vvsEq b d | false => false
    | false => false
  | .nilIface, .nilIface => true
  | .iface t x, .iface u y => match Nat.beq t u with | true => vvEq x y | false => false
  | .agg a, .agg b => vvsEq a b
  | .tuple a, .tuple b => vvsEq a b
  | _, _ => false
def vvsEq : List VV → List VV → Bool
  | [], [] => true
  | x :: a, y :: b => match vvEq x y with | true => vvsEq a b | false => false
  | _, _ => false
end
/-- What was read still reads so. -/
def still (P : Program) (a : VT) (H : VH) (o : Oper) : Bool := match (evR P o.op a H).get with
  | some v => match o.dst with
    | some d => vvEq v (tget a d)
    | none => true
  | none => false
def stable (P : Program) (all : List Oper) (mk : List Nat) (e : Nat) (a : VT) (H : VH) : List Nat → Bool
  | [] => true
  | p :: l => match (match rch mk p e with
      | true => true
      | false => match lget all p with
        | some o => still P a H o
        | none => false) with
    | true => stable P all mk e a H l
    | false => false
def keepP (mk : List Nat) (e : Nat) : List Nat → List Nat
  | [] => []
  | p :: l => match rch mk p e with | true => keepP mk e l | false => p :: keepP mk e l
/-- The run in a fit order. -/
def cRun (P : Program) (fe : FE) (nt : Nat) (all : List Oper) (ks : List SK) (mk : List Nat) : List Nat → VT → VH → List Nat → Option (VT × VH)
  | [], a, H, _ => some (a, H)
  | i :: rest, a, H, pd =>
    match lget all i with
    | none => none
    | some o => match wantedV all a o.guard with
      | false => match putD nt a o.dst vundef with
        | some a₁ => cRun P fe nt all ks mk rest a₁ H pd
        | none => none
      | true => match getK ks i with
        | .r => match (evR P o.op a H).get with
          | some v => match putD nt a o.dst v with
            | some a₁ => cRun P fe nt all ks mk rest a₁ H (match cls P o.op with | 0 => pd | _ => i :: pd)
            | none => none
          | none => none
        | _ => match opRun P fe o.op a H with
          | some (v, H₁) => match stable P all mk i a H₁ pd with
            | true => match putD nt a o.dst v with
              | some a₁ => cRun P fe nt all ks mk rest a₁ H₁ (keepP mk i pd)
              | none => none
            | false => none
          | none => none
def drawRun (P : Program) (fe : FE) : DE := fun nt all a H =>
  match regOk all (kinds P all (masks all []) all.length 0 all) (masks all []) (canonOrd (kinds P all (masks all []) all.length 0 all) (masks all []) all.length) all.length with
  | true => cRun P fe nt all (kinds P all (masks all []) all.length 0 all) (masks all []) (canonOrd (kinds P all (masks all []) all.length 0 all) (masks all []) all.length) a H []
  | false => none
def runV (P : Program) (n : Nat) (f : FuncId) : Bool :=
  match (evN P (drawRun P) n).2 f [] ⟨fun _ => none, .lf, 0⟩ with
  | some (.bool b, _) => b
  | _ => false
end
end Go.Ev
