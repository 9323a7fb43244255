/- Engine, part N: regions that draw their order: the evaluator. -/
import Derived.Test.YticgadnmlbfmfaaEvM
namespace Go.Ev
noncomputable section
def bindB (e : Edge) : Bool := match e.ground with | .textOnly _ => false | .gcOnly _ => false | _ => true
def getN (l : List Nat) (i : Nat) : Nat := match lget l i with | some x => x | none => 0
def edgeMask (acc : List Nat) : List Edge → Nat
  | [] => 0
  | e :: r => match bindB e with
    | true => (2 ^ e.on ||| getN acc e.on) ||| edgeMask acc r
    | false => edgeMask acc r
/-- Of each operation the set (as bits) of those that come before it. -/
def masks : List Oper → List Nat → List Nat
  | [], acc => acc
  | o :: l, acc => masks l (acc ++ [edgeMask acc o.after.toList])
def rch (mk : List Nat) (i j : Nat) : Bool := Nat.testBit (getN mk j) i
def idxs (p : Nat → Bool) : Nat → Nat → List Nat
  | 0, _ => []
  | n + 1, i => match p i with
    | true => i :: idxs p n (i + 1)
    | false => idxs p n (i + 1)
def countB (p : Nat → Bool) : List Nat → Nat
  | [] => 0
  | x :: l => match p x with | true => countB p l + 1 | false => countB p l
def partB (p : Nat → Bool) : List Nat → List Nat × List Nat
  | [] => ([], [])
  | x :: l => match partB p l with
    | (a, b) => match p x with | true => (x :: a, b) | false => (a, x :: b)
/-- How an operation is put into the order: as early as may be, as late as may be, or as a step that all others know. -/
inductive SK where
  | r
  | a
  | e
def SK.isR : SK → Bool | .r => true | _ => false
def SK.isA : SK → Bool | .a => true | _ => false
def SK.isE : SK → Bool | .e => true | _ => false
def getK (l : List SK) (i : Nat) : SK := match lget l i with | some x => x | none => .e
/-- An order of the operations in which what only reads comes as early as may be, and what makes a variable as late. -/
def canonGo (mk : List Nat) (lev : Nat → Nat) (reads : List Nat) : Nat → List Nat → List Nat → List Nat
  | j, allocs, [] => (partB (fun i => Nat.beq (lev i) j) reads).1 ++ allocs
  | j, allocs, e :: es => match partB (fun k => rch mk k e) allocs with
    | (now, later) => (partB (fun i => Nat.beq (lev i) j) reads).1 ++ (now ++ (e :: canonGo mk lev reads (j + 1) later es))
def canonOrd (ks : List SK) (mk : List Nat) (n : Nat) : List Nat :=
  canonGo mk (fun i => countB (fun e => rch mk e i) (idxs (fun i => (getK ks i).isE) n 0)) (idxs (fun i => (getK ks i).isR) n 0) 0 (idxs (fun i => (getK ks i).isA) n 0) (idxs (fun i => (getK ks i).isE) n 0)
def memN (x : Nat) : List Nat → Bool
  | [] => false
  | y :: l => match Nat.beq x y with | true => true | false => memN x l
def allN (p : Nat → Bool) : List Nat → Bool
  | [] => true
  | x :: l => match p x with | true => allN p l | false => false
def tmpsOf : List Operand → List Nat
  | [] => []
  | .tmp t :: l => t :: tmpsOf l
  | _ :: l => tmpsOf l
/-- The temporaries that an operation looks at. -/
def looks (all : List Oper) (o : Oper) : List Nat :=
  match o.guard with
  | some (g, _) => match lget all g with
    | some og => match og.dst with
      | some d => d :: tmpsOf o.op.operands.toList
      | none => tmpsOf o.op.operands.toList
    | none => tmpsOf o.op.operands.toList
  | none => tmpsOf o.op.operands.toList
def afterOk (before : List Nat) : List Edge → Bool
  | [] => true
  | e :: r => match bindB e with
    | true => match memN e.on before with | true => afterOk before r | false => false
    | false => afterOk before r
def dstOf (all : List Oper) (i : Nat) : Option Nat := match lget all i with | some o => o.dst | none => none
def looksOf (all : List Oper) (i : Nat) : List Nat := match lget all i with | some o => looks all o | none => []
def optIs (d : Nat) : Option Nat → Bool | some d' => Nat.beq d d' | none => false
/-- Whether an operation names a temporary. -/
def hits (all : List Oper) (d i : Nat) : Bool := match memN d (looksOf all i) with | true => true | false => optIs d (dstOf all i)
def upto : Nat → Nat → List Nat
  | 0, _ => []
  | n + 1, i => i :: upto n (i + 1)
/-- All that name what the operation writes come behind it. -/
def tame (all : List Oper) (mk : List Nat) (x d : Nat) : List Nat → Bool
  | [] => true
  | i :: l => match Nat.beq x i with
    | true => match memN d (looksOf all i) with | true => false | false => tame all mk x d l
    | false => match hits all d i with
      | false => tame all mk x d l
      | true => match rch mk x i with | true => tame all mk x d l | false => false
/-- All that name what the operation writes come before or behind it. -/
def ordered (all : List Oper) (mk : List Nat) (x d : Nat) : List Nat → Bool
  | [] => true
  | i :: l => match Nat.beq x i with
    | true => ordered all mk x d l
    | false => match hits all d i with
      | false => ordered all mk x d l
      | true => match rch mk x i with
        | true => ordered all mk x d l
        | false => match rch mk i x with | true => ordered all mk x d l | false => false
/-- Operations on operands alone that may be put late. -/
def isU : Op → Bool
  | .move _ | .build _ _ | .makeInterface _ _ => true
  | _ => false
def evU (P : Program) (o : Op) (a : VT) : Option VV :=
  match o with
  | .move x => evOperand a x
  | .build t ⟨parts⟩ => match evParts a parts with
    | some ps => evBuild P t ps
    | none => none
  | .makeInterface t x => match P.underlying t, evOperand a x with
    | some d, some v => match notIface d with
      | true => some (.iface t v)
      | false => none
    | _, _ => none
  | _ => none
/-- What comes before the steps that come before it. -/
def behind (mk : List Nat) (x : Nat) : List Nat → Nat
  | [] => 0
  | e :: l => match rch mk e x with | true => Nat.lor (getN mk e) (behind mk x l) | false => behind mk x l
/-- Does an operation hang on a late one, with no step between? -/
def onLate (mk : List Nat) (late : Nat) (es : List Nat) (x : Nat) : Bool :=
  match Nat.beq (Nat.land (getN mk x) late) 0 with
  | true => false
  | false => !(Nat.beq (Nat.land (getN mk x) (Nat.xor late (Nat.land late (behind mk x es)))) 0)
/-- Map literals: the inserts into a map that was made in the region. -/
def insM : Op → Option Nat
  | .insert _ (.tmp m) _ _ => some m
  | _ => none
def insFrom (m : Nat) : Nat → List Oper → List Nat
  | _, [] => []
  | x, o :: l => match insM o.op with
    | some m' => match Nat.beq m m' with
      | true => x :: insFrom m (x + 1) l
      | false => insFrom m (x + 1) l
    | none => insFrom m (x + 1) l
def insOf (all : List Oper) (m : Nat) : List Nat := insFrom m 0 all
def mkM (o : Oper) : Option Nat := match o.op with
  | .makeMap _ _ => o.dst
  | _ => none
def hasMk (m : Nat) : List Oper → Bool
  | [] => false
  | o :: l => match optIs m (mkM o) with
    | true => true
    | false => hasMk m l
def kindOf (P : Program) (all : List Oper) (mk : List Nat) (n late : Nat) (es : List Nat) (x : Nat) (o : Oper) : SK := match cls P o.op with
  | 0 => match o.dst with
    | some d => match tame all mk x d (upto n 0) with
      | true => match onLate mk late es x with
        | false => .r
        | true => match o.guard, isU o.op with | none, true => .a | _, _ => .e
      | false => .e
    | none => .r
  | 1 => match o.dst with
    | some d => match tame all mk x d (upto n 0) with
      | true => match onLate mk late es x with
        | false => .r
        | true => .e
      | false => .e
    | none => .r
  | 2 => .a
  | _ => match insM o.op, o.dst, o.guard with
    | some m, none, none => match hasMk m all with | true => .a | false => .e
    | _, _, _ => .e
def kinds (P : Program) (all : List Oper) (mk : List Nat) (n : Nat) : Nat → List Nat → Nat → List Oper → List SK
  | _, _, _, [] => []
  | late, es, x, o :: l => match kindOf P all mk n late es x o with
    | .a => .a :: kinds P all mk n (Nat.lor late (2 ^ x)) es (x + 1) l
    | .e => .e :: kinds P all mk n late (x :: es) (x + 1) l
    | .r => .r :: kinds P all mk n late es (x + 1) l
/-- No other operation writes the temporary. -/
def soleW (all : List Oper) (x d : Nat) : List Nat → Bool
  | [] => true
  | i :: l => match Nat.beq x i with
    | true => soleW all x d l
    | false => match optIs d (dstOf all i) with
      | true => false
      | false => soleW all x d l
def pairOk (all : List Oper) (ks : List SK) (mk : List Nat) (n x : Nat) : Bool := match dstOf all x with
  | none => true
  | some d => match getK ks x with
    | .e => ordered all mk x d (upto n 0)
    | .a => match tame all mk x d (upto n 0) with
      | true => soleW all x d (upto n 0)
      | false => false
    | .r => tame all mk x d (upto n 0)
def headOk (ks : List SK) (mk : List Nat) (i : Nat) : List Nat → Bool
  | [] => true
  | k :: r => match getK ks k with
    | .a => headOk ks mk i r
    | .e => rch mk i k
    | .r => false
def effs (ks : List SK) (mk : List Nat) (i : Nat) : List Nat → Bool
  | [] => true
  | e :: l => match getK ks e with
    | .e => match rch mk e i with | true => effs ks mk i l | false => false
    | _ => effs ks mk i l
/-- An order is a fit one. -/
def ordOk (all : List Oper) (ks : List SK) (mk : List Nat) : List Nat → List Nat → Bool
  | _, [] => true
  | before, i :: rest =>
    match lget all i with
    | none => false
    | some o => match memN i before with
      | true => false
      | false => match afterOk before o.after.toList with
        | false => false
        | true => match (match getK ks i with
            | .a => match o.guard with | none => headOk ks mk i rest | some _ => false
            | _ => effs ks mk i before) with
          | true => ordOk all ks mk (i :: before) rest
          | false => false
/-- All that write what the operation looks at come before it. -/
def wrOk (all : List Oper) (mk : List Nat) (i : Nat) : List Nat → Bool
  | [] => true
  | x :: l => match dstOf all x with
    | none => wrOk all mk i l
    | some d => match memN d (looksOf all i) with
      | false => wrOk all mk i l
      | true => match rch mk x i with
        | true => wrOk all mk i l
        | false => false
def wrsOk (all : List Oper) (ks : List SK) (mk : List Nat) (n : Nat) : List Nat → Bool
  | [] => true
  | i :: l => match getK ks i with
    | .a => match wrOk all mk i (upto n 0) with
      | true => wrsOk all ks mk n l
      | false => false
    | _ => wrsOk all ks mk n l
/-- All that name a map that is made by a literal come behind the literal's inserts. -/
def grpOk1 (all : List Oper) (mk : List Nat) (i m : Nat) (ins : List Nat) : List Nat → Bool
  | [] => true
  | j :: l => match Nat.beq i j, memN j ins, hits all m j with
    | false, false, true => match allN (fun x => rch mk x j) ins with
      | true => grpOk1 all mk i m ins l
      | false => false
    | _, _, _ => grpOk1 all mk i m ins l
def noDst (all : List Oper) (x : Nat) : Bool := match dstOf all x with | none => true | some _ => false
def isA (ks : List SK) (x : Nat) : Bool := match getK ks x with | .a => true | _ => false
def grpsOk (all : List Oper) (ks : List SK) (mk : List Nat) (n : Nat) : List Nat → Bool
  | [] => true
  | i :: l => match (match lget all i with | some o => mkM o | none => none) with
    | none => grpsOk all ks mk n l
    | some m => match insOf all m with
      | [] => grpsOk all ks mk n l
      | y :: ys => match isA ks i, allN (fun x => isA ks x) (y :: ys), allN (fun x => noDst all x) (y :: ys), grpOk1 all mk i m (y :: ys) (upto n 0) with
        | true, true, true, true => grpsOk all ks mk n l
        | _, _, _, _ => false
def regOk (all : List Oper) (ks : List SK) (mk ord : List Nat) (n : Nat) : Bool :=
  match ordOk all ks mk [] ord with
  | false => false
  | true => match allN (fun i => memN i ord) (upto n 0) with
    | false => false
    | true => match wrsOk all ks mk n (upto n 0) with
      | false => false
      | true => match grpsOk all ks mk n (upto n 0) with
        | false => false
        | true => allN (fun x => pairOk all ks mk n x) (upto n 0)
/-- Equality of virtual values that the kernel can decide. -/
def vaEq (a b : VA) : Bool := match a.b, b.b with
  | .base r, .base s => match Nat.beq r s with | true => Nat.beq a.o b.o | false => false
  | .loc r, .loc s => match Nat.beq r s with | true => Nat.beq a.o b.o | false => false
  | .sym r, .sym s => match Nat.beq r s with | true => Nat.beq a.o b.o | false => false
  | _, _ => false
mutual
def vvEq : VV → VV → Bool
  | .bool a, .bool b => match a, b with | true, true => true | false, false => true | _, _ => false
  | .int k a, .int k' b => match kEq k k' with | true => decide (a = b) | false => false
  | .string a, .string b => strEq a b
  | .ptr none, .ptr none => true
  | .ptr (some a), .ptr (some b) => vaEq a b
  | .slice none l c, .slice none l' c' => match Nat.beq l l' with | true => Nat.beq c c' | false => false
  | .slice (some a) l c, .slice (some b) l' c' => match vaEq a b with
    | true => match Nat.beq l l' with | true => Nat.beq c c' | false => false
    | false => false
  | .map none, .map none => true
  | .map (some a), .map (some b) => vaEq ⟨a, 0⟩ ⟨b, 0⟩
  | .nilFunc, .nilFunc => true
  | .sint k i, .sint k' j => match kEq k k' with | true => Nat.beq i j | false => false
  | .sym i, .sym j => Nat.beq i j
  | .func (.func f) a b, .func (.func g) c d => match Nat.beq f g with
    | true => match vvsEq a c with | true => vvsEq b d | false => false
    | false => false
  | .nilIface, .nilIface => true
  | .iface t x, .iface u y => match Nat.beq t u with | true => vvEq x y | false => false
  | .agg a, .agg b => vvsEq a b
  | .tuple a, .tuple b => vvsEq a b
  | .lsl b n m, .lsl b' n' m' => match Nat.beq b b' with
    | true => match Nat.beq n n' with | true => Nat.beq m m' | false => false
    | false => false
  | .cat a, .cat b => vvsEq a b
  | .tsl b p, .tsl b' p' => match Nat.beq b b' with | true => vvsEq p p' | false => false
  | .tlen a, .tlen b => vvsEq a b
  | _, _ => false
def vvsEq : List VV → List VV → Bool
  | [], [] => true
  | x :: a, y :: b => match vvEq x y with | true => vvsEq a b | false => false
  | _, _ => false
end
/-- What was read still reads so. -/
def still (P : Program) (a : VT) (H : VH) (o : Oper) : Bool := match (evR P o.op a H).get with
  | some v => match o.dst with
    | some d => vvEq v (tget a d)
    | none => true
  | none => false
def stable (P : Program) (all : List Oper) (mk : List Nat) (e : Nat) (a : VT) (H : VH) : List Nat → Bool
  | [] => true
  | p :: l => match (match rch mk p e with
      | true => true
      | false => match lget all p with
        | some o => still P a H o
        | none => false) with
    | true => stable P all mk e a H l
    | false => false
def keepP (mk : List Nat) (e : Nat) : List Nat → List Nat
  | [] => []
  | p :: l => match rch mk p e with | true => keepP mk e l | false => p :: keepP mk e l
/-- What a value of a type is known to be, at least. -/
def ones : Nat → List VV
  | 0 => []
  | n + 1 => .one :: ones n
def maskV (P : Program) (t : TypeId) : VV := match P.underlying t with
  | some d => match aggD d with
    | true => .agg (ones (tsize P t))
    | false => .one
  | none => .one
def fitCs : List VV → List VV → Bool
  | [], [] => true
  | x :: l, .one :: m => match flat1 x with | true => fitCs l m | false => false
  | _, _ => false
/-- Is a value as it is known to be? -/
def fitsV : VV → VV → Bool
  | x, .one => flat1 x
  | .agg cs, .agg ms => fitCs cs ms
  | _, _ => false
/-- What late operations write, as far as it is known. -/
def lateDs (P : Program) : List Oper → List SK → List (Nat × VV)
  | o :: l, .a :: ks => match o.dst with
    | some d => (d, maskV P o.type) :: lateDs P l ks
    | none => lateDs P l ks
  | _ :: l, _ :: ks => lateDs P l ks
  | _, _ => []
def putAll : List (Nat × VV) → VT → VT
  | [], a => a
  | (d, v) :: l, a => putAll l (a.put d v)
def isOne : VV → Bool
  | .one => true
  | _ => false
/-- The key of an insert, as far as it is known. -/
def kvOf (all : List Oper) (a : VT) (x : Nat) : Option VV := match lget all x with
  | some o => match o.op with
    | .insert _ _ k _ => evOperand a k
    | _ => none
  | none => none
def keyI (P : Program) (all : List Oper) (a : VT) (x : Nat) : Bool := match lget all x with
  | some o => match o.op with
    | .insert t _ k _ => match P.underlying t with
      | some (.map kt _) => match P.underlying kt with
        | some kd => match evOperand a k with
          | some kv => keyD kd kv
          | none => false
        | none => false
      | _ => false
    | _ => false
  | none => false
def pairD (E : Env) (all : List Oper) (a : VT) (x y : Nat) : Bool := match Nat.beq x y with
  | true => true
  | false => match kvOf all a x, kvOf all a y with
    | some k, some k' => match keyEq E k k' with
      | some false => true
      | _ => false
    | _, _ => false
/-- The keys of a literal are unlike. -/
def sealK (P : Program) (E : Env) (all : List Oper) (a : VT) (l : List Nat) : Bool := match allN (fun x => keyI P all a x) l with
  | true => allN (fun x => allN (fun y => pairD E all a x y) l) l
  | false => false
def entsV (all : List Oper) (a : VT) : List Nat → Option (List (VV × VV))
  | [] => some []
  | x :: l => match lget all x with
    | some o => match o.op with
      | .insert _ _ k v => match evOperand a k, evOperand a v, entsV all a l with
        | some k, some v, some r => some ((k, v) :: r)
        | _, _, _ => none
      | _ => none
    | none => none
def anyIn (l : List Nat) : List Nat → Bool
  | [] => false
  | x :: r => match memN x l with | true => true | false => anyIn l r
/-- The last insert of a literal: the map is there. -/
def sealR (nt : Nat) (all : List Oper) (m : Nat) (a : VT) (H : VH) : Option (VT × VH) := match entsV all a (insOf all m), Nat.blt H.next top, Nat.blt m nt with
  | some es, true, true => some (a.put m (.map (some (.loc H.next))), H.alloc (.mapU es))
  | _, _, _ => none
/-- A late operation, of whose operands no more is known than what kind of value they are: it goes through, and what it tells is of its kind. -/
def lateOk (P : Program) (E : Env) (all : List Oper) (ld : List (Nat × VV)) (rest : List Nat) (o : Oper) (a : VT) : Bool := match insM o.op with
  | some m => match anyIn (insOf all m) rest with
    | true => true
    | false => sealK P E all (putAll ld a) (insOf all m)
  | none => match isU o.op with
    | true => match evU P o.op (putAll ld a) with
      | some v => fitsV v (maskV P o.type)
      | none => false
    | false => match evNew P o.op (putAll ld a) with
      | some _ => isOne (maskV P o.type)
      | none => false
/-- The inserts of the literal that an operation begins. -/
def grpOf (all : List Oper) (o : Oper) : List Nat := match mkM o with
  | some m => insOf all m
  | none => []
/-- The run in a fit order. -/
def cRun (P : Program) (fe : FE) (nt : Nat) (all : List Oper) (ks : List SK) (mk : List Nat) (E0 : Env) (ld : List (Nat × VV)) : List Nat → VT → VH → List Nat → Option (VT × VH)
  | [], a, H, _ => some (a, H)
  | i :: rest, a, H, pd =>
    match lget all i with
    | none => none
    | some o => match gOk all a o.guard with
      | false => none
      | true => match wantedV all a o.guard with
        | false => match putD nt a o.dst vundef with
          | some a₁ => cRun P fe nt all ks mk E0 ld rest a₁ H pd
          | none => none
        | true => match getK ks i with
          | .r => match (evR P o.op a H).get with
            | some v => match putD nt a o.dst v with
              | some a₁ => cRun P fe nt all ks mk E0 ld rest a₁ H (match cls P o.op with | 0 => pd | _ => i :: pd)
              | none => none
            | none => none
          | .e => match opRun P fe o.op a H with
            | some (v, H₁) => match stable P all mk i a H₁ pd with
              | true => match putD nt a o.dst v with
                | some a₁ => cRun P fe nt all ks mk E0 ld rest a₁ H₁ (keepP mk i pd)
                | none => none
              | false => none
            | none => none
          | .a => match lateOk P E0 all ld rest o a with
            | false => none
            | true => match insM o.op with
              | some m => match anyIn (insOf all m) rest with
                | true => cRun P fe nt all ks mk E0 ld rest a H pd
                | false => match sealR nt all m a H with
                  | some (a₁, H₁) => match stable P all mk i a H₁ pd with
                    | true => cRun P fe nt all ks mk E0 ld rest a₁ H₁ (keepP mk i pd)
                    | false => none
                  | none => none
              | none => match grpOf all o with
                | _ :: _ => match putD nt a o.dst .one with
                  | some a₁ => cRun P fe nt all ks mk E0 ld rest a₁ H pd
                  | none => none
                | [] => match opRun P fe o.op a H with
                  | some (v, H₁) => match stable P all mk i a H₁ pd with
                    | true => match putD nt a o.dst v with
                      | some a₁ => cRun P fe nt all ks mk E0 ld rest a₁ H₁ (keepP mk i pd)
                      | none => none
                    | false => none
                  | none => none
def ldOk (nt : Nat) : List (Nat × VV) → Bool
  | [] => true
  | (d, _) :: l => match Nat.blt d nt with | true => ldOk nt l | false => false
def drawGo (P : Program) (fe : FE) (nt : Nat) (all : List Oper) (ks : List SK) (mk : List Nat) (ord : List Nat) (ld : List (Nat × VV)) (a : VT) (H : VH) : Option (VT × VH) :=
  match regOk all ks mk ord all.length with
  | true => match ldOk nt ld with
    | true => cRun P fe nt all ks mk H.base ld ord a H []
    | false => none
  | false => none
def drawK (P : Program) (fe : FE) (nt : Nat) (all : List Oper) (ks : List SK) (mk : List Nat) (a : VT) (H : VH) : Option (VT × VH) :=
  drawGo P fe nt all ks mk (canonOrd ks mk all.length) (lateDs P all ks) a H
def drawRun (P : Program) (fe : FE) : DE := fun nt all a H =>
  drawK P fe nt all (kinds P all (masks all []) all.length 0 [] 0 all) (masks all []) a H
def kn0 : KN := fun _ _ _ => none
/-- Functions that are known to tell 'true', when they are given nothing. -/
def knT (K : List FuncId) : KN := fun f args H => match args, memN f K with
  | [], true => some (.bool true, H)
  | _, _ => none
def runK (P : Program) (K : List FuncId) (n : Nat) (f : FuncId) : Bool :=
  match (evN P (drawRun P) (knT K) n).2.call f [] ⟨Env.none, .lf, 0⟩ with
  | some (.bool b, _) => b
  | _ => false
def runV (P : Program) (n : Nat) (f : FuncId) : Bool :=
  match (evN P (drawRun P) kn0 n).2.call f [] ⟨Env.none, .lf, 0⟩ with
  | some (.bool b, _) => b
  | _ => false
end
end Go.Ev
