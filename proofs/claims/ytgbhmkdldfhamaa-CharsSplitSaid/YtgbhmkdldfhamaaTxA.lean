/-
  CharsSplit: states at the loop's heads, what the kernel runs.
-/
import Derived.Test.YtgbhmkdldfhamaaTxS
import Derived.Test.YtgbhmkdldfhamaaEvQa
namespace Go.Proofs.Ytgbhmkdldfhamaa.split
open Go.Ev Go.RowKit
set_option linter.unusedVariables false
noncomputable section
def su (i : Nat) : VV := .sint .u16 i
def i8 (n : Int) : VV := .int .i64 n
def laF : List Fact := [.len false (.sym 0) (si 2)]
/-- The element 100; the operation 103, its numbers 107, 111, the keys 113. -/
def laEl (n : Nat) : List Fact := [.at 1 (.sym 0) (.int .i64 n) ⟨.sym 90, 0⟩, .bin .rem (su 100) (.int .u16 4) (su 101), .bin .add (i8 1) (si 101) (si 103), .bin .shr (su 100) (.int .u64 2) (su 104), .bin .rem (su 104) (.int .u16 40) (su 105), .bin .sub (si 105) (i8 20) (si 107), .bin .shr (su 100) (.int .u64 8) (su 108), .bin .rem (su 108) (.int .u16 40) (su 109), .bin .sub (si 109) (i8 20) (si 111), .bin .shr (su 100) (.int .u64 4) (su 112), .bin .rem (su 112) (.int .u16 128) (su 113)]
def Elaw (n : Nat) (iv : Ivs) (fs : List Fact) : Env := match Nat.blt n 20, decide ((n : Int) + 1 ≤ (ivAt iv 2).1) with
  | true, true => ⟨fun _ => none, ivAt iv, fs ++ (laF ++ laEl n), fun i => match Nat.beq i 90 with | true => some [su 100] | false => none⟩
  | _, _ => ⟨fun _ => none, ivAt iv, fs ++ laF, fun _ => none⟩
theorem Elaw_blk (n : Nat) (iv : Ivs) (fs : List Fact) : (Elaw n iv fs).blk = fun _ => none := by
  unfold Elaw
  split <;> rfl
def big1 : Int × Int := (-9223372036854775808, 9223372036854775807)
def manyI : Nat → Ivs
  | 0 => []
  | n + 1 => big1 :: manyI n
def laiv : Ivs := big1 :: big1 :: (0, 9223372036854775807) :: manyI 112
def anyN : Nat → List VV
  | 0 => []
  | n + 1 => .any :: anyN n
def eV : Nat → VV
  | 0 => .slice none 0 0
  | n + 1 => .slice (some ⟨.loc 0, 0⟩) (n + 1) (n + 1)
def laa (n : Nat) : VT := ((((listT (anyN 86) 0 .lf).put 0 (.sym 0)).put 1 (.sint .u8 1)).put 6 (.int .i64 n)).put 5 (eV n)
def cellsE : Nat → List VV
  | 0 => []
  | n + 1 => cellsE n ++ [si (4 * n + 4), si (4 * n + 5), si (4 * n + 6), si (4 * n + 7)]
def ysE : Nat → List VV
  | 0 => []
  | n + 1 => si (4 * n + 7) :: si (4 * n + 6) :: si (4 * n + 5) :: si (4 * n + 4) :: ysE n
def laL : Nat → TT VO
  | 0 => .lf
  | n + 1 => .nd .lf (some (.cells (cellsE (n + 1)) (some 4) 0 (some 58))) .lf
def laH : Nat → Nat
  | 0 => 0
  | _ + 1 => 1
def lat (n : Nat) : TrX Leaf := match Nat.blt n 20 with
  | true => .cut 2 n (.leaf (.ret .any)) (.cut 103 2 (.leaf (.goto (n + 1) (i8 n :: si 111 :: si 113 :: si 103 :: ysE n))) (.leaf (.goto (n + 1) (i8 n :: si 111 :: si 107 :: si 103 :: ysE n))))
  | false => .leaf (.ret .any)
def lac (n : Nat) : CutP := ⟨some 0, laa n, laL n, laH n, 4, ysE n, laiv, Elaw n, lat n⟩
def lacs : Nat → List CutP
  | 0 => []
  | n + 1 => lacs n ++ [lac n]
def laC : List CutP := lacs 21
def labody : Code := match Try.f7.body with | some c => c | none => .skip
def laKT : List KE := [⟨15, [], [], .bool true⟩]
def rcN (K : List KE) : CE := (evN Try.prog (drawRun Try.prog) (knL K) 20000).1.2
def lchk : Nat → Bool
  | 0 => true
  | n + 1 => match lchk n with
    | true => chkPN (rcN laKT) Try.f7.ntmps [0] 1000 labody laC (lac n)
    | false => false
/-- From the entry to the first head. -/
def lent : Bool := match seg (rcN laKT) Try.f7.ntmps [0] 1000 labody 0 [] (listT [.sym 0, .sint .u8 1] 0 .lf) ⟨Elaw 20 laiv [], .lf, 0⟩ with
  | some (.cut t a H) => match Nat.beq t 0 with
    | true => moveB (lac 0) a H []
    | false => false
  | _ => false
/-! ### behind the loop -/
def reF (b : Bool) : List Fact := [.len false (.sym 0) (si 2), .len false (.sym 7) (si 9), .bin .add (si 9) (i8 1) (si 10), .bin .rem (si 1) (si 10) (si 11), .cut 4 (.sym 7) none (some (si 11)) (.sym 12), .cut 4 (.sym 7) (some (si 11)) none (.sym 13), .bin .lss (si 6) (si 2) (.bool b)]
def reiv (b : Bool) : Ivs := [big1, big1, big1, big1, big1, big1, match b with | true => (20, 9223372036854775807) | false => big1]
def Ere (b : Bool) : Env := ⟨fun _ => none, ivAt (reiv b), reF b, fun _ => none⟩
def rea : VT := ((((listT (anyN 86) 0 .lf).put 0 (.sym 0)).put 1 (.sint .u8 1)).put 6 (si 6)).put 5 (.sym 7)
def reKT : List KE := [⟨18, [.agg [i8 2, i8 3, i8 5], .sym 12], [], .agg [si 20, si 21, si 22]⟩, ⟨18, [.agg [si 20, si 21, si 22], .sym 13], [], .agg [si 30, si 31, si 32]⟩, ⟨18, [.agg [i8 2, i8 3, i8 5], .sym 7], [], .agg [si 30, si 31, si 32]⟩]
def rerun (b : Bool) : Option SegO := match ctx 0 labody 0 [] with
  | some (c, K) => seg (rcN reKT) Try.f7.ntmps [0] 1000 c 1 (.lp c 0 :: K) rea ⟨Ere b, .lf, 0⟩
  | none => none
def rechk (b : Bool) : Bool := match rerun b with
  | some (.out .ret a H) => match resL Try.prog a H Try.f7.results.toList with
    | some [r] => vvEq r (.bool true)
    | _ => false
  | _ => false
end
end Go.Proofs.Ytgbhmkdldfhamaa.split
