/-
  Where a code may go on, and its text: the statement's function as an automaton (cuts, trees of cases: printed by a program of ours).
-/
import Derived.Test.YtgmdbpmookoafaaDoorTxE
import Derived.Test.YtgmdbpmookoafaaDoorEv5
import Derived.ProofKit
namespace Go.Proofs.YtgmdbpmookoafaaDoor.tells
open Go.Ev Go.RowKit
set_option linter.unusedVariables false
noncomputable section
theorem noNG : Go.Ev.noNGb Tryd.prog = true := by kernel_rfl
theorem mixed : Tryd.prog.follows .mixedOrders = true := by kernel_rfl
def si (i : Nat) : VV := .sint .i64 i
def hasLss (fs : List Fact) (a b : Nat) : Bool := fs.any fun f => match f with
  | .bin .lss (.sint _ x) (.sint _ y) (.bool true) => Nat.beq x a && Nat.beq y b
  | _ => false
def teF : List Fact := [.len false (.sym 0) (si 1), .fn .min [si 1, .int .i64 40] (si 5), .cut 3 (.sym 0) none (some (si 5)) (.sym 4), .len false (.sym 4) (si 5), .len true (.sym 18) (si 19)]
/-- An element: its index, the next one, its block. -/
def teEl (i j b : Nat) : List Fact := [.at 3 (.sym 4) (si i) ⟨.sym b, 0⟩, .bin .add (si i) (.int .i64 1) (si j)]
def teIn (iv : Ivs) (fs : List Fact) (i : Nat) : Bool := match hasLss fs i 5 with
  | true => decide (0 ≤ (ivAt iv i).1)
  | false => false
def Went (iv : Ivs) (fs : List Fact) : Env := ⟨fun _ => none, ivAt iv, fs ++ teF, fun _ => none⟩
def Wloop (iv : Ivs) (fs : List Fact) : Env := match teIn iv fs 8, teIn iv fs 6 with
  | true, _ => ⟨fun _ => none, ivAt iv, fs ++ (teF ++ teEl 8 9 10), fun i => match Nat.beq i 10 with
    | true => some [sv iv .i64 10, sv iv .i64 11, sv iv .i64 12]
    | false => none⟩
  | false, true => ⟨fun _ => none, ivAt iv, fs ++ (teF ++ teEl 6 7 13), fun i => match Nat.beq i 13 with
    | true => some [sv iv .i64 13, sv iv .i64 14, sv iv .i64 15]
    | false => none⟩
  | false, false => ⟨fun _ => none, ivAt iv, fs ++ (teF ++ [.bin .add (si 8) (.int .i64 1) (si 9)]), fun _ => none⟩
theorem Wloop_blk (iv : Ivs) (fs : List Fact) : (Wloop iv fs).blk = fun _ => none := by
  unfold Wloop
  split <;> rfl
def cwiv0 : Go.Ev.Ivs := [(-9223372036854775808, 9223372036854775807), (0, 9223372036854775807), (-9223372036854775808, 9223372036854775807), (-9223372036854775808, 9223372036854775807), (-9223372036854775808, 9223372036854775807), (0, 40), (-9223372036854775808, 9223372036854775807), (-9223372036854775808, 9223372036854775807), (-1, 41), (0, 42)]
def cwt0 : Go.Ev.TrX Go.Ev.Leaf := (.leaf (.goto 1 [(.int .i64 (-1))]))
def cwc0 : Go.Ev.CutP := ⟨none, (.nd (.nd .lf (some (.sint .i64 6)) .lf) (some (.sym 0)) .lf), .lf, 0, 10, [], cwiv0, Went, cwt0⟩
def cwiv1 : Go.Ev.Ivs := [(-9223372036854775808, 9223372036854775807), (0, 9223372036854775807), (-9223372036854775808, 9223372036854775807), (-9223372036854775808, 9223372036854775807), (-9223372036854775808, 9223372036854775807), (0, 40), (-9223372036854775808, 9223372036854775807), (-9223372036854775808, 9223372036854775807), (-1, 41), (0, 42), (-9223372036854775808, 9223372036854775807), (-9223372036854775808, 9223372036854775807), (-9223372036854775808, 9223372036854775807), (-9223372036854775808, 9223372036854775807), (-9223372036854775808, 9223372036854775807), (-9223372036854775808, 9223372036854775807), (-9223372036854775808, 9223372036854775807), (-9223372036854775808, 9223372036854775807), (-9223372036854775808, 9223372036854775807), (0, 4000)]
def cwt1L : Go.Ev.TrX Go.Ev.Leaf := (.cut 6 (-1) (.leaf (.ret (.bool true))) (.rel .i64 6 5 (.cut 13 (23) (.cut 13 (7) (.leaf (.ret (.bool true))) (.cut 13 (8) (.leaf (.ret (.bool true))) (.cut 13 (9) (.rel .i64 14 7 (.rel .i64 7 14 (.leaf (.ret (.bool false))) (.leaf (.ret (.bool true)))) (.rel .i64 7 14 (.leaf (.ret (.bool true))) (.leaf (.ret (.bool true))))) (.leaf (.ret (.bool true)))))) (.cut 13 (24) (.leaf (.ret (.bool true))) (.leaf (.ret (.bool true))))) (.leaf (.ret (.bool true)))))
def cwt1R : Go.Ev.TrX Go.Ev.Leaf := (.cut 8 (-1) (.leaf (.goto 1 [(.sint .i64 9)])) (.rel .i64 8 5 (.cut 10 (23) (.cut 10 (7) (.leaf (.goto 1 [(.sint .i64 9)])) (.cut 10 (8) (.leaf (.goto 1 [(.sint .i64 9)])) (.cut 10 (9) (.rel .i64 11 9 (.rel .i64 9 11 (.leaf (.ret (.bool false))) (.leaf (.goto 1 [(.sint .i64 9)]))) (.rel .i64 9 11 (.leaf (.goto 1 [(.sint .i64 9)])) (.leaf (.goto 1 [(.sint .i64 9)])))) (.leaf (.goto 1 [(.sint .i64 9)]))))) (.cut 10 (24) (.leaf (.goto 1 [(.sint .i64 9)])) (.leaf (.goto 1 [(.sint .i64 9)])))) (.leaf (.goto 1 [(.sint .i64 9)]))))
def cwt1 : Go.Ev.TrX Go.Ev.Leaf := .rel .i64 5 8 cwt1L cwt1R
def cwc1 : Go.Ev.CutP := ⟨some 0, (.nd (.nd (.nd (.nd (.nd (.nd .lf (some .any) .lf) (some .any) .lf) (some .any) (.nd (.nd .lf (some .any) .lf) (some .any) .lf)) (some .any) (.nd (.nd (.nd .lf (some .any) .lf) (some .any) .lf) (some .any) (.nd .lf (some .any) .lf))) (some (.sint .i64 6)) (.nd (.nd (.nd (.nd .lf (some .any) .lf) (some .any) .lf) (some .any) (.nd (.nd .lf (some .any) .lf) (some .any) .lf)) (some (.sint .i64 8)) (.nd (.nd (.nd .lf (some .any) .lf) (some .any) .lf) (some .any) (.nd .lf (some .any) .lf)))) (some (.sym 4)) (.nd (.nd (.nd (.nd (.nd .lf (some .any) .lf) (some .any) .lf) (some .any) (.nd (.nd .lf (some .any) .lf) (some .any) .lf)) (some (.bool false)) (.nd (.nd (.nd .lf (some .any) .lf) (some .any) .lf) (some .any) (.nd .lf (some .any) .lf))) (some .any) (.nd (.nd (.nd (.nd .lf (some .any) .lf) (some .any) .lf) (some .any) (.nd .lf (some .any) .lf)) (some .any) (.nd (.nd (.nd .lf (some .any) .lf) (some .any) .lf) (some .any) (.nd .lf (some .any) .lf))))), .lf, 0, 8, [(.sint .i64 8)], cwiv1, Wloop, cwt1⟩
def cwKT : List Go.Ev.KE := [⟨11, [], [], (.bool true)⟩, ⟨15, [(.sym 4)], [], (.sym 18)⟩, ⟨16, [(.sym 4)], [], (.sym 18)⟩]
def cwC : List Go.Ev.CutP := [cwc0, cwc1]
def cwbody : Code := match Tryd.f4.body with | some c => c | none => .skip
def cwlf (c : Go.Ev.CutP) : Go.Ev.Ivs → List Go.Ev.Fact → Go.Ev.Leaf → Bool := Go.Ev.chkLf Tryd.prog (Go.Ev.rcKT Tryd.prog cwKT 20000) Tryd.f4.ntmps [0] 1000 Tryd.f4.results.toList cwbody cwC c
theorem cwk0 : Go.Ev.chkX (cwlf cwc0) cwt0 cwiv0 [] = true := by kernel_rfl
theorem cwk1L : Go.Ev.chkX (cwlf cwc1) cwt1L cwiv1 (.bin .lss (.sint .i64 5) (.sint .i64 8) (.bool true) :: []) = true := by kernel_rfl
theorem cwk1R : Go.Ev.chkX (cwlf cwc1) cwt1R cwiv1 (.bin .lss (.sint .i64 5) (.sint .i64 8) (.bool false) :: []) = true := by kernel_rfl
theorem cwk1 : Go.Ev.chkX (cwlf cwc1) cwt1 cwiv1 [] = true := Go.Ev.chkX_rel cwk1L cwk1R
theorem cwauto : @Go.Ev.Auto (Go.Ev.extKT Tryd.prog cwKT) Tryd.prog (Go.Ev.rcKT Tryd.prog cwKT 20000) Tryd.f4 cwbody [0] 1000 cwC (fun _ => none) := Go.Ev.auto_of noNG mixed (by kernel_rfl) ⟨cwk0, cwk1, trivial⟩ ⟨(fun _ _ => rfl), Wloop_blk, trivial⟩
end
end Go.Proofs.YtgmdbpmookoafaaDoor.tells
