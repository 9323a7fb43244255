/-
  Two codes of one text: the statement's function as an automaton (cuts, trees of cases: printed by a program of ours).
-/
import Derived.Test.YtgmdbpmookoafaaDoorProg
import Derived.Test.YtgmdbpmookoafaaDoorEv5
import Derived.ProofKit
namespace Go.Proofs.YtgmdbpmookoafaaDoor.apart
open Go.Ev Go.RowKit
set_option linter.unusedVariables false
noncomputable section
theorem noNG : Go.Ev.noNGb Tryd.prog = true := by kernel_rfl
theorem mixed : Tryd.prog.follows .mixedOrders = true := by kernel_rfl
def si (i : Nat) : VV := .sint .i64 i
def hasLss (fs : List Fact) (a b : Nat) : Bool := fs.any fun f => match f with
  | .bin .lss (.sint _ x) (.sint _ y) (.bool true) => Nat.beq x a && Nat.beq y b
  | _ => false
def apF : List Fact := [.len false (.sym 0) (si 1), .len false (.sym 2) (si 3), .fn .min [si 1, .int .i64 40] (si 5), .fn .min [si 3, .int .i64 40] (si 7), .cut 3 (.sym 0) none (some (si 5)) (.sym 4), .cut 3 (.sym 2) none (some (si 7)) (.sym 6), .len false (.sym 4) (si 5), .len false (.sym 6) (si 7)]
/-- Are two symbols equal? A flag says so. -/
def eqFl (iv : Ivs) (k : Nat) (x y : VV) : List Fact := match decide ((ivAt iv k).2 = 0), decide ((ivAt iv k).1 = 1) with
  | true, _ => [.bin .eql x y (.bool false)]
  | _, true => [.bin .eql x y (.bool true)]
  | _, _ => []
def apEl : List Fact := .at 3 (.sym 4) (si 8) ⟨.sym 10, 0⟩ :: .at 3 (.sym 6) (si 8) ⟨.sym 13, 0⟩ :: .bin .add (si 8) (.int .i64 1) (si 9) :: []
def Aent (iv : Ivs) (fs : List Fact) : Env := ⟨fun _ => none, ivAt iv, fs ++ apF, fun _ => none⟩
def Aloop (iv : Ivs) (fs : List Fact) : Env := match hasLss fs 8 5, hasLss fs 8 7 with
  | true, true => ⟨fun _ => none, ivAt iv, fs ++ (apF ++ apEl), fun i => match Nat.beq i 10, Nat.beq i 13 with
    | true, _ => some [sv iv .i64 10, sv iv .i64 11, sv iv .i64 12]
    | _, true => some [sv iv .i64 13, sv iv .i64 14, sv iv .i64 15]
    | _, _ => none⟩
  | _, _ => ⟨fun _ => none, ivAt iv, fs ++ (apF ++ eqFl iv 20 (.sym 18) (.sym 19)), fun _ => none⟩
theorem Aloop_blk (iv : Ivs) (fs : List Fact) : (Aloop iv fs).blk = fun _ => none := by
  unfold Aloop
  split <;> rfl
def caiv0 : Go.Ev.Ivs := [(-9223372036854775808, 9223372036854775807), (0, 9223372036854775807), (-9223372036854775808, 9223372036854775807), (0, 9223372036854775807), (-9223372036854775808, 9223372036854775807), (0, 40), (-9223372036854775808, 9223372036854775807), (0, 40), (0, 40), (1, 41), (-9223372036854775808, 9223372036854775807), (-9223372036854775808, 9223372036854775807), (-9223372036854775808, 9223372036854775807), (-9223372036854775808, 9223372036854775807), (-9223372036854775808, 9223372036854775807), (-9223372036854775808, 9223372036854775807), (0, 1000), (0, 1000)]
def cat0L : Go.Ev.TrX Go.Ev.Leaf := (.cut 17 (0) (.rel .i64 5 7 (.leaf (.goto 1 [(.int .i64 (0))])) (.rel .i64 7 5 (.leaf (.goto 1 [(.int .i64 (0))])) (.leaf (.goto 2 [(.int .i64 (0))])))) (.leaf (.ret (.bool true))))
def cat0R : Go.Ev.TrX Go.Ev.Leaf := (.leaf (.ret (.bool true)))
def cat0 : Go.Ev.TrX Go.Ev.Leaf := .cut 16 (0) cat0L cat0R
def cac0 : Go.Ev.CutP := ⟨none, (.nd (.nd .lf (some (.sym 2)) .lf) (some (.sym 0)) .lf), .lf, 0, 10, [], caiv0, Aent, cat0⟩
def caiv1 : Go.Ev.Ivs := [(-9223372036854775808, 9223372036854775807), (0, 9223372036854775807), (-9223372036854775808, 9223372036854775807), (0, 9223372036854775807), (-9223372036854775808, 9223372036854775807), (0, 40), (-9223372036854775808, 9223372036854775807), (0, 40), (0, 40), (1, 41), (-9223372036854775808, 9223372036854775807), (-9223372036854775808, 9223372036854775807), (-9223372036854775808, 9223372036854775807), (-9223372036854775808, 9223372036854775807), (-9223372036854775808, 9223372036854775807), (-9223372036854775808, 9223372036854775807), (0, 1000), (0, 1000), (-9223372036854775808, 9223372036854775807), (-9223372036854775808, 9223372036854775807), (0, 1)]
def cat1L : Go.Ev.TrX Go.Ev.Leaf := (.rel .i64 8 7 (.leaf (.goto 1 [(.sint .i64 9)])) (.cut 20 (0) (.leaf (.ret (.bool true))) (.leaf (.ret (.bool false)))))
def cat1R : Go.Ev.TrX Go.Ev.Leaf := (.cut 20 (0) (.leaf (.ret (.bool true))) (.leaf (.ret (.bool false))))
def cat1 : Go.Ev.TrX Go.Ev.Leaf := .rel .i64 8 5 cat1L cat1R
def cac1 : Go.Ev.CutP := ⟨some 0, (.nd (.nd (.nd (.nd (.nd (.nd .lf (some .any) .lf) (some .any) (.nd .lf (some .any) .lf)) (some .any) (.nd (.nd .lf (some .any) .lf) (some .any) (.nd .lf (some .any) .lf))) (some .any) (.nd (.nd (.nd .lf (some .any) .lf) (some .any) (.nd .lf (some .any) .lf)) (some .any) (.nd (.nd .lf (some .any) .lf) (some .any) (.nd .lf (some .any) .lf)))) (some (.sym 6)) (.nd (.nd (.nd (.nd .lf (some .any) .lf) (some .any) (.nd .lf (some .any) .lf)) (some .any) (.nd (.nd .lf (some .any) .lf) (some .any) (.nd .lf (some .any) .lf))) (some (.bool false)) (.nd (.nd (.nd .lf (some .any) .lf) (some .any) (.nd .lf (some .any) .lf)) (some .any) (.nd (.nd .lf (some .any) .lf) (some .any) (.nd .lf (some .any) .lf))))) (some (.sym 4)) (.nd (.nd (.nd (.nd (.nd .lf (some .any) .lf) (some .any) (.nd .lf (some .any) .lf)) (some .any) (.nd (.nd .lf (some .any) .lf) (some .any) (.nd .lf (some .any) .lf))) (some (.bool false)) (.nd (.nd (.nd .lf (some .any) .lf) (some .any) (.nd .lf (some .any) .lf)) (some .any) (.nd (.nd .lf (some .any) .lf) (some .any) (.nd .lf (some .any) .lf)))) (some .any) (.nd (.nd (.nd (.nd .lf (some .any) .lf) (some .any) (.nd .lf (some .any) .lf)) (some .any) (.nd (.nd .lf (some .any) .lf) (some .any) (.nd .lf (some .any) .lf))) (some (.sint .i64 8)) (.nd (.nd (.nd .lf (some .any) .lf) (some .any) (.nd .lf (some .any) .lf)) (some .any) (.nd (.nd .lf (some .any) .lf) (some .any) (.nd .lf (some .any) .lf)))))), .lf, 0, 8, [(.sint .i64 8)], caiv1, Aloop, cat1⟩
def caiv2 : Go.Ev.Ivs := [(-9223372036854775808, 9223372036854775807), (0, 9223372036854775807), (-9223372036854775808, 9223372036854775807), (0, 9223372036854775807), (-9223372036854775808, 9223372036854775807), (0, 40), (-9223372036854775808, 9223372036854775807), (0, 40), (0, 40), (1, 41), (-9223372036854775808, 9223372036854775807), (-9223372036854775808, 9223372036854775807), (-9223372036854775808, 9223372036854775807), (-9223372036854775808, 9223372036854775807), (-9223372036854775808, 9223372036854775807), (-9223372036854775808, 9223372036854775807), (0, 1000), (0, 1000), (-9223372036854775808, 9223372036854775807), (-9223372036854775808, 9223372036854775807), (0, 1)]
def cat2L : Go.Ev.TrX Go.Ev.Leaf := (.rel .i64 8 7 (.rel .i64 10 13 (.leaf (.goto 1 [(.sint .i64 9)])) (.rel .i64 13 10 (.leaf (.goto 1 [(.sint .i64 9)])) (.rel .i64 11 14 (.leaf (.goto 1 [(.sint .i64 9)])) (.rel .i64 14 11 (.leaf (.goto 1 [(.sint .i64 9)])) (.rel .i64 12 15 (.leaf (.goto 1 [(.sint .i64 9)])) (.rel .i64 15 12 (.leaf (.goto 1 [(.sint .i64 9)])) (.leaf (.goto 2 [(.sint .i64 9)])))))))) (.cut 20 (0) (.leaf (.ret (.bool false))) (.leaf (.ret (.bool true)))))
def cat2R : Go.Ev.TrX Go.Ev.Leaf := (.cut 20 (0) (.leaf (.ret (.bool false))) (.leaf (.ret (.bool true))))
def cat2 : Go.Ev.TrX Go.Ev.Leaf := .rel .i64 8 5 cat2L cat2R
def cac2 : Go.Ev.CutP := ⟨some 0, (.nd (.nd (.nd (.nd (.nd (.nd .lf (some .any) .lf) (some .any) (.nd .lf (some .any) .lf)) (some .any) (.nd (.nd .lf (some .any) .lf) (some .any) (.nd .lf (some .any) .lf))) (some .any) (.nd (.nd (.nd .lf (some .any) .lf) (some .any) (.nd .lf (some .any) .lf)) (some .any) (.nd (.nd .lf (some .any) .lf) (some .any) (.nd .lf (some .any) .lf)))) (some (.sym 6)) (.nd (.nd (.nd (.nd .lf (some .any) .lf) (some .any) (.nd .lf (some .any) .lf)) (some .any) (.nd (.nd .lf (some .any) .lf) (some .any) (.nd .lf (some .any) .lf))) (some (.bool true)) (.nd (.nd (.nd .lf (some .any) .lf) (some .any) (.nd .lf (some .any) .lf)) (some .any) (.nd (.nd .lf (some .any) .lf) (some .any) (.nd .lf (some .any) .lf))))) (some (.sym 4)) (.nd (.nd (.nd (.nd (.nd .lf (some .any) .lf) (some .any) (.nd .lf (some .any) .lf)) (some .any) (.nd (.nd .lf (some .any) .lf) (some .any) (.nd .lf (some .any) .lf))) (some (.bool false)) (.nd (.nd (.nd .lf (some .any) .lf) (some .any) (.nd .lf (some .any) .lf)) (some .any) (.nd (.nd .lf (some .any) .lf) (some .any) (.nd .lf (some .any) .lf)))) (some .any) (.nd (.nd (.nd (.nd .lf (some .any) .lf) (some .any) (.nd .lf (some .any) .lf)) (some .any) (.nd (.nd .lf (some .any) .lf) (some .any) (.nd .lf (some .any) .lf))) (some (.sint .i64 8)) (.nd (.nd (.nd .lf (some .any) .lf) (some .any) (.nd .lf (some .any) .lf)) (some .any) (.nd (.nd .lf (some .any) .lf) (some .any) (.nd .lf (some .any) .lf)))))), .lf, 0, 8, [(.sint .i64 8)], caiv2, Aloop, cat2⟩
def caKT : List Go.Ev.KE := [⟨11, [], [], (.bool true)⟩, ⟨9, [(.sym 4), (.int .i64 (2)), (.int .i64 (40))], [], (.sint .i64 16)⟩, ⟨9, [(.sym 6), (.int .i64 (2)), (.int .i64 (40))], [], (.sint .i64 17)⟩, ⟨15, [(.sym 4)], [], (.sym 18)⟩, ⟨15, [(.sym 6)], [], (.sym 19)⟩]
def caC : List Go.Ev.CutP := [cac0, cac1, cac2]
def cabody : Code := match Tryd.f7.body with | some c => c | none => .skip
def calf (c : Go.Ev.CutP) : Go.Ev.Ivs → List Go.Ev.Fact → Go.Ev.Leaf → Bool := Go.Ev.chkLf Tryd.prog (Go.Ev.rcKT Tryd.prog caKT 20000) Tryd.f7.ntmps [0] 1000 Tryd.f7.results.toList cabody caC c
theorem cak0L : Go.Ev.chkX (calf cac0) cat0L (Go.Ev.ivHi caiv0 16 (0)) [] = true := by kernel_rfl
theorem cak0R : Go.Ev.chkX (calf cac0) cat0R (Go.Ev.ivLo caiv0 16 (0 + 1)) [] = true := by kernel_rfl
theorem cak1L : Go.Ev.chkX (calf cac1) cat1L caiv1 (.bin .lss (.sint .i64 8) (.sint .i64 5) (.bool true) :: []) = true := by kernel_rfl
theorem cak1R : Go.Ev.chkX (calf cac1) cat1R caiv1 (.bin .lss (.sint .i64 8) (.sint .i64 5) (.bool false) :: []) = true := by kernel_rfl
theorem cak2L : Go.Ev.chkX (calf cac2) cat2L caiv2 (.bin .lss (.sint .i64 8) (.sint .i64 5) (.bool true) :: []) = true := by kernel_rfl
theorem cak2R : Go.Ev.chkX (calf cac2) cat2R caiv2 (.bin .lss (.sint .i64 8) (.sint .i64 5) (.bool false) :: []) = true := by kernel_rfl
theorem cak0 : Go.Ev.chkX (calf cac0) cat0 caiv0 [] = true := Go.Ev.chkX_cut cak0L cak0R
theorem cak1 : Go.Ev.chkX (calf cac1) cat1 caiv1 [] = true := Go.Ev.chkX_rel cak1L cak1R
theorem cak2 : Go.Ev.chkX (calf cac2) cat2 caiv2 [] = true := Go.Ev.chkX_rel cak2L cak2R
theorem caauto : @Go.Ev.Auto (Go.Ev.extKT Tryd.prog caKT) Tryd.prog (Go.Ev.rcKT Tryd.prog caKT 20000) Tryd.f7 cabody [0] 1000 caC (fun _ => none) := Go.Ev.auto_of noNG mixed (by kernel_rfl) ⟨cak0, cak1, cak2, trivial⟩ ⟨(fun _ _ => rfl), Aloop_blk, Aloop_blk, trivial⟩
end
end Go.Proofs.YtgmdbpmookoafaaDoor.apart
