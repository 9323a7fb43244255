/-
  Effects of a beast, over the small pool: symbols, facts, what the kernel runs (printed in part by a program of ours).
-/
import Derived.Test.YtgbhmkdldfhamaaTxB
namespace Go.Proofs.Ytgbhmkdldfhamaa.order
open Go.Ev Go.RowKit
set_option linter.unusedVariables false
noncomputable section
def cardV (n : VV) (k p t y : Int) (a : VV) : List VV := [n, i8 k, i8 0, i8 0, i8 0, i8 0, i8 0, i8 p, i8 t, i8 y, a]
def abV (who op a b : Int) : List VV := [i8 4, i8 0, i8 who, i8 0, i8 0, i8 0, i8 0, .bool false, .slice none 0 0, .slice none 0 0, i8 op, i8 a, i8 b]
def beV (iv : Ivs) : List VV := [si 120, sv iv .i64 121, .sym 122, si 123, .sym 124, .sym 125, .sym 126, .sym 127, .sym 128, si 129, .sym 130, .sym 131, .sym 132, match decide ((ivAt iv 134).1 = 1), decide ((ivAt iv 134).2 = 0) with | true, _ => .slice (some ⟨.sym 8, 0⟩) 1 1 | false, true => .slice none 0 0 | false, false => .sym 133]
def acV (iv : Ivs) : List VV := [si 160, sv iv .i64 161, .sym 162, si 163, .sym 164, .sym 165, .sym 166, .sym 167, .sym 168, si 169, .sym 170, .sym 171, .sym 172, .sym 173]
def efF : List Fact := [.len false (.sym 46) (si 2), .len false (.sym 41) (si 14), .len false (.sym 90) (si 91), .at 11 (.sym 90) (i8 0) ⟨.sym 92, 0⟩, .at 11 (.sym 90) (i8 1) ⟨.sym 93, 0⟩, .at 11 (.sym 90) (i8 2) ⟨.sym 94, 0⟩, .at 11 (.sym 90) (i8 3) ⟨.sym 95, 0⟩, .len false (.sym 97) (si 101), .len false (.sym 98) (si 102), .len false (.sym 99) (si 103), .at 13 (.sym 97) (i8 0) ⟨.sym 104, 0⟩, .at 13 (.sym 98) (i8 0) ⟨.sym 105, 0⟩, .at 13 (.sym 99) (i8 0) ⟨.sym 106, 0⟩, .at 13 (.sym 99) (i8 1) ⟨.sym 107, 0⟩, .at 14 (.sym 41) (si 13) ⟨.sym 7, 0⟩]
def efEl : List Fact := [.at 1 (.sym 46) (si 150) ⟨.sym 157, 0⟩, .bin .add (si 150) (.int .i64 1) (si 149)]
def efAc : List Fact := [.at 14 (.sym 41) (si 152) ⟨.sym 151, 0⟩]
def efB (iv : Ivs) (l a : Bool) (i : Nat) : Option (List VV) := match i with
  | 157 => match l with | true => some [si 155] | false => none
  | 151 => match a with | true => some (acV iv) | false => none
  | 7 => some (beV iv)
  | 8 => some [si 135, si 136, si 137, si 138]
  | 92 => some (cardV (.string ⟨#[98, 101, 97, 114]⟩) 2 2 2 0 (.slice none 0 0))
  | 93 => some (cardV (.string ⟨#[108, 111, 114, 100]⟩) 2 2 2 0 (.sym 97))
  | 94 => some (cardV (.string ⟨#[115, 104, 114, 105, 110, 107, 101, 114]⟩) 4 0 0 0 (.sym 98))
  | 95 => some (cardV (.string ⟨#[107, 105, 116, 101]⟩) 2 1 1 4 (.sym 99))
  | 104 => some (abV 3 4 1 1)
  | 105 => some (abV 2 3 0 1)
  | 106 => some (abV 0 1 1 0)
  | 107 => some (abV 1 2 4 0)
  | _ => none
def Eef (iv : Ivs) (fs : List Fact) : Env := match hasLss fs 150 2, decide (0 ≤ (ivAt iv 152).1) with
  | true, true => ⟨fun _ => none, ivAt iv, fs ++ (efF ++ efEl ++ efAc), efB iv true true⟩
  | true, false => ⟨fun _ => none, ivAt iv, fs ++ (efF ++ efEl), efB iv true false⟩
  | false, _ => ⟨fun _ => none, ivAt iv, fs ++ efF, efB iv false false⟩
def efT : List VV := [si 135, si 136, si 137, si 138]
theorem Eef_blk (iv : Ivs) (fs : List Fact) : (Eef iv fs).blk = fun _ => none := by
  unfold Eef
  split <;> rfl
def efiv0 : Go.Ev.Ivs := [bI, bI, (0, 1000000), bI, bI, bI, bI, bI, bI, bI, bI, bI, bI, (0, 1000000), (0, 1000000), bI, bI, bI, bI, bI, bI, bI, bI, bI, bI, bI, bI, bI, bI, bI, bI, bI, bI, bI, bI, bI, bI, bI, bI, bI, bI, bI, bI, bI, bI, bI, bI, bI, bI, bI, bI, bI, bI, bI, bI, bI, bI, bI, bI, bI, bI, bI, bI, bI, bI, bI, bI, bI, bI, bI, bI, bI, bI, bI, bI, bI, bI, bI, bI, bI, bI, bI, bI, bI, bI, bI, bI, bI, bI, bI, bI, (4, 4), bI, bI, bI, bI, bI, bI, bI, bI, bI, (1, 1), (1, 1), (2, 2), bI, bI, bI, bI, bI, bI, bI, bI, bI, bI, bI, bI, bI, bI, bI, bI, bI, (0, 3), bI, bI, bI, bI, bI, bI, bI, bI, bI, bI, bI, bI, (0, 1), (1, 4), bI, bI, bI, bI, bI, bI, bI, bI, bI, bI, bI, bI, bI, bI, (0, 1000000), bI, (-1, 1000000), bI, bI, bI, (1, 19), bI, (1, 19), bI, bI, bI, bI, bI, bI, bI, bI, bI, bI, bI, bI, bI, bI, bI, bI, bI, bI, bI, bI, bI]
def eft0 : Go.Ev.TrX Go.Ev.Leaf := (.cut 134 (0) (.cut 121 (0) (.leaf (.goto 1 [(.int .i64 (0)), (.int .i64 (0))])) (.cut 121 (1) (.leaf (.goto 1 [(.int .i64 (1)), (.int .i64 (0))])) (.cut 121 (2) (.leaf (.goto 2 [])) (.leaf (.goto 1 [(.int .i64 (3)), (.int .i64 (0))]))))) (.cut 121 (0) (.leaf (.goto 3 [(.int .i64 (0)), (.int .i64 (0))])) (.cut 121 (1) (.leaf (.goto 3 [(.int .i64 (1)), (.int .i64 (0))])) (.cut 121 (2) (.leaf (.goto 2 [])) (.leaf (.goto 3 [(.int .i64 (3)), (.int .i64 (0))]))))))
def efc0 : Go.Ev.CutP := ⟨none, (.nd (.nd .lf (some (.agg [(.sym 60), (.sym 41), (.sym 62), (.sym 63), (.sym 64), (.sym 65), (.sym 46), (.sym 67), (.sym 68), (.sym 69), (.sym 70), (.sym 71), (.sym 72), (.sym 73), (.sym 74), (.sym 75), (.sym 76), (.sym 77), (.sym 78), (.sym 79), (.sym 80), (.sym 81), (.sym 82), (.sym 83), (.sym 84)])) .lf) (some (.sym 90)) (.nd .lf (some (.sint .i64 3)) .lf)), .lf, 0, 0, [], efiv0, Eef, eft0⟩
def efiv1 : Go.Ev.Ivs := [bI, bI, (0, 1000000), bI, bI, bI, bI, bI, bI, bI, bI, bI, bI, (0, 1000000), (0, 1000000), bI, bI, bI, bI, bI, bI, bI, bI, bI, bI, bI, bI, bI, bI, bI, bI, bI, bI, bI, bI, bI, bI, bI, bI, bI, bI, bI, bI, bI, bI, bI, bI, bI, bI, bI, bI, bI, bI, bI, bI, bI, bI, bI, bI, bI, bI, bI, bI, bI, bI, bI, bI, bI, bI, bI, bI, bI, bI, bI, bI, bI, bI, bI, bI, bI, bI, bI, bI, bI, bI, bI, bI, bI, bI, bI, bI, (4, 4), bI, bI, bI, bI, bI, bI, bI, bI, bI, (1, 1), (1, 1), (2, 2), bI, bI, bI, bI, bI, bI, bI, bI, bI, bI, bI, bI, bI, bI, bI, bI, bI, (0, 3), bI, bI, bI, bI, bI, bI, bI, bI, bI, bI, bI, bI, (0, 1), (1, 4), bI, bI, bI, bI, bI, bI, bI, bI, bI, bI, bI, bI, bI, bI, (0, 1000000), bI, (-1, 1000000), bI, bI, bI, (1, 19), bI, (1, 19), bI, bI, bI, bI, bI, bI, bI, bI, bI, bI, bI, bI, bI, bI, bI, bI, bI, bI, bI, bI, bI]
def eft1 : Go.Ev.TrX Go.Ev.Leaf := (.rel .i64 150 2 (.cut 152 (-1) (.leaf (.goto 1 [(.sint .i64 175), (.sint .i64 149)])) (.cut 161 (-1) (.leaf (.goto 1 [(.sint .i64 175), (.sint .i64 149)])) (.cut 161 (3) (.cut 161 (0) (.leaf (.goto 1 [(.sint .i64 175), (.sint .i64 149)])) (.cut 161 (1) (.rel .i64 160 120 (.rel .i64 163 123 (.leaf (.goto 1 [(.sint .i64 175), (.sint .i64 149)])) (.rel .i64 123 163 (.leaf (.goto 1 [(.sint .i64 175), (.sint .i64 149)])) (.leaf (.goto 4 [(.tuple [(.int .i64 (1))]), (.agg [.nilIface, (.int .i64 (4)), (.int .i64 (1)), (.int .i64 (1)), (.sint .i64 169)]), (.sint .i64 175), (.sint .i64 149)])))) (.rel .i64 120 160 (.rel .i64 163 123 (.leaf (.goto 1 [(.sint .i64 175), (.sint .i64 149)])) (.rel .i64 123 163 (.leaf (.goto 1 [(.sint .i64 175), (.sint .i64 149)])) (.leaf (.goto 4 [(.tuple [(.int .i64 (1))]), (.agg [.nilIface, (.int .i64 (4)), (.int .i64 (1)), (.int .i64 (1)), (.sint .i64 169)]), (.sint .i64 175), (.sint .i64 149)])))) (.rel .i64 163 123 (.leaf (.goto 1 [(.sint .i64 175), (.sint .i64 149)])) (.rel .i64 123 163 (.leaf (.goto 1 [(.sint .i64 175), (.sint .i64 149)])) (.leaf (.goto 1 [(.sint .i64 175), (.sint .i64 149)])))))) (.cut 161 (2) (.rel .i64 160 120 (.leaf (.goto 4 [(.tuple [(.int .i64 (1))]), (.agg [.nilIface, (.int .i64 (3)), (.int .i64 (0)), (.int .i64 (1)), (.sint .i64 169)]), (.sint .i64 175), (.sint .i64 149)])) (.rel .i64 120 160 (.leaf (.goto 4 [(.tuple [(.int .i64 (1))]), (.agg [.nilIface, (.int .i64 (3)), (.int .i64 (0)), (.int .i64 (1)), (.sint .i64 169)]), (.sint .i64 175), (.sint .i64 149)])) (.leaf (.goto 4 [(.tuple [(.int .i64 (1))]), (.agg [.nilIface, (.int .i64 (3)), (.int .i64 (0)), (.int .i64 (1)), (.sint .i64 169)]), (.sint .i64 175), (.sint .i64 149)])))) (.rel .i64 160 120 (.rel .i64 163 123 (.leaf (.goto 1 [(.sint .i64 175), (.sint .i64 149)])) (.rel .i64 123 163 (.leaf (.goto 1 [(.sint .i64 175), (.sint .i64 149)])) (.leaf (.goto 4 [(.tuple [(.int .i64 (1))]), (.agg [.nilIface, (.int .i64 (2)), (.int .i64 (4)), (.int .i64 (0)), (.sint .i64 169)]), (.sint .i64 175), (.sint .i64 149)])))) (.rel .i64 120 160 (.rel .i64 163 123 (.leaf (.goto 1 [(.sint .i64 175), (.sint .i64 149)])) (.rel .i64 123 163 (.leaf (.goto 1 [(.sint .i64 175), (.sint .i64 149)])) (.leaf (.goto 4 [(.tuple [(.int .i64 (1))]), (.agg [.nilIface, (.int .i64 (2)), (.int .i64 (4)), (.int .i64 (0)), (.sint .i64 169)]), (.sint .i64 175), (.sint .i64 149)])))) (.rel .i64 163 123 (.leaf (.goto 4 [(.tuple [(.int .i64 (1))]), (.agg [.nilIface, (.int .i64 (1)), (.int .i64 (1)), (.int .i64 (0)), (.sint .i64 169)]), (.sint .i64 175), (.sint .i64 149)])) (.rel .i64 123 163 (.leaf (.goto 4 [(.tuple [(.int .i64 (1))]), (.agg [.nilIface, (.int .i64 (1)), (.int .i64 (1)), (.int .i64 (0)), (.sint .i64 169)]), (.sint .i64 175), (.sint .i64 149)])) (.leaf (.goto 4 [(.tuple [(.int .i64 (2))]), (.agg [.nilIface, (.int .i64 (1)), (.int .i64 (1)), (.int .i64 (0)), (.sint .i64 169), (.int .i64 (2)), (.int .i64 (4)), (.int .i64 (0)), (.sint .i64 169)]), (.sint .i64 175), (.sint .i64 149)]))))))))) (.leaf (.goto 1 [(.sint .i64 175), (.sint .i64 149)]))))) (.leaf (.goto 2 [])))
def efc1 : Go.Ev.CutP := ⟨some 0, (.nd (.nd (.nd (.nd (.nd (.nd .lf (some .any) .lf) (some .any) (.nd .lf (some .any) .lf)) (some (.ptr (some ⟨(.loc 1), 0⟩))) (.nd (.nd .lf (some .any) .lf) (some .any) (.nd .lf (some .any) .lf))) (some .any) (.nd (.nd (.nd .lf (some .any) .lf) (some .any) (.nd .lf (some .any) .lf)) (some (.func (.func 24) [] [(.ptr (some ⟨(.loc 3), 0⟩)), (.ptr (some ⟨(.loc 1), 0⟩)), (.ptr (some ⟨(.loc 2), 0⟩))])) (.nd (.nd .lf (some .any) .lf) (some (.sym 46)) .lf))) (some .any) (.nd (.nd (.nd (.nd .lf (some .any) .lf) (some .any) (.nd .lf (some .any) .lf)) (some .any) (.nd (.nd .lf (some .any) .lf) (some .any) .lf)) (some .any) (.nd (.nd (.nd .lf (some .any) .lf) (some .any) (.nd .lf (some .any) .lf)) (some .any) (.nd (.nd .lf (some .any) .lf) (some (.sint .i64 150)) .lf)))) (some .any) (.nd (.nd (.nd (.nd (.nd .lf (some .any) .lf) (some .any) (.nd .lf (some .any) .lf)) (some .any) (.nd (.nd .lf (some .any) .lf) (some .any) (.nd .lf (some .any) .lf))) (some (.ptr (some ⟨(.loc 0), 0⟩))) (.nd (.nd (.nd .lf (some .any) .lf) (some .any) (.nd .lf (some .any) .lf)) (some .any) (.nd (.nd .lf (some .any) .lf) (some (.sint .i64 2)) .lf))) (some .any) (.nd (.nd (.nd (.nd .lf (some .any) .lf) (some .any) (.nd .lf (some .any) .lf)) (some (.ptr (some ⟨(.loc 2), 0⟩))) (.nd (.nd .lf (some .any) .lf) (some .any) .lf)) (some (.slice none 0 0)) (.nd (.nd (.nd .lf (some .any) .lf) (some .any) (.nd .lf (some .any) .lf)) (some .any) (.nd (.nd .lf (some .any) .lf) (some .any) .lf))))), (.nd (.nd (.nd .lf (some (.cells [(.sym 90)] none 0 none)) .lf) (some (.cells [(.sint .i64 120), (.sint .i64 175), (.sym 122), (.sint .i64 123), (.sym 124), (.sym 125), (.sym 126), (.sym 127), (.sym 128), (.sint .i64 129), (.sym 130), (.sym 131), (.sym 132), (.slice none 0 0)] none 0 (some 56))) .lf) (some (.cells [(.sym 60), (.sym 41), (.sym 62), (.sym 63), (.sym 64), (.sym 65), (.sym 46), (.sym 67), (.sym 68), (.sym 69), (.sym 70), (.sym 71), (.sym 72), (.sym 73), (.sym 74), (.sym 75), (.sym 76), (.sym 77), (.sym 78), (.sym 79), (.sym 80), (.sym 81), (.sym 82), (.sym 83), (.sym 84)] none 0 none)) (.nd .lf (some (.cells [(.slice none 0 0)] none 0 (some 71))) .lf)), 4, 140, [(.sint .i64 175), (.sint .i64 150)], efiv1, Eef, eft1⟩
def efiv2 : Go.Ev.Ivs := []
def eft2 : Go.Ev.TrX Go.Ev.Leaf := (.leaf (.ret .any))
def efc2 : Go.Ev.CutP := ⟨none, (.nd .lf (some (.slice none 0 0)) .lf), .lf, 0, 0, [], efiv2, Emt, eft2⟩
def efiv3 : Go.Ev.Ivs := [bI, bI, (0, 1000000), bI, bI, bI, bI, bI, bI, bI, bI, bI, bI, (0, 1000000), (0, 1000000), bI, bI, bI, bI, bI, bI, bI, bI, bI, bI, bI, bI, bI, bI, bI, bI, bI, bI, bI, bI, bI, bI, bI, bI, bI, bI, bI, bI, bI, bI, bI, bI, bI, bI, bI, bI, bI, bI, bI, bI, bI, bI, bI, bI, bI, bI, bI, bI, bI, bI, bI, bI, bI, bI, bI, bI, bI, bI, bI, bI, bI, bI, bI, bI, bI, bI, bI, bI, bI, bI, bI, bI, bI, bI, bI, bI, (4, 4), bI, bI, bI, bI, bI, bI, bI, bI, bI, (1, 1), (1, 1), (2, 2), bI, bI, bI, bI, bI, bI, bI, bI, bI, bI, bI, bI, bI, bI, bI, bI, bI, (0, 3), bI, bI, bI, bI, bI, bI, bI, bI, bI, bI, bI, bI, (0, 1), (1, 4), bI, bI, bI, bI, bI, bI, bI, bI, bI, bI, bI, bI, bI, bI, (0, 1000000), bI, (-1, 1000000), bI, bI, bI, (1, 19), bI, (1, 19), bI, bI, bI, bI, bI, bI, bI, bI, bI, bI, bI, bI, bI, bI, bI, bI, bI, bI, bI, bI, bI]
def eft3 : Go.Ev.TrX Go.Ev.Leaf := (.rel .i64 150 2 (.cut 152 (-1) (.leaf (.goto 3 [(.sint .i64 175), (.sint .i64 149)])) (.cut 161 (-1) (.leaf (.goto 3 [(.sint .i64 175), (.sint .i64 149)])) (.cut 161 (3) (.cut 161 (0) (.leaf (.goto 3 [(.sint .i64 175), (.sint .i64 149)])) (.cut 161 (1) (.rel .i64 160 120 (.rel .i64 163 123 (.leaf (.goto 3 [(.sint .i64 175), (.sint .i64 149)])) (.rel .i64 123 163 (.leaf (.goto 3 [(.sint .i64 175), (.sint .i64 149)])) (.leaf (.goto 5 [(.tuple [(.int .i64 (1))]), (.agg [.nilIface, (.int .i64 (4)), (.int .i64 (1)), (.int .i64 (1)), (.sint .i64 169)]), (.sint .i64 175), (.sint .i64 149)])))) (.rel .i64 120 160 (.rel .i64 163 123 (.leaf (.goto 3 [(.sint .i64 175), (.sint .i64 149)])) (.rel .i64 123 163 (.leaf (.goto 3 [(.sint .i64 175), (.sint .i64 149)])) (.leaf (.goto 5 [(.tuple [(.int .i64 (1))]), (.agg [.nilIface, (.int .i64 (4)), (.int .i64 (1)), (.int .i64 (1)), (.sint .i64 169)]), (.sint .i64 175), (.sint .i64 149)])))) (.rel .i64 163 123 (.leaf (.goto 3 [(.sint .i64 175), (.sint .i64 149)])) (.rel .i64 123 163 (.leaf (.goto 3 [(.sint .i64 175), (.sint .i64 149)])) (.leaf (.goto 3 [(.sint .i64 175), (.sint .i64 149)])))))) (.cut 161 (2) (.rel .i64 160 120 (.leaf (.goto 5 [(.tuple [(.int .i64 (1))]), (.agg [.nilIface, (.int .i64 (3)), (.int .i64 (0)), (.int .i64 (1)), (.sint .i64 169)]), (.sint .i64 175), (.sint .i64 149)])) (.rel .i64 120 160 (.leaf (.goto 5 [(.tuple [(.int .i64 (1))]), (.agg [.nilIface, (.int .i64 (3)), (.int .i64 (0)), (.int .i64 (1)), (.sint .i64 169)]), (.sint .i64 175), (.sint .i64 149)])) (.leaf (.goto 5 [(.tuple [(.int .i64 (1))]), (.agg [.nilIface, (.int .i64 (3)), (.int .i64 (0)), (.int .i64 (1)), (.sint .i64 169)]), (.sint .i64 175), (.sint .i64 149)])))) (.rel .i64 160 120 (.rel .i64 163 123 (.leaf (.goto 3 [(.sint .i64 175), (.sint .i64 149)])) (.rel .i64 123 163 (.leaf (.goto 3 [(.sint .i64 175), (.sint .i64 149)])) (.leaf (.goto 5 [(.tuple [(.int .i64 (1))]), (.agg [.nilIface, (.int .i64 (2)), (.int .i64 (4)), (.int .i64 (0)), (.sint .i64 169)]), (.sint .i64 175), (.sint .i64 149)])))) (.rel .i64 120 160 (.rel .i64 163 123 (.leaf (.goto 3 [(.sint .i64 175), (.sint .i64 149)])) (.rel .i64 123 163 (.leaf (.goto 3 [(.sint .i64 175), (.sint .i64 149)])) (.leaf (.goto 5 [(.tuple [(.int .i64 (1))]), (.agg [.nilIface, (.int .i64 (2)), (.int .i64 (4)), (.int .i64 (0)), (.sint .i64 169)]), (.sint .i64 175), (.sint .i64 149)])))) (.rel .i64 163 123 (.leaf (.goto 5 [(.tuple [(.int .i64 (1))]), (.agg [.nilIface, (.int .i64 (1)), (.int .i64 (1)), (.int .i64 (0)), (.sint .i64 169)]), (.sint .i64 175), (.sint .i64 149)])) (.rel .i64 123 163 (.leaf (.goto 5 [(.tuple [(.int .i64 (1))]), (.agg [.nilIface, (.int .i64 (1)), (.int .i64 (1)), (.int .i64 (0)), (.sint .i64 169)]), (.sint .i64 175), (.sint .i64 149)])) (.leaf (.goto 5 [(.tuple [(.int .i64 (2))]), (.agg [.nilIface, (.int .i64 (1)), (.int .i64 (1)), (.int .i64 (0)), (.sint .i64 169), (.int .i64 (2)), (.int .i64 (4)), (.int .i64 (0)), (.sint .i64 169)]), (.sint .i64 175), (.sint .i64 149)]))))))))) (.leaf (.goto 3 [(.sint .i64 175), (.sint .i64 149)]))))) (.cut 135 (1) (.leaf (.goto 6 [(.sint .i64 138), (.sint .i64 137), (.sint .i64 136), (.sint .i64 135)])) (.cut 135 (2) (.leaf (.goto 6 [(.sint .i64 138), (.sint .i64 137), (.sint .i64 136), (.sint .i64 135)])) (.cut 135 (3) (.leaf (.goto 6 [(.sint .i64 138), (.sint .i64 137), (.sint .i64 136), (.sint .i64 135)])) (.leaf (.goto 6 [(.sint .i64 138), (.sint .i64 137), (.sint .i64 136), (.sint .i64 135)]))))))
def efc3 : Go.Ev.CutP := ⟨some 0, (.nd (.nd (.nd (.nd (.nd (.nd .lf (some .any) .lf) (some .any) (.nd .lf (some .any) .lf)) (some (.ptr (some ⟨(.loc 1), 0⟩))) (.nd (.nd .lf (some .any) .lf) (some .any) (.nd .lf (some .any) .lf))) (some .any) (.nd (.nd (.nd .lf (some .any) .lf) (some .any) (.nd .lf (some .any) .lf)) (some (.func (.func 24) [] [(.ptr (some ⟨(.loc 3), 0⟩)), (.ptr (some ⟨(.loc 1), 0⟩)), (.ptr (some ⟨(.loc 2), 0⟩))])) (.nd (.nd .lf (some .any) .lf) (some (.sym 46)) .lf))) (some .any) (.nd (.nd (.nd (.nd .lf (some .any) .lf) (some .any) (.nd .lf (some .any) .lf)) (some .any) (.nd (.nd .lf (some .any) .lf) (some .any) .lf)) (some .any) (.nd (.nd (.nd .lf (some .any) .lf) (some .any) (.nd .lf (some .any) .lf)) (some .any) (.nd (.nd .lf (some .any) .lf) (some (.sint .i64 150)) .lf)))) (some .any) (.nd (.nd (.nd (.nd (.nd .lf (some .any) .lf) (some .any) (.nd .lf (some .any) .lf)) (some .any) (.nd (.nd .lf (some .any) .lf) (some .any) (.nd .lf (some .any) .lf))) (some (.ptr (some ⟨(.loc 0), 0⟩))) (.nd (.nd (.nd .lf (some .any) .lf) (some .any) (.nd .lf (some .any) .lf)) (some .any) (.nd (.nd .lf (some .any) .lf) (some (.sint .i64 2)) .lf))) (some .any) (.nd (.nd (.nd (.nd .lf (some .any) .lf) (some .any) (.nd .lf (some .any) .lf)) (some (.ptr (some ⟨(.loc 2), 0⟩))) (.nd (.nd .lf (some .any) .lf) (some .any) .lf)) (some (.slice none 0 0)) (.nd (.nd (.nd .lf (some .any) .lf) (some .any) (.nd .lf (some .any) .lf)) (some .any) (.nd (.nd .lf (some .any) .lf) (some .any) .lf))))), (.nd (.nd (.nd .lf (some (.cells [(.sym 90)] none 0 none)) .lf) (some (.cells [(.sint .i64 120), (.sint .i64 175), (.sym 122), (.sint .i64 123), (.sym 124), (.sym 125), (.sym 126), (.sym 127), (.sym 128), (.sint .i64 129), (.sym 130), (.sym 131), (.sym 132), (.slice (some ⟨(.sym 8), 0⟩) 1 1)] none 0 (some 56))) .lf) (some (.cells [(.sym 60), (.sym 41), (.sym 62), (.sym 63), (.sym 64), (.sym 65), (.sym 46), (.sym 67), (.sym 68), (.sym 69), (.sym 70), (.sym 71), (.sym 72), (.sym 73), (.sym 74), (.sym 75), (.sym 76), (.sym 77), (.sym 78), (.sym 79), (.sym 80), (.sym 81), (.sym 82), (.sym 83), (.sym 84)] none 0 none)) (.nd .lf (some (.cells [(.slice none 0 0)] none 0 (some 71))) .lf)), 4, 140, [(.sint .i64 175), (.sint .i64 150)], efiv3, Eef, eft3⟩
def efiv4 : Go.Ev.Ivs := [bI, bI, (0, 1000000), bI, bI, bI, bI, bI, bI, bI, bI, bI, bI, (0, 1000000), (0, 1000000), bI, bI, bI, bI, bI, bI, bI, bI, bI, bI, bI, bI, bI, bI, bI, bI, bI, bI, bI, bI, bI, bI, bI, bI, bI, bI, bI, bI, bI, bI, bI, bI, bI, bI, bI, bI, bI, bI, bI, bI, bI, bI, bI, bI, bI, bI, bI, bI, bI, bI, bI, bI, bI, bI, bI, bI, bI, bI, bI, bI, bI, bI, bI, bI, bI, bI, bI, bI, bI, bI, bI, bI, bI, bI, bI, bI, (4, 4), bI, bI, bI, bI, bI, bI, bI, bI, bI, (1, 1), (1, 1), (2, 2), bI, bI, bI, bI, bI, bI, bI, bI, bI, bI, bI, bI, bI, bI, bI, bI, bI, (0, 3), bI, bI, bI, bI, bI, bI, bI, bI, bI, bI, bI, bI, (0, 1), (1, 4), bI, bI, bI, bI, bI, bI, bI, bI, bI, bI, bI, bI, bI, bI, (0, 1000000), bI, (-1, 1000000), bI, bI, bI, (1, 19), bI, (1, 19), bI, bI, bI, bI, bI, bI, bI, bI, bI, bI, bI, bI, bI, bI, bI, bI, bI, bI, bI, bI, bI]
def eft4 : Go.Ev.TrX Go.Ev.Leaf := (.rel .i64 150 2 (.cut 152 (-1) (.leaf (.goto 4 [(.tuple [(.sint .i64 156), (.int .i64 (0))]), (.agg [(.sym 141)]), (.sint .i64 175), (.sint .i64 149)])) (.cut 161 (-1) (.leaf (.goto 4 [(.tuple [(.sint .i64 156), (.int .i64 (0))]), (.agg [(.sym 141)]), (.sint .i64 175), (.sint .i64 149)])) (.cut 161 (3) (.cut 161 (0) (.leaf (.goto 4 [(.tuple [(.sint .i64 156), (.int .i64 (0))]), (.agg [(.sym 141)]), (.sint .i64 175), (.sint .i64 149)])) (.cut 161 (1) (.rel .i64 160 120 (.rel .i64 163 123 (.leaf (.goto 4 [(.tuple [(.sint .i64 156), (.int .i64 (0))]), (.agg [(.sym 141)]), (.sint .i64 175), (.sint .i64 149)])) (.rel .i64 123 163 (.leaf (.goto 4 [(.tuple [(.sint .i64 156), (.int .i64 (0))]), (.agg [(.sym 141)]), (.sint .i64 175), (.sint .i64 149)])) (.leaf (.goto 4 [(.tuple [(.sint .i64 156), (.int .i64 (1))]), (.agg [(.sym 141), (.int .i64 (4)), (.int .i64 (1)), (.int .i64 (1)), (.sint .i64 169)]), (.sint .i64 175), (.sint .i64 149)])))) (.rel .i64 120 160 (.rel .i64 163 123 (.leaf (.goto 4 [(.tuple [(.sint .i64 156), (.int .i64 (0))]), (.agg [(.sym 141)]), (.sint .i64 175), (.sint .i64 149)])) (.rel .i64 123 163 (.leaf (.goto 4 [(.tuple [(.sint .i64 156), (.int .i64 (0))]), (.agg [(.sym 141)]), (.sint .i64 175), (.sint .i64 149)])) (.leaf (.goto 4 [(.tuple [(.sint .i64 156), (.int .i64 (1))]), (.agg [(.sym 141), (.int .i64 (4)), (.int .i64 (1)), (.int .i64 (1)), (.sint .i64 169)]), (.sint .i64 175), (.sint .i64 149)])))) (.rel .i64 163 123 (.leaf (.goto 4 [(.tuple [(.sint .i64 156), (.int .i64 (0))]), (.agg [(.sym 141)]), (.sint .i64 175), (.sint .i64 149)])) (.rel .i64 123 163 (.leaf (.goto 4 [(.tuple [(.sint .i64 156), (.int .i64 (0))]), (.agg [(.sym 141)]), (.sint .i64 175), (.sint .i64 149)])) (.leaf (.goto 4 [(.tuple [(.sint .i64 156), (.int .i64 (0))]), (.agg [(.sym 141)]), (.sint .i64 175), (.sint .i64 149)])))))) (.cut 161 (2) (.rel .i64 160 120 (.leaf (.goto 4 [(.tuple [(.sint .i64 156), (.int .i64 (1))]), (.agg [(.sym 141), (.int .i64 (3)), (.int .i64 (0)), (.int .i64 (1)), (.sint .i64 169)]), (.sint .i64 175), (.sint .i64 149)])) (.rel .i64 120 160 (.leaf (.goto 4 [(.tuple [(.sint .i64 156), (.int .i64 (1))]), (.agg [(.sym 141), (.int .i64 (3)), (.int .i64 (0)), (.int .i64 (1)), (.sint .i64 169)]), (.sint .i64 175), (.sint .i64 149)])) (.leaf (.goto 4 [(.tuple [(.sint .i64 156), (.int .i64 (1))]), (.agg [(.sym 141), (.int .i64 (3)), (.int .i64 (0)), (.int .i64 (1)), (.sint .i64 169)]), (.sint .i64 175), (.sint .i64 149)])))) (.rel .i64 160 120 (.rel .i64 163 123 (.leaf (.goto 4 [(.tuple [(.sint .i64 156), (.int .i64 (0))]), (.agg [(.sym 141)]), (.sint .i64 175), (.sint .i64 149)])) (.rel .i64 123 163 (.leaf (.goto 4 [(.tuple [(.sint .i64 156), (.int .i64 (0))]), (.agg [(.sym 141)]), (.sint .i64 175), (.sint .i64 149)])) (.leaf (.goto 4 [(.tuple [(.sint .i64 156), (.int .i64 (1))]), (.agg [(.sym 141), (.int .i64 (2)), (.int .i64 (4)), (.int .i64 (0)), (.sint .i64 169)]), (.sint .i64 175), (.sint .i64 149)])))) (.rel .i64 120 160 (.rel .i64 163 123 (.leaf (.goto 4 [(.tuple [(.sint .i64 156), (.int .i64 (0))]), (.agg [(.sym 141)]), (.sint .i64 175), (.sint .i64 149)])) (.rel .i64 123 163 (.leaf (.goto 4 [(.tuple [(.sint .i64 156), (.int .i64 (0))]), (.agg [(.sym 141)]), (.sint .i64 175), (.sint .i64 149)])) (.leaf (.goto 4 [(.tuple [(.sint .i64 156), (.int .i64 (1))]), (.agg [(.sym 141), (.int .i64 (2)), (.int .i64 (4)), (.int .i64 (0)), (.sint .i64 169)]), (.sint .i64 175), (.sint .i64 149)])))) (.rel .i64 163 123 (.leaf (.goto 4 [(.tuple [(.sint .i64 156), (.int .i64 (1))]), (.agg [(.sym 141), (.int .i64 (1)), (.int .i64 (1)), (.int .i64 (0)), (.sint .i64 169)]), (.sint .i64 175), (.sint .i64 149)])) (.rel .i64 123 163 (.leaf (.goto 4 [(.tuple [(.sint .i64 156), (.int .i64 (1))]), (.agg [(.sym 141), (.int .i64 (1)), (.int .i64 (1)), (.int .i64 (0)), (.sint .i64 169)]), (.sint .i64 175), (.sint .i64 149)])) (.leaf (.goto 4 [(.tuple [(.sint .i64 156), (.int .i64 (2))]), (.agg [(.sym 141), (.int .i64 (1)), (.int .i64 (1)), (.int .i64 (0)), (.sint .i64 169), (.int .i64 (2)), (.int .i64 (4)), (.int .i64 (0)), (.sint .i64 169)]), (.sint .i64 175), (.sint .i64 149)]))))))))) (.leaf (.goto 4 [(.tuple [(.sint .i64 156), (.int .i64 (0))]), (.agg [(.sym 141)]), (.sint .i64 175), (.sint .i64 149)]))))) (.leaf (.goto 7 [(.agg [(.sym 146)]), (.tuple [(.sint .i64 156), (.int .i64 (0))])])))
def efc4 : Go.Ev.CutP := ⟨some 0, (.nd (.nd (.nd (.nd (.nd (.nd .lf (some .any) .lf) (some .any) (.nd .lf (some .any) .lf)) (some (.ptr (some ⟨(.loc 1), 0⟩))) (.nd (.nd .lf (some .any) .lf) (some .any) (.nd .lf (some .any) .lf))) (some .any) (.nd (.nd (.nd .lf (some .any) .lf) (some .any) (.nd .lf (some .any) .lf)) (some (.func (.func 24) [] [(.ptr (some ⟨(.loc 4), 0⟩)), (.ptr (some ⟨(.loc 1), 0⟩)), (.ptr (some ⟨(.loc 2), 0⟩))])) (.nd (.nd .lf (some .any) .lf) (some (.sym 46)) .lf))) (some .any) (.nd (.nd (.nd (.nd .lf (some .any) .lf) (some .any) (.nd .lf (some .any) .lf)) (some .any) (.nd (.nd .lf (some .any) .lf) (some .any) .lf)) (some .any) (.nd (.nd (.nd .lf (some .any) .lf) (some .any) (.nd .lf (some .any) .lf)) (some .any) (.nd (.nd .lf (some .any) .lf) (some (.sint .i64 150)) .lf)))) (some .any) (.nd (.nd (.nd (.nd (.nd .lf (some .any) .lf) (some .any) (.nd .lf (some .any) .lf)) (some .any) (.nd (.nd .lf (some .any) .lf) (some .any) (.nd .lf (some .any) .lf))) (some (.ptr (some ⟨(.loc 0), 0⟩))) (.nd (.nd (.nd .lf (some .any) .lf) (some .any) (.nd .lf (some .any) .lf)) (some .any) (.nd (.nd .lf (some .any) .lf) (some (.sint .i64 2)) .lf))) (some .any) (.nd (.nd (.nd (.nd .lf (some .any) .lf) (some .any) (.nd .lf (some .any) .lf)) (some (.ptr (some ⟨(.loc 2), 0⟩))) (.nd (.nd .lf (some .any) .lf) (some .any) .lf)) (some (.slice none 0 0)) (.nd (.nd (.nd .lf (some .any) .lf) (some .any) (.nd .lf (some .any) .lf)) (some .any) (.nd (.nd .lf (some .any) .lf) (some .any) .lf))))), (.nd (.nd (.nd .lf (some (.list 141 156 4 [] none)) .lf) (some (.cells [(.sint .i64 120), (.sint .i64 175), (.sym 122), (.sint .i64 123), (.sym 124), (.sym 125), (.sym 126), (.sym 127), (.sym 128), (.sint .i64 129), (.sym 130), (.sym 131), (.sym 132), (.slice none 0 0)] none 0 (some 56))) .lf) (some (.cells [(.sym 60), (.sym 41), (.sym 62), (.sym 63), (.sym 64), (.sym 65), (.sym 46), (.sym 67), (.sym 68), (.sym 69), (.sym 70), (.sym 71), (.sym 72), (.sym 73), (.sym 74), (.sym 75), (.sym 76), (.sym 77), (.sym 78), (.sym 79), (.sym 80), (.sym 81), (.sym 82), (.sym 83), (.sym 84)] none 0 none)) (.nd (.nd .lf (some (.cells [(.sym 90)] none 0 none)) .lf) (some (.cells [(.lsl 3 156 0)] none 0 (some 71))) .lf)), 5, 140, [(.tuple [(.sint .i64 156), (.int .i64 (0))]), (.agg [(.sym 141), (.sint .i64 156), (.int .i64 (4))]), (.sint .i64 175), (.sint .i64 150)], efiv4, Eef, eft4⟩
def efiv5 : Go.Ev.Ivs := [bI, bI, (0, 1000000), bI, bI, bI, bI, bI, bI, bI, bI, bI, bI, (0, 1000000), (0, 1000000), bI, bI, bI, bI, bI, bI, bI, bI, bI, bI, bI, bI, bI, bI, bI, bI, bI, bI, bI, bI, bI, bI, bI, bI, bI, bI, bI, bI, bI, bI, bI, bI, bI, bI, bI, bI, bI, bI, bI, bI, bI, bI, bI, bI, bI, bI, bI, bI, bI, bI, bI, bI, bI, bI, bI, bI, bI, bI, bI, bI, bI, bI, bI, bI, bI, bI, bI, bI, bI, bI, bI, bI, bI, bI, bI, bI, (4, 4), bI, bI, bI, bI, bI, bI, bI, bI, bI, (1, 1), (1, 1), (2, 2), bI, bI, bI, bI, bI, bI, bI, bI, bI, bI, bI, bI, bI, bI, bI, bI, bI, (0, 3), bI, bI, bI, bI, bI, bI, bI, bI, bI, bI, bI, bI, (0, 1), (1, 4), bI, bI, bI, bI, bI, bI, bI, bI, bI, bI, bI, bI, bI, bI, (0, 1000000), bI, (-1, 1000000), bI, bI, bI, (1, 19), bI, (1, 19), bI, bI, bI, bI, bI, bI, bI, bI, bI, bI, bI, bI, bI, bI, bI, bI, bI, bI, bI, bI, bI]
def eft5 : Go.Ev.TrX Go.Ev.Leaf := (.rel .i64 150 2 (.cut 152 (-1) (.leaf (.goto 5 [(.tuple [(.sint .i64 156), (.int .i64 (0))]), (.agg [(.sym 141)]), (.sint .i64 175), (.sint .i64 149)])) (.cut 161 (-1) (.leaf (.goto 5 [(.tuple [(.sint .i64 156), (.int .i64 (0))]), (.agg [(.sym 141)]), (.sint .i64 175), (.sint .i64 149)])) (.cut 161 (3) (.cut 161 (0) (.leaf (.goto 5 [(.tuple [(.sint .i64 156), (.int .i64 (0))]), (.agg [(.sym 141)]), (.sint .i64 175), (.sint .i64 149)])) (.cut 161 (1) (.rel .i64 160 120 (.rel .i64 163 123 (.leaf (.goto 5 [(.tuple [(.sint .i64 156), (.int .i64 (0))]), (.agg [(.sym 141)]), (.sint .i64 175), (.sint .i64 149)])) (.rel .i64 123 163 (.leaf (.goto 5 [(.tuple [(.sint .i64 156), (.int .i64 (0))]), (.agg [(.sym 141)]), (.sint .i64 175), (.sint .i64 149)])) (.leaf (.goto 5 [(.tuple [(.sint .i64 156), (.int .i64 (1))]), (.agg [(.sym 141), (.int .i64 (4)), (.int .i64 (1)), (.int .i64 (1)), (.sint .i64 169)]), (.sint .i64 175), (.sint .i64 149)])))) (.rel .i64 120 160 (.rel .i64 163 123 (.leaf (.goto 5 [(.tuple [(.sint .i64 156), (.int .i64 (0))]), (.agg [(.sym 141)]), (.sint .i64 175), (.sint .i64 149)])) (.rel .i64 123 163 (.leaf (.goto 5 [(.tuple [(.sint .i64 156), (.int .i64 (0))]), (.agg [(.sym 141)]), (.sint .i64 175), (.sint .i64 149)])) (.leaf (.goto 5 [(.tuple [(.sint .i64 156), (.int .i64 (1))]), (.agg [(.sym 141), (.int .i64 (4)), (.int .i64 (1)), (.int .i64 (1)), (.sint .i64 169)]), (.sint .i64 175), (.sint .i64 149)])))) (.rel .i64 163 123 (.leaf (.goto 5 [(.tuple [(.sint .i64 156), (.int .i64 (0))]), (.agg [(.sym 141)]), (.sint .i64 175), (.sint .i64 149)])) (.rel .i64 123 163 (.leaf (.goto 5 [(.tuple [(.sint .i64 156), (.int .i64 (0))]), (.agg [(.sym 141)]), (.sint .i64 175), (.sint .i64 149)])) (.leaf (.goto 5 [(.tuple [(.sint .i64 156), (.int .i64 (0))]), (.agg [(.sym 141)]), (.sint .i64 175), (.sint .i64 149)])))))) (.cut 161 (2) (.rel .i64 160 120 (.leaf (.goto 5 [(.tuple [(.sint .i64 156), (.int .i64 (1))]), (.agg [(.sym 141), (.int .i64 (3)), (.int .i64 (0)), (.int .i64 (1)), (.sint .i64 169)]), (.sint .i64 175), (.sint .i64 149)])) (.rel .i64 120 160 (.leaf (.goto 5 [(.tuple [(.sint .i64 156), (.int .i64 (1))]), (.agg [(.sym 141), (.int .i64 (3)), (.int .i64 (0)), (.int .i64 (1)), (.sint .i64 169)]), (.sint .i64 175), (.sint .i64 149)])) (.leaf (.goto 5 [(.tuple [(.sint .i64 156), (.int .i64 (1))]), (.agg [(.sym 141), (.int .i64 (3)), (.int .i64 (0)), (.int .i64 (1)), (.sint .i64 169)]), (.sint .i64 175), (.sint .i64 149)])))) (.rel .i64 160 120 (.rel .i64 163 123 (.leaf (.goto 5 [(.tuple [(.sint .i64 156), (.int .i64 (0))]), (.agg [(.sym 141)]), (.sint .i64 175), (.sint .i64 149)])) (.rel .i64 123 163 (.leaf (.goto 5 [(.tuple [(.sint .i64 156), (.int .i64 (0))]), (.agg [(.sym 141)]), (.sint .i64 175), (.sint .i64 149)])) (.leaf (.goto 5 [(.tuple [(.sint .i64 156), (.int .i64 (1))]), (.agg [(.sym 141), (.int .i64 (2)), (.int .i64 (4)), (.int .i64 (0)), (.sint .i64 169)]), (.sint .i64 175), (.sint .i64 149)])))) (.rel .i64 120 160 (.rel .i64 163 123 (.leaf (.goto 5 [(.tuple [(.sint .i64 156), (.int .i64 (0))]), (.agg [(.sym 141)]), (.sint .i64 175), (.sint .i64 149)])) (.rel .i64 123 163 (.leaf (.goto 5 [(.tuple [(.sint .i64 156), (.int .i64 (0))]), (.agg [(.sym 141)]), (.sint .i64 175), (.sint .i64 149)])) (.leaf (.goto 5 [(.tuple [(.sint .i64 156), (.int .i64 (1))]), (.agg [(.sym 141), (.int .i64 (2)), (.int .i64 (4)), (.int .i64 (0)), (.sint .i64 169)]), (.sint .i64 175), (.sint .i64 149)])))) (.rel .i64 163 123 (.leaf (.goto 5 [(.tuple [(.sint .i64 156), (.int .i64 (1))]), (.agg [(.sym 141), (.int .i64 (1)), (.int .i64 (1)), (.int .i64 (0)), (.sint .i64 169)]), (.sint .i64 175), (.sint .i64 149)])) (.rel .i64 123 163 (.leaf (.goto 5 [(.tuple [(.sint .i64 156), (.int .i64 (1))]), (.agg [(.sym 141), (.int .i64 (1)), (.int .i64 (1)), (.int .i64 (0)), (.sint .i64 169)]), (.sint .i64 175), (.sint .i64 149)])) (.leaf (.goto 5 [(.tuple [(.sint .i64 156), (.int .i64 (2))]), (.agg [(.sym 141), (.int .i64 (1)), (.int .i64 (1)), (.int .i64 (0)), (.sint .i64 169), (.int .i64 (2)), (.int .i64 (4)), (.int .i64 (0)), (.sint .i64 169)]), (.sint .i64 175), (.sint .i64 149)]))))))))) (.leaf (.goto 5 [(.tuple [(.sint .i64 156), (.int .i64 (0))]), (.agg [(.sym 141)]), (.sint .i64 175), (.sint .i64 149)]))))) (.leaf (.goto 7 [(.agg [(.sym 144)]), (.tuple [(.sint .i64 158), (.int .i64 (0))])])))
def efc5 : Go.Ev.CutP := ⟨some 0, (.nd (.nd (.nd (.nd (.nd (.nd .lf (some .any) .lf) (some .any) (.nd .lf (some .any) .lf)) (some (.ptr (some ⟨(.loc 1), 0⟩))) (.nd (.nd .lf (some .any) .lf) (some .any) (.nd .lf (some .any) .lf))) (some .any) (.nd (.nd (.nd .lf (some .any) .lf) (some .any) (.nd .lf (some .any) .lf)) (some (.func (.func 24) [] [(.ptr (some ⟨(.loc 4), 0⟩)), (.ptr (some ⟨(.loc 1), 0⟩)), (.ptr (some ⟨(.loc 2), 0⟩))])) (.nd (.nd .lf (some .any) .lf) (some (.sym 46)) .lf))) (some .any) (.nd (.nd (.nd (.nd .lf (some .any) .lf) (some .any) (.nd .lf (some .any) .lf)) (some .any) (.nd (.nd .lf (some .any) .lf) (some .any) .lf)) (some .any) (.nd (.nd (.nd .lf (some .any) .lf) (some .any) (.nd .lf (some .any) .lf)) (some .any) (.nd (.nd .lf (some .any) .lf) (some (.sint .i64 150)) .lf)))) (some .any) (.nd (.nd (.nd (.nd (.nd .lf (some .any) .lf) (some .any) (.nd .lf (some .any) .lf)) (some .any) (.nd (.nd .lf (some .any) .lf) (some .any) (.nd .lf (some .any) .lf))) (some (.ptr (some ⟨(.loc 0), 0⟩))) (.nd (.nd (.nd .lf (some .any) .lf) (some .any) (.nd .lf (some .any) .lf)) (some .any) (.nd (.nd .lf (some .any) .lf) (some (.sint .i64 2)) .lf))) (some .any) (.nd (.nd (.nd (.nd .lf (some .any) .lf) (some .any) (.nd .lf (some .any) .lf)) (some (.ptr (some ⟨(.loc 2), 0⟩))) (.nd (.nd .lf (some .any) .lf) (some .any) .lf)) (some (.slice none 0 0)) (.nd (.nd (.nd .lf (some .any) .lf) (some .any) (.nd .lf (some .any) .lf)) (some .any) (.nd (.nd .lf (some .any) .lf) (some .any) .lf))))), (.nd (.nd (.nd .lf (some (.list 141 156 4 [] none)) .lf) (some (.cells [(.sint .i64 120), (.sint .i64 175), (.sym 122), (.sint .i64 123), (.sym 124), (.sym 125), (.sym 126), (.sym 127), (.sym 128), (.sint .i64 129), (.sym 130), (.sym 131), (.sym 132), (.slice (some ⟨(.sym 8), 0⟩) 1 1)] none 0 (some 56))) .lf) (some (.cells [(.sym 60), (.sym 41), (.sym 62), (.sym 63), (.sym 64), (.sym 65), (.sym 46), (.sym 67), (.sym 68), (.sym 69), (.sym 70), (.sym 71), (.sym 72), (.sym 73), (.sym 74), (.sym 75), (.sym 76), (.sym 77), (.sym 78), (.sym 79), (.sym 80), (.sym 81), (.sym 82), (.sym 83), (.sym 84)] none 0 none)) (.nd (.nd .lf (some (.cells [(.sym 90)] none 0 none)) .lf) (some (.cells [(.lsl 3 156 0)] none 0 (some 71))) .lf)), 5, 140, [(.tuple [(.sint .i64 156), (.int .i64 (0))]), (.agg [(.sym 141), (.sint .i64 156), (.int .i64 (4))]), (.sint .i64 175), (.sint .i64 150)], efiv5, Eef, eft5⟩
def efiv6 : Go.Ev.Ivs := []
def eft6 : Go.Ev.TrX Go.Ev.Leaf := (.leaf (.ret .any))
def efc6 : Go.Ev.CutP := ⟨none, (.nd .lf (some (.slice (some ⟨(.loc 0), 0⟩) 1 1)) .lf), (.nd .lf (some (.cells [(.sint .i64 135), (.sint .i64 136), (.sint .i64 137), (.sint .i64 138)] (some 4) 0 (some 58))) .lf), 1, 0, [(.sint .i64 138), (.sint .i64 137), (.sint .i64 136), (.sint .i64 135)], efiv6, Emt, eft6⟩
def efiv7 : Go.Ev.Ivs := []
def eft7 : Go.Ev.TrX Go.Ev.Leaf := (.leaf (.ret .any))
def efc7 : Go.Ev.CutP := ⟨none, (.nd .lf (some (.lsl 0 156 0)) .lf), (.nd .lf (some (.list 146 156 4 [] none)) .lf), 1, 0, [(.agg [(.sym 146), (.sint .i64 156), (.int .i64 (4))]), (.tuple [(.sint .i64 156), (.int .i64 (0))])], efiv7, Emt, eft7⟩
def efKT : List Go.Ev.KE := [⟨26, [(.agg [(.sym 60), (.sym 41), (.sym 62), (.sym 63), (.sym 64), (.sym 65), (.sym 46), (.sym 67), (.sym 68), (.sym 69), (.sym 70), (.sym 71), (.sym 72), (.sym 73), (.sym 74), (.sym 75), (.sym 76), (.sym 77), (.sym 78), (.sym 79), (.sym 80), (.sym 81), (.sym 82), (.sym 83), (.sym 84)]), (.sint .i64 3)], [], (.sint .i64 13)⟩, ⟨26, [(.agg [(.sym 60), (.sym 41), (.sym 62), (.sym 63), (.sym 64), (.sym 65), (.sym 46), (.sym 67), (.sym 68), (.sym 69), (.sym 70), (.sym 71), (.sym 72), (.sym 73), (.sym 74), (.sym 75), (.sym 76), (.sym 77), (.sym 78), (.sym 79), (.sym 80), (.sym 81), (.sym 82), (.sym 83), (.sym 84)]), (.sint .i64 155)], [], (.sint .i64 152)⟩, ⟨38, [(.sym 46), (.sint .i64 3)], [], (.bool true)⟩]
def efK2 : List Go.Ev.KE2 := [⟨27, [(.lsl 3 156 0), (.func (.func 28) [] [])], 5, [(3, (.list 141 156 4 [] none))], (.lsl 5 156 0), [(5, (.list 141 156 4 [] none))], 6⟩, ⟨27, [(.lsl 5 156 1), (.func (.func 28) [] [])], 6, [(5, (.list 141 156 4 [(.sint .i64 135), (.sint .i64 136), (.sint .i64 137), (.sint .i64 138)] none))], (.lsl 6 158 0), [(6, (.list 143 158 4 [] none))], 7⟩, ⟨30, [(.lsl 5 156 0), (.func (.func 31) [(.lsl 5 156 0)] [])], 6, [(5, (.list 141 156 4 [] none))], (.tuple []), [(5, (.list 146 156 4 [] none))], 6⟩, ⟨30, [(.lsl 6 158 0), (.func (.func 31) [(.lsl 6 158 0)] [])], 7, [(6, (.list 143 158 4 [] none))], (.tuple []), [(6, (.list 144 158 4 [] none))], 7⟩]
def efC : List Go.Ev.CutP := [efc0, efc1, efc2, efc3, efc4, efc5, efc6, efc7]
def efbody : Code := match Try.f13.body with | some c => c | none => .skip
def eflf (c : Go.Ev.CutP) : Go.Ev.Ivs → List Go.Ev.Fact → Go.Ev.Leaf → Bool := Go.Ev.chkLfH Try.prog (Go.Ev.rcKA Try.prog efKT efK2 20000) Try.f13.ntmps [0] 1000 Try.f13.results.toList efbody efC 0 c
theorem efk0 : Go.Ev.chkX (eflf efc0) eft0 efiv0 [] = true := by kernel_rfl
theorem efk1 : Go.Ev.chkX (eflf efc1) eft1 efiv1 [] = true := by kernel_rfl
theorem efk3 : Go.Ev.chkX (eflf efc3) eft3 efiv3 [] = true := by kernel_rfl
theorem efk4 : Go.Ev.chkX (eflf efc4) eft4 efiv4 [] = true := by kernel_rfl
theorem efk5 : Go.Ev.chkX (eflf efc5) eft5 efiv5 [] = true := by kernel_rfl
theorem efauto : @Go.Ev.AutoH (Go.Ev.extKA Try.prog efKT efK2) Try.prog (Go.Ev.rcKA Try.prog efKT efK2 20000) Try.f13 efbody [0] 1000 efC (fun _ => none) 0 := Go.Ev.auto_ofH noNG mixed (by kernel_rfl) ⟨.inr efk0, .inr efk1, .inl rfl, .inr efk3, .inr efk4, .inr efk5, .inl rfl, .inl rfl, trivial⟩ ⟨Eef_blk, Eef_blk, (fun _ _ => rfl), Eef_blk, Eef_blk, Eef_blk, (fun _ _ => rfl), (fun _ _ => rfl), trivial⟩
/-! ### the trees -/
def ctlT (x y : TrX Leaf) : TrX Leaf := .rel .i64 163 123 x (.rel .i64 123 163 x y)
abbrev Sp := Int × Int × Int
def idT (x y : TrX Leaf) : TrX Leaf := .rel .i64 160 120 x (.rel .i64 120 160 x y)
def actT (f : List Sp → TrX Leaf) : TrX Leaf := .cut 152 (-1) (f []) (.cut 161 (-1) (f []) (.cut 161 3 (.cut 161 0 (f []) (.cut 161 1 (idT (ctlT (f []) (f [(4, 1, 1)])) (ctlT (f []) (f []))) (.cut 161 2 (idT (f [(3, 0, 1)]) (f [(3, 0, 1)])) (idT (ctlT (f []) (f [(2, 4, 0)])) (ctlT (f [(1, 1, 0)]) (f [(1, 1, 0), (2, 4, 0)])))))) (f [])))
def spV : List Sp → List VV
  | [] => []
  | (o, a, b) :: l => i8 o :: i8 a :: i8 b :: si 169 :: spV l
/-- Nothing there yet; and a list. -/
def fN (q q' : Nat) : List Sp → TrX Leaf
  | [] => .leaf (.goto q [si 175, si 149])
  | x :: l => .leaf (.goto q' [.tuple [i8 (l.length + 1 : Nat)], .agg (.nilIface :: spV (x :: l)), si 175, si 149])
def fL (q : Nat) (l : List Sp) : TrX Leaf := .leaf (.goto q [.tuple [si 156, i8 (l.length : Nat)], .agg (.sym 141 :: spV l), si 175, si 149])
def exE : TrX Leaf := .leaf (.goto 6 [si 138, si 137, si 136, si 135])
def exA : TrX Leaf := .leaf (.goto 7 [.agg [.sym 146], .tuple [si 156, i8 0]])
def exB : TrX Leaf := .leaf (.goto 7 [.agg [.sym 144], .tuple [si 158, i8 0]])
theorem eft1_eq : eft1 = .rel .i64 150 2 (actT (fN 1 4)) (.leaf (.goto 2 [])) := by kernel_rfl
theorem eft3_eq : eft3 = .rel .i64 150 2 (actT (fN 3 5)) (.cut 135 1 exE (.cut 135 2 exE (.cut 135 3 exE exE))) := by kernel_rfl
theorem eft4_eq : eft4 = .rel .i64 150 2 (actT (fL 4)) exA := by kernel_rfl
theorem eft5_eq : eft5 = .rel .i64 150 2 (actT (fL 5)) exB := by kernel_rfl
def spec (c i j x y : Int) : List Sp :=
  if c = 1 then (if x = y ∧ i ≠ j then [(4, 1, 1)] else []) else if c = 2 then [(3, 0, 1)] else if c = 3 then (if i = j then [(1, 1, 0)] else []) ++ (if x = y then [(2, 4, 0)] else []) else []
theorem ctl_val (x y : TrX Leaf) (v : Nat → Int) : valX (ctlT x y) v = if v 163 = v 123 then valX y v else valX x v := by
  simp only [ctlT, valX]
  by_cases h : v 163 < v 123
  · rw [if_pos h, if_neg (by omega)]
  rw [if_neg h]
  by_cases h2 : v 123 < v 163
  · rw [if_pos h2, if_neg (by omega)]
  · rw [if_neg h2, if_pos (by omega)]
theorem idT_val (x y : TrX Leaf) (v : Nat → Int) : valX (idT x y) v = if v 160 = v 120 then valX y v else valX x v := by
  simp only [idT, valX]
  by_cases h : v 160 < v 120
  · rw [if_pos h, if_neg (by omega)]
  rw [if_neg h]
  by_cases h2 : v 120 < v 160
  · rw [if_pos h2, if_neg (by omega)]
  · rw [if_neg h2, if_pos (by omega)]
theorem act_val (f : List Sp → TrX Leaf) (v : Nat → Int) : valX (actT f) v = valX (f (if v 152 ≤ -1 then [] else spec (v 161) (v 160) (v 120) (v 163) (v 123))) v := by
  unfold actT spec
  simp only [valX, ctl_val, idT_val]
  by_cases h0 : v 152 ≤ -1
  · rw [if_pos h0, if_pos h0]
  rw [if_neg h0, if_neg h0]
  by_cases h1 : v 161 ≤ -1
  · rw [if_pos h1, if_neg (by omega), if_neg (by omega), if_neg (by omega)]
  rw [if_neg h1]
  by_cases h2 : v 161 ≤ 3
  · rw [if_pos h2]
    by_cases h3 : v 161 ≤ 0
    · rw [if_pos h3, if_neg (by omega), if_neg (by omega), if_neg (by omega)]
    rw [if_neg h3]
    by_cases h4 : v 161 ≤ 1
    · rw [if_pos h4, if_pos (show v 161 = 1 by omega)]
      by_cases hi : v 160 = v 120 <;> by_cases hc : v 163 = v 123 <;> simp [hi, hc]
    rw [if_neg h4, if_neg (show ¬ v 161 = 1 by omega)]
    by_cases h5 : v 161 ≤ 2
    · rw [if_pos h5, if_pos (show v 161 = 2 by omega)]
      by_cases hi : v 160 = v 120 <;> simp [hi]
    · rw [if_neg h5, if_neg (show ¬ v 161 = 2 by omega), if_pos (show v 161 = 3 by omega)]
      by_cases hi : v 160 = v 120 <;> by_cases hc : v 163 = v 123 <;> simp [hi, hc]
  · rw [if_neg h2, if_neg (by omega), if_neg (by omega), if_neg (by omega)]
end
end Go.Proofs.Ytgbhmkdldfhamaa.order
namespace Go.Proofs.Ytgbhmkdldfhamaa.order
open Go.Ev Go.RowKit
set_option linter.unusedVariables false
noncomputable section
/-! ### the pool -/
structure PoG where
  cB : Nat
  cO : Nat
  cc : Nat
  aB : Nat → Nat
  aO : Nat → Nat
  ac : Nat → Nat
def z64 : Value := .int .i64 0
def n64 (n : Int) : Value := .int .i64 n
def PoG.ab (p : PoG) (k n : Nat) : Value := .slice (some ⟨p.aB k, p.aO k, none⟩) n (p.ac k)
def PoG.v (p : PoG) : Value := .slice (some ⟨p.cB, p.cO, none⟩) 4 p.cc
def cardL (n : Value) (k p t y : Int) (a : Value) : List Value := [n, n64 k, z64, z64, z64, z64, z64, n64 p, n64 t, n64 y, a]
def bearN : Value := .string ⟨#[98, 101, 97, 114]⟩
def lordN : Value := .string ⟨#[108, 111, 114, 100]⟩
def shriN : Value := .string ⟨#[115, 104, 114, 105, 110, 107, 101, 114]⟩
def kiteN : Value := .string ⟨#[107, 105, 116, 101]⟩
def PoG.card (p : PoG) : Nat → List Value
  | 0 => cardL bearN 2 2 2 0 (.slice none 0 0)
  | 1 => cardL lordN 2 2 2 0 (p.ab 1 1)
  | 2 => cardL shriN 4 0 0 0 (p.ab 2 1)
  | _ => cardL kiteN 2 1 1 4 (p.ab 3 2)
def abL (who op a b : Int) : List Value := [n64 4, z64, n64 who, z64, z64, z64, z64, .bool false, .slice none 0 0, .slice none 0 0, n64 op, n64 a, n64 b]
/-- Cells that are there. -/
def CellsAt (w : World) (B O : Nat) (l : List Value) : Prop := B < w.heap.size ∧ ∀ j v, l[j]? = some v → w.cell? ⟨B, O + j, none⟩ = some v
structure PoG.OK (p : PoG) (w : World) : Prop where
  card : ∀ k, k < 4 → CellsAt w p.cB (p.cO + k * 11) (p.card k)
  lord : CellsAt w (p.aB 1) (p.aO 1) (abL 3 4 1 1)
  shri : CellsAt w (p.aB 2) (p.aO 2) (abL 2 3 0 1)
  kit0 : CellsAt w (p.aB 3) (p.aO 3) (abL 0 1 1 0)
  kit1 : CellsAt w (p.aB 3) (p.aO 3 + 13) (abL 1 2 4 0)
theorem CellsAt.later {w w' : World} {B O : Nat} {l : List Value} (h : CellsAt w B O l) (hs : w.heap.size ≤ w'.heap.size) (hb : ∀ k, k < w.heap.size → w'.heap[k]? = w.heap[k]?) : CellsAt w' B O l :=
  ⟨Nat.lt_of_lt_of_le h.1 hs, fun j v hj => by
    rw [← h.2 j v hj]
    unfold World.cell?
    rw [hb _ h.1]⟩
theorem PoG.OK.later {p : PoG} {w w' : World} (h : p.OK w) (hs : w.heap.size ≤ w'.heap.size) (hb : ∀ k, k < w.heap.size → w'.heap[k]? = w.heap[k]?) : p.OK w' :=
  ⟨fun k hk => (h.card k hk).later hs hb, h.lord.later hs hb, h.shri.later hs hb, h.kit0.later hs hb, h.kit1.later hs hb⟩
theorem VRs_at {φ : Phi} : ∀ {xs : List VV} {vs : List Value} {j : Nat} {x : VV}, VRs φ xs vs → xs[j]? = some x → ∃ v, vs[j]? = some v ∧ VR φ x v
  | [], _, j, x, _, hx => by simp at hx
  | y :: xs, vs, 0, x, h, hx => by
    simp only [VRs] at h
    obtain ⟨v, ws, rfl, h1, h2⟩ := h
    cases hx
    exact ⟨v, rfl, h1⟩
  | y :: xs, vs, j + 1, x, h, hx => by
    simp only [VRs] at h
    obtain ⟨v, ws, rfl, h1, h2⟩ := h
    obtain ⟨u, g1, g2⟩ := VRs_at h2 (by simpa using hx)
    exact ⟨u, by simpa using g1, g2⟩
theorem cells_blk {φ : Phi} {w : World} {B O : Nat} {l : List Value} {cs : List VV} (h : CellsAt w B O l) (hv : VRs φ cs l) : B < w.heap.size ∧ ∀ j x, cs[j]? = some x → ∃ v, w.cell? ⟨B, O + j, none⟩ = some v ∧ VR φ x v :=
  ⟨h.1, fun j x hx => by
    obtain ⟨v, g1, g2⟩ := VRs_at hv hx
    exact ⟨v, h.2 j v g1, g2⟩⟩
theorem cons_VR {φ : Phi} {x : VV} {v : Value} {xs : List VV} {vs : List Value} (h : VR φ x v) (k : VRs φ xs vs) : VRs φ (x :: xs) (v :: vs) := by
  simp only [VRs]
  exact ⟨v, vs, rfl, h, k⟩
theorem nil_VR {φ : Phi} : VRs φ [] [] := by simp only [VRs]
theorem i8_VR {φ : Phi} (n : Int) : VR φ (i8 n) (n64 n) := by simp only [i8, VR, n64]
theorem card_VR {φ : Phi} {nv : VV} {n : Value} {k p t y : Int} {av : VV} {a : Value} (hn : VR φ nv n) (ha : VR φ av a) : VRs φ (cardV nv k p t y av) (cardL n k p t y a) :=
  cons_VR hn (cons_VR (i8_VR k) (cons_VR (i8_VR 0) (cons_VR (i8_VR 0) (cons_VR (i8_VR 0) (cons_VR (i8_VR 0) (cons_VR (i8_VR 0) (cons_VR (i8_VR p) (cons_VR (i8_VR t) (cons_VR (i8_VR y) (cons_VR ha nil_VR))))))))))
theorem ab_VR {φ : Phi} {who op a b : Int} : VRs φ (abV who op a b) (abL who op a b) := by
  have hs : VR φ (.slice none 0 0) (.slice none 0 0) := by simp only [VR]
  have hb : VR φ (.bool false) (.bool false) := by simp only [VR]
  exact cons_VR (i8_VR 4) (cons_VR (i8_VR 0) (cons_VR (i8_VR who) (cons_VR (i8_VR 0) (cons_VR (i8_VR 0) (cons_VR (i8_VR 0) (cons_VR (i8_VR 0) (cons_VR hb (cons_VR hs (cons_VR hs (cons_VR (i8_VR op) (cons_VR (i8_VR a) (cons_VR (i8_VR b) nil_VR))))))))))))
/-! ### what acts on a beast -/
def actsOf (o b : Ob) : List Eff := (spec o.card o.id b.id o.ctrl b.ctrl).map fun x => ⟨x.1, x.2.1, x.2.2, o.st⟩
def StG.acts (g : StG) (b : Ob) (n : Int) : List Eff := if g.find n ≤ -1 then [] else actsOf (g.ob (g.find n).toNat) b
def StG.coll (g : StG) (b : Ob) (l : List Int) : List Eff := l.flatMap (g.acts b)
/-- A beast of a state. -/
structure EfG where
  g : StG
  p : PoG
  bi : Nat
  effs : List Eff
  eB : Nat
  eO : Nat
def EfG.b (e : EfG) : Ob := e.g.ob e.bi
def EfG.raw (e : EfG) : List Eff := e.g.coll e.b e.g.fs ++ e.effs
structure EfG.OK (e : EfG) (id : Int) (w : World) : Prop where
  g : e.g.OK w
  p : e.p.OK w
  bi : e.bi < e.g.os.length
  fd : e.g.find id = e.bi
  has : 0 ≤ e.g.has id
  id : I64 id
  c0 : 0 ≤ e.b.card
  c3 : e.b.card ≤ 3
  le : e.effs.length ≤ 1
  ac : Acts e.effs
  fit : ∀ x ∈ e.effs, x.Fit
  eff : e.b.eff = match e.effs with | [] => .slice none 0 0 | _ :: _ => .slice (some ⟨e.eB, e.eO, none⟩) 1 1
  mem : ∀ x, e.effs[0]? = some x → CellsAt w e.eB e.eO [n64 x.op, n64 x.a, n64 x.b, n64 x.st]
  len : (e.g.coll e.b e.g.fs).length ≤ 17
/-- The numbers of its own effect; where there is none: of a card. -/
def EfG.e0 (e : EfG) : Eff := e.effs.getD 0 ⟨2, 0, 0, 0⟩
def EfG.e0B (e : EfG) : Nat := match e.effs with | [] => e.p.cB | _ :: _ => e.eB
def EfG.e0O (e : EfG) : Nat := match e.effs with | [] => e.p.cO + 1 | _ :: _ => e.eO
theorem EfG.OK.e0_cells {e : EfG} {id : Int} {w : World} (h : e.OK id w) : CellsAt w e.e0B e.e0O [n64 e.e0.op, n64 e.e0.a, n64 e.e0.b, n64 e.e0.st] := by
  unfold EfG.e0 EfG.e0B EfG.e0O
  cases he : e.effs with
  | nil =>
    have := h.p.card 0 (by omega)
    refine ⟨this.1, fun j v hj => ?_⟩
    have h2 := this.2 (j + 1) v (by
      match j with
      | 0 => exact hj
      | 1 => exact hj
      | 2 => exact hj
      | 3 => exact hj
      | j + 4 => simp at hj)
    rw [← h2]
    congr 2
    show e.p.cO + 1 + j = e.p.cO + 0 * 11 + (j + 1)
    omega
  | cons x l => exact h.mem x (by rw [he]; rfl)
theorem EfG.OK.e0_fit {e : EfG} {id : Int} {w : World} (h : e.OK id w) : e.e0.Fit ∧ 1 ≤ e.e0.op ∧ e.e0.op ≤ 4 := by
  unfold EfG.e0
  cases he : e.effs with
  | nil => exact ⟨⟨⟨by decide, by decide⟩, i64_0, i64_0, i64_0⟩, by decide, by decide⟩
  | cons x l => exact ⟨h.fit x (by rw [he]; exact List.mem_cons_self), h.ac x (by rw [he]; exact List.mem_cons_self)⟩
/-- The list, as far as it is; never empty. -/
def pad (l : List Eff) : List Eff := if l = [] then [eff1] else l
def cintE (e : EfG) (id : Int) : Nat → Int
  | 2 => (e.g.fs.length : Int)
  | 3 => id
  | 13 => (e.bi : Int)
  | 14 => (e.g.os.length : Int)
  | 91 => 4
  | 101 => 1
  | 102 => 1
  | 103 => 2
  | 120 => e.b.id
  | 121 => e.b.card
  | 123 => e.b.ctrl
  | 129 => e.b.st
  | 134 => (e.effs.length : Int)
  | 135 => e.e0.op
  | 136 => e.e0.a
  | 137 => e.e0.b
  | 138 => e.e0.st
  | _ => 0
def vintE (e : EfG) (i : Nat) (l : List Eff) : Nat → Int
  | 9 => w64 ((i : Int) + 1)
  | 10 => (i : Int)
  | 12 => e.g.find (e.g.fn i)
  | 15 => e.g.fn i
  | 16 => ((pad l).length : Int)
  | 18 => ((pad l).length : Int) + 1
  | 20 => (e.g.ob (e.g.find (e.g.fn i)).toNat).id
  | 21 => (e.g.ob (e.g.find (e.g.fn i)).toNat).card
  | 23 => (e.g.ob (e.g.find (e.g.fn i)).toNat).ctrl
  | 29 => (e.g.ob (e.g.find (e.g.fn i)).toNat).st
  | 35 => e.b.card
  | _ => 0
def cvalE (e : EfG) : Nat → Value
  | 90 => e.p.v
  | 97 => e.p.ab 1 1
  | 98 => e.p.ab 2 1
  | 99 => e.p.ab 3 2
  | 122 => e.b.cell 2
  | 124 => e.b.cell 4
  | 125 => e.b.cell 5
  | 126 => e.b.cell 6
  | 127 => e.b.cell 7
  | 128 => e.b.cell 8
  | 130 => e.b.cell 10
  | 131 => e.b.cell 11
  | 132 => e.b.cell 12
  | 133 => e.b.cell 13
  | k => qval e.g k
def vvalE (e : EfG) (i : Nat) : Nat → Value
  | 22 => (e.g.ob (e.g.find (e.g.fn i)).toNat).cell 2
  | 24 => (e.g.ob (e.g.find (e.g.fn i)).toNat).cell 4
  | 25 => (e.g.ob (e.g.find (e.g.fn i)).toNat).cell 5
  | 26 => (e.g.ob (e.g.find (e.g.fn i)).toNat).cell 6
  | 27 => (e.g.ob (e.g.find (e.g.fn i)).toNat).cell 7
  | 28 => (e.g.ob (e.g.find (e.g.fn i)).toNat).cell 8
  | 30 => (e.g.ob (e.g.find (e.g.fn i)).toNat).cell 10
  | 31 => (e.g.ob (e.g.find (e.g.fn i)).toNat).cell 11
  | 32 => (e.g.ob (e.g.find (e.g.fn i)).toNat).cell 12
  | 33 => (e.g.ob (e.g.find (e.g.fn i)).toNat).cell 13
  | _ => .bool false
def cblkE (e : EfG) : Nat → Nat
  | 7 => e.g.oB
  | 8 => e.e0B
  | 104 => e.p.aB 1
  | 105 => e.p.aB 2
  | 106 => e.p.aB 3
  | 107 => e.p.aB 3
  | _ => e.p.cB
def coffE (e : EfG) : Nat → Nat
  | 7 => e.g.oO + e.bi * 14
  | 8 => e.e0O
  | 93 => e.p.cO + 1 * 11
  | 94 => e.p.cO + 2 * 11
  | 95 => e.p.cO + 3 * 11
  | 104 => e.p.aO 1
  | 105 => e.p.aO 2
  | 106 => e.p.aO 3
  | 107 => e.p.aO 3 + 13
  | _ => e.p.cO
def vblkE (e : EfG) : Nat → Nat
  | 11 => e.g.oB
  | _ => e.g.fB
def voffE (e : EfG) (i : Nat) : Nat → Nat
  | 11 => e.g.oO + (e.g.find (e.g.fn i)).toNat * 14
  | _ => e.g.fO + i
def vlstE (e : EfG) (l : List Eff) : Nat → List VV
  | 1 => cellsOf (pad l)
  | 3 => cellsOf (pad l ++ [e.e0])
  | 4 => cellsOf (isort (pad l ++ [e.e0]))
  | 6 => cellsOf (isort (pad l))
  | _ => []
theorem cval_oneE {e : EfG} (k : Nat) : (cvalE e k).oneCell' = true := by
  unfold cvalE
  split <;> first | rfl | exact Ob.one _ _ | exact qval_one _
theorem vval_oneE {e : EfG} {i : Nat} (k : Nat) : (vvalE e i k).oneCell' = true := by
  unfold vvalE
  split <;> first | rfl | exact Ob.one _ _
theorem vlst_closedE {e : EfG} {l : List Eff} (k : Nat) : ∀ x ∈ vlstE e l k, closedV x = true := by
  unfold vlstE
  split
  · exact cellsOf_closed _
  · exact cellsOf_closed _
  · exact cellsOf_closed _
  · exact cellsOf_closed _
  · intro x hx; cases hx
def erE (e : EfG) (id : Int) (i : Nat) (l : List Eff) : Rho where
  int k := if k < 140 then cintE e id k else vintE e i l (k - 140)
  val k := if k < 140 then cvalE e k else vvalE e i (k - 140)
  blk k := if k < 140 then cblkE e k else vblkE e (k - 140)
  off k := if k < 140 then coffE e k else voffE e i (k - 140)
  one k := by
    show (if k < 140 then cvalE e k else vvalE e i (k - 140)).oneCell' = true
    split
    · exact cval_oneE k
    · exact vval_oneE _
  lst k := if k < 140 then [] else vlstE e l (k - 140)
  lcl k x hx := by
    revert hx
    show x ∈ (if k < 140 then [] else vlstE e l (k - 140)) → _
    split
    · intro h; cases h
    · exact vlst_closedE _ x
theorem er_agree {e : EfG} {id : Int} {i i' : Nat} {l l' : List Eff} : agree 140 (erE e id i l) (erE e id i' l') := fun k hk => by
  refine ⟨?_, ?_, ?_, ?_, ?_⟩
  · show (if k < 140 then cintE e id k else _) = if k < 140 then cintE e id k else _
    rw [if_pos hk, if_pos hk]
  · show (if k < 140 then cvalE e k else _) = if k < 140 then cvalE e k else _
    rw [if_pos hk, if_pos hk]
  · rfl
  · show (if k < 140 then coffE e k else _) = if k < 140 then coffE e k else _
    rw [if_pos hk, if_pos hk]
  · show (if k < 140 then [] else _) = if k < 140 then [] else _
    rw [if_pos hk, if_pos hk]
end
end Go.Proofs.Ytgbhmkdldfhamaa.order
namespace Go.Proofs.Ytgbhmkdldfhamaa.order
open Go.Ev Go.RowKit
set_option linter.unusedVariables false
noncomputable section
section
variable {w : World} {e : EfG} {id : Int} {i : Nat} {l : List Eff}
theorem ec (k : Nat) (hk : k < 140) : (erE e id i l).int k = cintE e id k := if_pos hk
theorem ev (k : Nat) : (erE e id i l).int (140 + k) = vintE e i l k := by
  show (if 140 + k < 140 then _ else vintE e i l (140 + k - 140)) = _
  rw [if_neg (by omega), Nat.add_sub_cancel_left]
theorem evc (k : Nat) (hk : k < 140) : (erE e id i l).val k = cvalE e k := if_pos hk
theorem evv (k : Nat) : (erE e id i l).val (140 + k) = vvalE e i k := by
  show (if 140 + k < 140 then _ else vvalE e i (140 + k - 140)) = _
  rw [if_neg (by omega), Nat.add_sub_cancel_left]
theorem ebc (k : Nat) (hk : k < 140) : (erE e id i l).blk k = cblkE e k := if_pos hk
theorem ebv (k : Nat) : (erE e id i l).blk (140 + k) = vblkE e k := by
  show (if 140 + k < 140 then _ else vblkE e (140 + k - 140)) = _
  rw [if_neg (by omega), Nat.add_sub_cancel_left]
theorem eoc (k : Nat) (hk : k < 140) : (erE e id i l).off k = coffE e k := if_pos hk
theorem eov (k : Nat) : (erE e id i l).off (140 + k) = voffE e i k := by
  show (if 140 + k < 140 then _ else voffE e i (140 + k - 140)) = _
  rw [if_neg (by omega), Nat.add_sub_cancel_left]
theorem elv (k : Nat) : (erE e id i l).lst (140 + k) = vlstE e l k := by
  show (if 140 + k < 140 then _ else vlstE e l (140 + k - 140)) = _
  rw [if_neg (by omega), Nat.add_sub_cancel_left]
theorem pad_pos (l : List Eff) : 1 ≤ (pad l).length := by
  unfold pad
  split
  · exact Nat.le_refl _
  · rename_i h
    cases l with
    | nil => exact absurd rfl h
    | cons x l => simp
theorem pad_le {l : List Eff} {n : Nat} (h : l.length ≤ n) (hn : 1 ≤ n) : (pad l).length ≤ n := by
  unfold pad
  split
  · exact hn
  · exact h
/-- A list that is not too long. -/
structure Hw (e : EfG) (i : Nat) (l : List Eff) : Prop where
  le : i ≤ e.g.fs.length
  n : l.length ≤ 18
  fit : ∀ x ∈ l, x.Fit
  ac : Acts l
/-- What there is at a head. -/
structure Hd (e : EfG) (i : Nat) (l : List Eff) : Prop where
  le : i ≤ e.g.fs.length
  l : l = e.g.coll e.b (e.g.fs.take i)
theorem coll_app (g : StG) (b : Ob) (x y : List Int) : g.coll b (x ++ y) = g.coll b x ++ g.coll b y := by simp [StG.coll]
theorem Hd.len (h : e.OK id w) (hh : Hd e i l) : l.length ≤ 17 := by
  have h1 := h.len
  rw [← List.take_append_drop i e.g.fs, coll_app, ← hh.l] at h1
  simp only [List.length_append] at h1
  omega
theorem Hw.padlen (hh : Hw e i l) : 1 ≤ (pad l).length ∧ (pad l).length ≤ 18 := ⟨pad_pos l, pad_le hh.n (by omega)⟩
theorem vint_fits (h : e.OK id w) (hh : Hw e i l) (k : Nat) : I64 (vintE e i l k) := by
  have hp := hh.padlen
  have hn := h.g.nf
  have hle := hh.le
  have ho := h.g.obFit (e.g.find (e.g.fn i)).toNat
  have hb := h.g.obFit e.bi
  unfold vintE
  split
  · exact w64_fits _
  · exact ⟨by omega, by omega⟩
  · exact h.g.find_fits
  · exact h.g.fnFit i
  · exact ⟨by omega, by omega⟩
  · exact ⟨by omega, by omega⟩
  · exact ho.id
  · exact ho.card
  · exact ho.ctrl
  · exact ho.st
  · exact hb.card
  · exact i64_0
theorem cint_fits (h : e.OK id w) (k : Nat) : I64 (cintE e id k) := by
  have hn := h.g.nf
  have hm := h.g.no
  have hbi := h.bi
  have hle := h.le
  have hb := h.g.obFit e.bi
  have h0 := h.e0_fit.1
  unfold cintE
  split
  · exact ⟨by omega, by omega⟩
  · exact h.id
  · exact ⟨by omega, by omega⟩
  · exact ⟨by omega, by omega⟩
  · exact ⟨by omega, by omega⟩
  · exact ⟨by omega, by omega⟩
  · exact ⟨by omega, by omega⟩
  · exact ⟨by omega, by omega⟩
  · exact hb.id
  · exact hb.card
  · exact hb.ctrl
  · exact hb.st
  · exact ⟨by omega, by omega⟩
  · exact h0.op
  · exact h0.a
  · exact h0.b
  · exact h0.st
  · exact i64_0
theorem er_fitsE (h : e.OK id w) (hh : Hw e i l) (k : Nat) : I64 ((erE e id i l).int k) := by
  show I64 (if k < 140 then cintE e id k else vintE e i l (k - 140))
  split
  · exact cint_fits h k
  · exact vint_fits h hh _
end
end
end Go.Proofs.Ytgbhmkdldfhamaa.order
namespace Go.Proofs.Ytgbhmkdldfhamaa.order
open Go.Ev Go.RowKit
set_option linter.unusedVariables false
noncomputable section
section
variable {w : World} {e : EfG} {id : Int} {i : Nat} {l : List Eff}
theorem find_ge (g : StG) (n : Int) : -1 ≤ g.find n := by
  unfold StG.find
  rcases fixI_in (hasId n) g.os 0 with ⟨h, _⟩ | h
  · exact h
  · rw [h]; exact Int.le_refl _
theorem find_lt (g : StG) (n : Int) : g.find n < g.os.length := by
  unfold StG.find
  rcases fixI_in (hasId n) g.os 0 with ⟨_, h⟩ | h
  · omega
  · rw [h]; simp [fixI]
set_option maxRecDepth 4000 in
theorem iv_ef (h : e.OK id w) (hh : Hw e i l) : IvOK efiv1 (erE e id i l) := by
  have f := er_fitsE (i := i) (l := l) h hh
  have hp := hh.padlen
  have hl := pad_pos l
  have hn := h.g.nf
  have hm := h.g.no
  have hbi := h.bi
  have hle := hh.le
  have hef := h.le
  have h1 := find_ge e.g (e.g.fn i)
  have h2 := find_lt e.g (e.g.fn i)
  have h0 := h.e0_fit.2
  have s2 : (0 : Int) ≤ (erE e id i l).int 2 ∧ (erE e id i l).int 2 ≤ 1000000 := by rw [ec 2 (by omega)]; show (0 : Int) ≤ (e.g.fs.length : Int) ∧ (e.g.fs.length : Int) ≤ 1000000; omega
  have s13 : (0 : Int) ≤ (erE e id i l).int 13 ∧ (erE e id i l).int 13 ≤ 1000000 := by rw [ec 13 (by omega)]; show (0 : Int) ≤ (e.bi : Int) ∧ (e.bi : Int) ≤ 1000000; omega
  have s14 : (0 : Int) ≤ (erE e id i l).int 14 ∧ (erE e id i l).int 14 ≤ 1000000 := by rw [ec 14 (by omega)]; show (0 : Int) ≤ (e.g.os.length : Int) ∧ (e.g.os.length : Int) ≤ 1000000; omega
  have s91 : (4 : Int) ≤ (erE e id i l).int 91 ∧ (erE e id i l).int 91 ≤ 4 := by rw [ec 91 (by omega)]; exact ⟨Int.le_refl _, Int.le_refl _⟩
  have s101 : (1 : Int) ≤ (erE e id i l).int 101 ∧ (erE e id i l).int 101 ≤ 1 := by rw [ec 101 (by omega)]; exact ⟨Int.le_refl _, Int.le_refl _⟩
  have s102 : (1 : Int) ≤ (erE e id i l).int 102 ∧ (erE e id i l).int 102 ≤ 1 := by rw [ec 102 (by omega)]; exact ⟨Int.le_refl _, Int.le_refl _⟩
  have s103 : (2 : Int) ≤ (erE e id i l).int 103 ∧ (erE e id i l).int 103 ≤ 2 := by rw [ec 103 (by omega)]; exact ⟨Int.le_refl _, Int.le_refl _⟩
  have s121 : (0 : Int) ≤ (erE e id i l).int 121 ∧ (erE e id i l).int 121 ≤ 3 := by rw [ec 121 (by omega)]; exact ⟨h.c0, h.c3⟩
  have s134 : (0 : Int) ≤ (erE e id i l).int 134 ∧ (erE e id i l).int 134 ≤ 1 := by rw [ec 134 (by omega)]; show (0 : Int) ≤ (e.effs.length : Int) ∧ (e.effs.length : Int) ≤ 1; omega
  have s135 : (1 : Int) ≤ (erE e id i l).int 135 ∧ (erE e id i l).int 135 ≤ 4 := by rw [ec 135 (by omega)]; exact h0
  have s150 : (0 : Int) ≤ (erE e id i l).int 150 ∧ (erE e id i l).int 150 ≤ 1000000 := by rw [show 150 = 140 + 10 from rfl, ev 10]; show (0 : Int) ≤ (i : Int) ∧ (i : Int) ≤ 1000000; omega
  have s152 : (-1 : Int) ≤ (erE e id i l).int 152 ∧ (erE e id i l).int 152 ≤ 1000000 := by rw [show 152 = 140 + 12 from rfl, ev 12]; show (-1 : Int) ≤ e.g.find (e.g.fn i) ∧ e.g.find (e.g.fn i) ≤ 1000000; omega
  have s156 : (1 : Int) ≤ (erE e id i l).int 156 ∧ (erE e id i l).int 156 ≤ 19 := by rw [show 156 = 140 + 16 from rfl, ev 16]; show (1 : Int) ≤ ((pad l).length : Int) ∧ ((pad l).length : Int) ≤ 19; omega
  have s158 : (1 : Int) ≤ (erE e id i l).int 158 ∧ (erE e id i l).int 158 ≤ 19 := by rw [show 158 = 140 + 18 from rfl, ev 18]; show (1 : Int) ≤ ((pad l).length : Int) + 1 ∧ ((pad l).length : Int) + 1 ≤ 19; omega
  refine iv_all (f := (erE e id i l).int) ?_ f
  unfold efiv1
  exact ⟨f 0, f 1, s2, f 3, f 4, f 5, f 6, f 7, f 8, f 9, f 10, f 11, f 12, s13, s14, f 15, f 16, f 17, f 18, f 19, f 20, f 21, f 22, f 23, f 24, f 25, f 26, f 27, f 28, f 29, f 30, f 31, f 32, f 33, f 34, f 35, f 36, f 37, f 38, f 39, f 40, f 41, f 42, f 43, f 44, f 45, f 46, f 47, f 48, f 49, f 50, f 51, f 52, f 53, f 54, f 55, f 56, f 57, f 58, f 59, f 60, f 61, f 62, f 63, f 64, f 65, f 66, f 67, f 68, f 69, f 70, f 71, f 72, f 73, f 74, f 75, f 76, f 77, f 78, f 79, f 80, f 81, f 82, f 83, f 84, f 85, f 86, f 87, f 88, f 89, f 90, s91, f 92, f 93, f 94, f 95, f 96, f 97, f 98, f 99, f 100, s101, s102, s103, f 104, f 105, f 106, f 107, f 108, f 109, f 110, f 111, f 112, f 113, f 114, f 115, f 116, f 117, f 118, f 119, f 120, s121, f 122, f 123, f 124, f 125, f 126, f 127, f 128, f 129, f 130, f 131, f 132, f 133, s134, s135, f 136, f 137, f 138, f 139, f 140, f 141, f 142, f 143, f 144, f 145, f 146, f 147, f 148, f 149, s150, f 151, s152, f 153, f 154, f 155, s156, f 157, s158, f 159, f 160, f 161, f 162, f 163, f 164, f 165, f 166, f 167, f 168, f 169, f 170, f 171, f 172, f 173, f 174, f 175, f 176, f 177, f 178, f 179, trivial⟩
theorem fact_atC {ρ : Rho} {B O l c size j n : Nat} {x : VV} {a : Option Addr} (hx : sval ρ x = some (.slice a l c)) (ha : a = some ⟨B, O, none⟩) (hn : n < l) (hb : ρ.blk j = B) (ho : ρ.off j = O + n * size) : FactOK ρ (.at size x (.int .i64 (n : Int)) ⟨.sym j, 0⟩) := by
  subst ha
  exact ⟨⟨B, O, none⟩, l, c, .i64, n, j, hx, rfl, rfl, by omega, by omega, rfl, hb, by rw [ho]; rfl⟩
theorem fact_lenV {ρ : Rho} {k n : Nat} {a : Option Addr} {c j : Nat} (hv : ρ.val k = .slice a n c) (hi : ρ.int j = (n : Int)) : FactOK ρ (.len false (.sym k) (si j)) := fact_len (show sval ρ (.sym k) = some (.slice a n c) by simp only [sval, hv]) hi
theorem fact_atV {ρ : Rho} {k n l c size j B O : Nat} (hv : ρ.val k = .slice (some ⟨B, O, none⟩) l c) (hn : n < l) (hb : ρ.blk j = B) (ho : ρ.off j = O + n * size) : FactOK ρ (.at size (.sym k) (.int .i64 (n : Int)) ⟨.sym j, 0⟩) :=
  fact_atC (a := some ⟨B, O, none⟩) (show sval ρ (.sym k) = some (.slice (some ⟨B, O, none⟩) l c) by simp only [sval, hv]) rfl hn hb ho
theorem osV_at (h : e.g.OK w) {n : Nat} (hn : n < e.g.os.length) : e.g.osV = .slice (some ⟨e.g.oB, e.g.oO, none⟩) e.g.os.length e.g.oc := by
  unfold StG.osV
  rw [(h.co n _ (ob_of hn)).1]
theorem fsV_at (h : e.g.OK w) {n : Nat} (hn : n < e.g.fs.length) : e.g.fsV = .slice (some ⟨e.g.fB, e.g.fO, none⟩) e.g.fs.length e.g.fc := by
  unfold StG.fsV
  rw [(h.cf n _ (fn_of hn)).1]
theorem efF_ok (h : e.OK id w) : FsOK efF (erE e id i l) := by
  have v41 : (erE e id i l).val 41 = e.g.osV := evc 41 (by omega)
  have v46 : (erE e id i l).val 46 = e.g.fsV := evc 46 (by omega)
  have v90 : (erE e id i l).val 90 = .slice (some ⟨e.p.cB, e.p.cO, none⟩) 4 e.p.cc := evc 90 (by omega)
  have v97 : (erE e id i l).val 97 = .slice (some ⟨e.p.aB 1, e.p.aO 1, none⟩) 1 (e.p.ac 1) := evc 97 (by omega)
  have v98 : (erE e id i l).val 98 = .slice (some ⟨e.p.aB 2, e.p.aO 2, none⟩) 1 (e.p.ac 2) := evc 98 (by omega)
  have v99 : (erE e id i l).val 99 = .slice (some ⟨e.p.aB 3, e.p.aO 3, none⟩) 2 (e.p.ac 3) := evc 99 (by omega)
  refine fs_cons (fact_lenV (n := e.g.fs.length) v46 (ec 2 (by omega))) (fs_cons (fact_lenV (n := e.g.os.length) v41 (ec 14 (by omega))) (fs_cons (fact_lenV v90 (ec 91 (by omega))) ?_))
  refine fs_cons (fact_atV (n := 0) v90 (by omega) (ebc 92 (by omega)) ?_) (fs_cons (fact_atV (n := 1) v90 (by omega) (ebc 93 (by omega)) ?_) (fs_cons (fact_atV (n := 2) v90 (by omega) (ebc 94 (by omega)) ?_) (fs_cons (fact_atV (n := 3) v90 (by omega) (ebc 95 (by omega)) ?_) ?_)))
  · rw [eoc 92 (by omega)]; show e.p.cO = e.p.cO + 0 * 11; omega
  · rw [eoc 93 (by omega)]; rfl
  · rw [eoc 94 (by omega)]; rfl
  · rw [eoc 95 (by omega)]; rfl
  refine fs_cons (fact_lenV v97 (ec 101 (by omega))) (fs_cons (fact_lenV v98 (ec 102 (by omega))) (fs_cons (fact_lenV v99 (ec 103 (by omega))) ?_))
  refine fs_cons (fact_atV (n := 0) v97 (by omega) (ebc 104 (by omega)) ?_) (fs_cons (fact_atV (n := 0) v98 (by omega) (ebc 105 (by omega)) ?_) (fs_cons (fact_atV (n := 0) v99 (by omega) (ebc 106 (by omega)) ?_) (fs_cons (fact_atV (n := 1) v99 (by omega) (ebc 107 (by omega)) ?_) ?_)))
  · rw [eoc 104 (by omega)]; show e.p.aO 1 = e.p.aO 1 + 0 * 13; omega
  · rw [eoc 105 (by omega)]; show e.p.aO 2 = e.p.aO 2 + 0 * 13; omega
  · rw [eoc 106 (by omega)]; show e.p.aO 3 = e.p.aO 3 + 0 * 13; omega
  · rw [eoc 107 (by omega)]; rfl
  refine fs_cons (fact_at (n := e.bi) (B := e.g.oB) (O := e.g.oO) (l := e.g.os.length) (c := e.g.oc) ?_ (ec 13 (by omega)) h.bi (ebc 7 (by omega)) (eoc 7 (by omega))) fs_nil
  show some _ = _
  rw [v41, osV_at h.g h.bi]
theorem efEl_ok (h : e.OK id w) (hi : i < e.g.fs.length) : FsOK efEl (erE e id i l) := by
  have v46 : (erE e id i l).val 46 = e.g.fsV := evc 46 (by omega)
  refine fs_cons (fact_at (n := i) (B := e.g.fB) (O := e.g.fO) (l := e.g.fs.length) (c := e.g.fc) ?_ (ev 10) hi (ebv 17) ?_) (fs_cons (fact_addW rfl ?_) fs_nil)
  · show some _ = _
    rw [v46, fsV_at h.g hi]
  · rw [show 157 = 140 + 17 from rfl, eov 17]
    show e.g.fO + i = e.g.fO + i * 1
    omega
  · rw [show 149 = 140 + 9 from rfl, ev 9, show 150 = 140 + 10 from rfl, ev 10]
    rfl
theorem efAc_ok (h : e.OK id w) (h0 : 0 ≤ e.g.find (e.g.fn i)) : FsOK efAc (erE e id i l) := by
  have v41 : (erE e id i l).val 41 = e.g.osV := evc 41 (by omega)
  have h2 := find_lt e.g (e.g.fn i)
  have hlt : (e.g.find (e.g.fn i)).toNat < e.g.os.length := by omega
  refine fs_cons (fact_at (n := (e.g.find (e.g.fn i)).toNat) (B := e.g.oB) (O := e.g.oO) (l := e.g.os.length) (c := e.g.oc) ?_ ?_ hlt (ebv 11) (eov 11)) fs_nil
  · show some _ = _
    rw [v41, osV_at h.g hlt]
  · rw [show 152 = 140 + 12 from rfl, ev 12]
    show e.g.find (e.g.fn i) = _
    omega
end
end
end Go.Proofs.Ytgbhmkdldfhamaa.order
namespace Go.Proofs.Ytgbhmkdldfhamaa.order
open Go.Ev Go.RowKit
set_option linter.unusedVariables false
noncomputable section
def Ob.cells (x : Ob) : List Value := [x.cell 0, x.cell 1, x.cell 2, x.cell 3, x.cell 4, x.cell 5, x.cell 6, x.cell 7, x.cell 8, x.cell 9, x.cell 10, x.cell 11, x.cell 12, x.cell 13]
section
variable {w : World} {e : EfG} {id : Int} {i : Nat} {l : List Eff}
theorem ob_cells {g : StG} (h : g.OK w) {n : Nat} (hn : n < g.os.length) : CellsAt w g.oB (g.oO + n * 14) (g.ob n).cells := by
  obtain ⟨g1, g2, g3⟩ := h.co n _ (ob_of hn)
  refine ⟨g2, fun j v hj => ?_⟩
  have : j < 14 ∧ (g.ob n).cell j = v := by
    unfold Ob.cells at hj
    match j with
    | 0 => cases hj; exact ⟨by omega, rfl⟩
    | 1 => cases hj; exact ⟨by omega, rfl⟩
    | 2 => cases hj; exact ⟨by omega, rfl⟩
    | 3 => cases hj; exact ⟨by omega, rfl⟩
    | 4 => cases hj; exact ⟨by omega, rfl⟩
    | 5 => cases hj; exact ⟨by omega, rfl⟩
    | 6 => cases hj; exact ⟨by omega, rfl⟩
    | 7 => cases hj; exact ⟨by omega, rfl⟩
    | 8 => cases hj; exact ⟨by omega, rfl⟩
    | 9 => cases hj; exact ⟨by omega, rfl⟩
    | 10 => cases hj; exact ⟨by omega, rfl⟩
    | 11 => cases hj; exact ⟨by omega, rfl⟩
    | 12 => cases hj; exact ⟨by omega, rfl⟩
    | 13 => cases hj; exact ⟨by omega, rfl⟩
    | j + 14 => simp at hj
  rw [← this.2]
  exact g3 j this.1
theorem efB_ok (h : e.OK id w) {iv : Ivs} (h1 : IvOK iv (erE e id i l)) (φ : Phi) (hφ : φ.ρ = erE e id i l) (bl ba : Bool) (hl : bl = true → i < e.g.fs.length) (ha : ba = true → 0 ≤ e.g.find (e.g.fn i)) (k : Nat) (cs : List VV) (hk : efB iv bl ba k = some cs) :
    φ.ρ.blk k < w.heap.size ∧ ∀ j x, cs[j]? = some x → ∃ v, w.cell? ⟨φ.ρ.blk k, φ.ρ.off k + j, none⟩ = some v ∧ VR φ x v := by
  have hc : ∀ {k : Nat}, k < 140 → VR φ (si k) (.int .i64 (cintE e id k)) := fun {k} hk => by simp only [si, VR, hφ, ec k hk]
  have hv : ∀ (k : Nat), VR φ (si (140 + k)) (.int .i64 (vintE e i l k)) := fun k => by simp only [si, VR, hφ, ev k]
  have uc : ∀ {k : Nat}, k < 140 → VR φ (.sym k) (cvalE e k) := fun {k} hk => by simp only [VR, hφ, evc k hk]
  have uv : ∀ (k : Nat), VR φ (.sym (140 + k)) (vvalE e i k) := fun k => by simp only [VR, hφ, evv k]
  have iv' : ∀ k, VR φ (sv iv .i64 k) (.int .i64 ((erE e id i l).int k)) := fun k => by have := VR_sv (φ := φ) (iv := iv) (by rw [hφ]; exact h1) .i64 k; rw [hφ] at this; exact this
  have go : ∀ {B O : Nat} {vs : List Value}, φ.ρ.blk k = B → φ.ρ.off k = O → CellsAt w B O vs → VRs φ cs vs → φ.ρ.blk k < w.heap.size ∧ ∀ j x, cs[j]? = some x → ∃ v, w.cell? ⟨φ.ρ.blk k, φ.ρ.off k + j, none⟩ = some v ∧ VR φ x v := fun e1 e2 h3 h4 => by
    rw [e1, e2]
    exact cells_blk h3 h4
  unfold efB at hk
  split at hk
  · -- the field's number
    split at hk
    · cases hk
      have hi := hl rfl
      obtain ⟨g1, g2, g3⟩ := h.g.cf i _ (fn_of hi)
      refine go (B := e.g.fB) (O := e.g.fO + i) (vs := [.int .i64 (e.g.fn i)]) (by rw [hφ]; exact ebv 17) (by rw [hφ]; exact eov 17) ⟨g2, fun j v hj => ?_⟩ (cons_VR (hv 15) nil_VR)
      match j with
      | 0 => cases hj; exact g3
      | j + 1 => simp at hj
    · cases hk
  · -- the object
    split at hk
    · cases hk
      have h0 := ha rfl
      have h2 := find_lt e.g (e.g.fn i)
      have hlt : (e.g.find (e.g.fn i)).toNat < e.g.os.length := by omega
      refine go (by rw [hφ]; exact ebv 11) (by rw [hφ]; exact eov 11) (ob_cells h.g hlt) ?_
      have c1 : VR φ (sv iv .i64 161) (.int .i64 (e.g.ob (e.g.find (e.g.fn i)).toNat).card) := by
        have := iv' 161
        rw [show 161 = 140 + 21 from rfl, ev 21] at this
        exact this
      exact cons_VR (hv 20) (cons_VR c1 (cons_VR (uv 22) (cons_VR (hv 23) (cons_VR (uv 24) (cons_VR (uv 25) (cons_VR (uv 26) (cons_VR (uv 27) (cons_VR (uv 28) (cons_VR (hv 29) (cons_VR (uv 30) (cons_VR (uv 31) (cons_VR (uv 32) (cons_VR (uv 33) nil_VR)))))))))))))
    · cases hk
  · -- the beast
    cases hk
    refine go (by rw [hφ]; exact ebc 7 (by omega)) (by rw [hφ]; exact eoc 7 (by omega)) (ob_cells h.g h.bi) ?_
    have c1 : VR φ (sv iv .i64 121) (.int .i64 e.b.card) := by
      have := iv' 121
      rw [ec 121 (by omega)] at this
      exact this
    have c13 : VR φ (match decide ((ivAt iv 134).1 = 1), decide ((ivAt iv 134).2 = 0) with | true, _ => VV.slice (some ⟨.sym 8, 0⟩) 1 1 | false, true => .slice none 0 0 | false, false => .sym 133) (e.b.cell 13) := by
      have hiv := h1 134
      rw [ec 134 (by omega)] at hiv
      have hiv' : (ivAt iv 134).1 ≤ (e.effs.length : Int) ∧ (e.effs.length : Int) ≤ (ivAt iv 134).2 := hiv
      split
      · rename_i _ g1
        have g1 := of_decide_eq_true g1
        have heq : e.b.cell 13 = e.b.eff := rfl
        rw [heq, h.eff]
        cases he : e.effs with
        | nil => rw [he] at hiv'; simp at hiv'; omega
        | cons x l =>
          simp only [VR, AR, hφ]
          refine ⟨⟨e.eB, e.eO, none⟩, 0, ⟨?_, rfl⟩, rfl⟩
          rw [ebc 8 (by omega), eoc 8 (by omega)]
          show _ = (⟨e.e0B, e.e0O + 0, none⟩ : Addr)
          unfold EfG.e0B EfG.e0O
          rw [he]
          rfl
      · rename_i g1 g2
        have g2 := of_decide_eq_true g2
        have heq : e.b.cell 13 = e.b.eff := rfl
        rw [heq, h.eff]
        cases he : e.effs with
        | nil => simp only [VR]
        | cons x l => rw [he] at hiv'; simp at hiv'; omega
      · exact uc (by omega)
    exact cons_VR (hc (by omega)) (cons_VR c1 (cons_VR (uc (by omega)) (cons_VR (hc (by omega)) (cons_VR (uc (by omega)) (cons_VR (uc (by omega)) (cons_VR (uc (by omega)) (cons_VR (uc (by omega)) (cons_VR (uc (by omega)) (cons_VR (hc (by omega)) (cons_VR (uc (by omega)) (cons_VR (uc (by omega)) (cons_VR (uc (by omega)) (cons_VR c13 nil_VR)))))))))))))
  · cases hk
    exact go (by rw [hφ]; exact ebc 8 (by omega)) (by rw [hφ]; exact eoc 8 (by omega)) h.e0_cells (cons_VR (hc (by omega)) (cons_VR (hc (by omega)) (cons_VR (hc (by omega)) (cons_VR (hc (by omega)) nil_VR))))
  · cases hk
    have h0 := h.p.card 0 (by omega)
    rw [show e.p.cO + 0 * 11 = e.p.cO by omega] at h0
    exact go (by rw [hφ]; exact ebc 92 (by omega)) (by rw [hφ]; exact eoc 92 (by omega)) h0 (card_VR (by simp only [VR]; rfl) (by simp only [VR]))
  · cases hk
    exact go (by rw [hφ]; exact ebc 93 (by omega)) (by rw [hφ]; exact eoc 93 (by omega)) (h.p.card 1 (by omega)) (card_VR (by simp only [VR]; rfl) (uc (by omega)))
  · cases hk
    exact go (by rw [hφ]; exact ebc 94 (by omega)) (by rw [hφ]; exact eoc 94 (by omega)) (h.p.card 2 (by omega)) (card_VR (by simp only [VR]; rfl) (uc (by omega)))
  · cases hk
    exact go (by rw [hφ]; exact ebc 95 (by omega)) (by rw [hφ]; exact eoc 95 (by omega)) (h.p.card 3 (by omega)) (card_VR (by simp only [VR]; rfl) (uc (by omega)))
  · cases hk
    exact go (by rw [hφ]; exact ebc 104 (by omega)) (by rw [hφ]; exact eoc 104 (by omega)) h.p.lord ab_VR
  · cases hk
    exact go (by rw [hφ]; exact ebc 105 (by omega)) (by rw [hφ]; exact eoc 105 (by omega)) h.p.shri ab_VR
  · cases hk
    exact go (by rw [hφ]; exact ebc 106 (by omega)) (by rw [hφ]; exact eoc 106 (by omega)) h.p.kit0 ab_VR
  · cases hk
    exact go (by rw [hφ]; exact ebc 107 (by omega)) (by rw [hφ]; exact eoc 107 (by omega)) h.p.kit1 ab_VR
  · cases hk
theorem ef_ok (h : e.OK id w) (iv : Ivs) (fs : List Fact) (h1 : IvOK iv (erE e id i l)) (h2 : FsOK fs (erE e id i l)) (φ : Phi) (hφ : φ.ρ = erE e id i l) : EnvP (Eef iv fs) φ w := by
  have e2 : (erE e id i l).int 2 = (e.g.fs.length : Int) := ec 2 (by omega)
  have e10 : (erE e id i l).int 150 = (i : Int) := ev 10
  have e12 : (erE e id i l).int 152 = e.g.find (e.g.fn i) := ev 12
  have hF := efF_ok (i := i) (l := l) h
  unfold Eef
  split
  · rename_i g1 g2
    have hi : i < e.g.fs.length := by have := lss_has w g1 h2; omega
    have h0 : 0 ≤ e.g.find (e.g.fn i) := by
      have := of_decide_eq_true g2
      have h3 := (h1 152).1
      omega
    exact ⟨by rw [hφ]; exact h1, by rw [hφ]; exact fs_app h2 (fs_app (fs_app hF (efEl_ok h hi)) (efAc_ok h h0)), efB_ok h h1 φ hφ true true (fun _ => hi) (fun _ => h0)⟩
  · rename_i g1 g2
    have hi : i < e.g.fs.length := by have := lss_has w g1 h2; omega
    exact ⟨by rw [hφ]; exact h1, by rw [hφ]; exact fs_app h2 (fs_app hF (efEl_ok h hi)), efB_ok h h1 φ hφ true false (fun _ => hi) (fun g => by cases g)⟩
  · exact ⟨by rw [hφ]; exact h1, by rw [hφ]; exact fs_app h2 hF, efB_ok h h1 φ hφ false false (fun g => by cases g) (fun g => by cases g)⟩
end
end
end Go.Proofs.Ytgbhmkdldfhamaa.order
