/-
  What a beast is (chars.Of), over the small pool: what the kernel runs; facts at symbols that do not change.
-/
import Derived.Test.YtgbhmkdldfhamaaTxD
namespace Go.Proofs.Ytgbhmkdldfhamaa.order
open Go.Ev Go.RowKit
set_option linter.unusedVariables false
noncomputable section
def ofE : KE2 := ⟨13, [.sym 90, stV, si 3], 7, [], .lsl 7 158 0, [(7, .list 144 158 4 [] none)], 8⟩
def oniv0 : Go.Ev.Ivs := [bI, bI, (0, 1000000), bI, bI, bI, bI, bI, bI, bI, bI, bI, bI, (0, 1000000), (0, 1000000), bI, bI, bI, bI, bI, bI, bI, bI, bI, bI, bI, bI, bI, bI, bI, bI, bI, bI, bI, bI, bI, bI, bI, bI, bI, bI, bI, bI, bI, bI, bI, bI, bI, bI, bI, bI, bI, bI, bI, bI, bI, bI, bI, bI, bI, bI, bI, bI, bI, bI, bI, bI, bI, bI, bI, bI, bI, bI, bI, bI, bI, bI, bI, bI, bI, bI, bI, bI, bI, bI, bI, bI, bI, bI, bI, bI, (4, 4), bI, bI, bI, bI, bI, bI, bI, bI, bI, (1, 1), (1, 1), (2, 2), bI, bI, bI, bI, bI, bI, bI, bI, bI, bI, bI, bI, bI, bI, bI, bI, bI, (0, 2), bI, bI, bI, bI, bI, bI, bI, bI, bI, bI, bI, bI, (0, 1), (1, 4), bI, bI, bI, bI, bI, bI, bI, bI, bI, bI, bI, bI, bI, bI, (0, 1000000), bI, (-1, 1000000), bI, bI, bI, (1, 19), bI, (1, 19), bI, bI, bI, bI, bI, bI, bI, bI, bI, bI, bI, bI, bI, bI, bI, bI, bI, bI, bI, bI, bI, bI, bI, bI, bI, bI, bI, bI, bI, bI, bI]
def ont0 : Go.Ev.TrX Go.Ev.Leaf := (.cut 134 (0) (.cut 121 (0) (.leaf (.goto 1 [(.sint .i64 178), (.sint .i64 177), (.sint .i64 176)])) (.cut 121 (1) (.leaf (.goto 1 [(.sint .i64 178), (.sint .i64 177), (.sint .i64 176)])) (.leaf (.goto 2 [])))) (.cut 121 (0) (.leaf (.goto 1 [(.sint .i64 178), (.sint .i64 177), (.sint .i64 176)])) (.cut 121 (1) (.leaf (.goto 1 [(.sint .i64 178), (.sint .i64 177), (.sint .i64 176)])) (.leaf (.goto 2 [])))))
def onc0 : Go.Ev.CutP := ⟨none, (.nd (.nd .lf (some (.agg [(.sym 60), (.sym 41), (.sym 62), (.sym 63), (.sym 64), (.sym 65), (.sym 46), (.sym 67), (.sym 68), (.sym 69), (.sym 70), (.sym 71), (.sym 72), (.sym 73), (.sym 74), (.sym 75), (.sym 76), (.sym 77), (.sym 78), (.sym 79), (.sym 80), (.sym 81), (.sym 82), (.sym 83), (.sym 84)])) .lf) (some (.sym 90)) (.nd .lf (some (.sint .i64 3)) .lf)), .lf, 0, 0, [], oniv0, Eef, ont0⟩
def oniv1 : Go.Ev.Ivs := []
def ont1 : Go.Ev.TrX Go.Ev.Leaf := (.leaf (.ret .any))
def onc1 : Go.Ev.CutP := ⟨none, (.nd .lf (some (.tuple [(.agg [(.sint .i64 176), (.sint .i64 177), (.sint .i64 178)]), (.bool true)])) .lf), .lf, 0, 0, [(.sint .i64 178), (.sint .i64 177), (.sint .i64 176)], oniv1, Emt, ont1⟩
def oniv2 : Go.Ev.Ivs := []
def ont2 : Go.Ev.TrX Go.Ev.Leaf := (.leaf (.ret .any))
def onc2 : Go.Ev.CutP := ⟨none, (.nd .lf (some (.tuple [(.agg [(.int .i64 (0)), (.int .i64 (0)), (.int .i64 (0))]), (.bool false)])) .lf), .lf, 0, 0, [], oniv2, Emt, ont2⟩
def onKT : List Go.Ev.KE := [⟨26, [(.agg [(.sym 60), (.sym 41), (.sym 62), (.sym 63), (.sym 64), (.sym 65), (.sym 46), (.sym 67), (.sym 68), (.sym 69), (.sym 70), (.sym 71), (.sym 72), (.sym 73), (.sym 74), (.sym 75), (.sym 76), (.sym 77), (.sym 78), (.sym 79), (.sym 80), (.sym 81), (.sym 82), (.sym 83), (.sym 84)]), (.sint .i64 3)], [], (.sint .i64 13)⟩, ⟨38, [(.sym 46), (.sint .i64 3)], [], (.bool true)⟩, ⟨13, [(.sym 90), (.agg [(.sym 60), (.sym 41), (.sym 62), (.sym 63), (.sym 64), (.sym 65), (.sym 46), (.sym 67), (.sym 68), (.sym 69), (.sym 70), (.sym 71), (.sym 72), (.sym 73), (.sym 74), (.sym 75), (.sym 76), (.sym 77), (.sym 78), (.sym 79), (.sym 80), (.sym 81), (.sym 82), (.sym 83), (.sym 84)]), (.sint .i64 3)], [], (.slice none 0 0)⟩, ⟨18, [(.agg [(.int .i64 (2)), (.int .i64 (2)), (.int .i64 (0))]), (.slice none 0 0)], [], (.agg [(.sint .i64 176), (.sint .i64 177), (.sint .i64 178)])⟩]
def onK2 : List Go.Ev.KE2 := []
def onC : List Go.Ev.CutP := [onc0, onc1, onc2]
def onbody : Code := match Try.f10.body with | some c => c | none => .skip
def onlf (c : Go.Ev.CutP) : Go.Ev.Ivs → List Go.Ev.Fact → Go.Ev.Leaf → Bool := Go.Ev.chkLfH Try.prog (Go.Ev.rcKA Try.prog onKT onK2 20000) Try.f10.ntmps [] 1000 Try.f10.results.toList onbody onC 0 c
theorem onk0 : Go.Ev.chkX (onlf onc0) ont0 oniv0 [] = true := by kernel_rfl
theorem onauto : @Go.Ev.AutoH (Go.Ev.extKA Try.prog onKT onK2) Try.prog (Go.Ev.rcKA Try.prog onKT onK2 20000) Try.f10 onbody [] 1000 onC (fun _ => none) 0 := Go.Ev.auto_ofH noNG mixed (by kernel_rfl) ⟨.inr onk0, .inl rfl, .inl rfl, trivial⟩ ⟨Eef_blk, (fun _ _ => rfl), (fun _ _ => rfl), trivial⟩
def oliv0 : Go.Ev.Ivs := [bI, bI, (0, 1000000), bI, bI, bI, bI, bI, bI, bI, bI, bI, bI, (0, 1000000), (0, 1000000), bI, bI, bI, bI, bI, bI, bI, bI, bI, bI, bI, bI, bI, bI, bI, bI, bI, bI, bI, bI, bI, bI, bI, bI, bI, bI, bI, bI, bI, bI, bI, bI, bI, bI, bI, bI, bI, bI, bI, bI, bI, bI, bI, bI, bI, bI, bI, bI, bI, bI, bI, bI, bI, bI, bI, bI, bI, bI, bI, bI, bI, bI, bI, bI, bI, bI, bI, bI, bI, bI, bI, bI, bI, bI, bI, bI, (4, 4), bI, bI, bI, bI, bI, bI, bI, bI, bI, (1, 1), (1, 1), (2, 2), bI, bI, bI, bI, bI, bI, bI, bI, bI, bI, bI, bI, bI, bI, bI, bI, bI, (0, 2), bI, bI, bI, bI, bI, bI, bI, bI, bI, bI, bI, bI, (0, 1), (1, 4), bI, bI, bI, bI, bI, bI, bI, bI, bI, bI, bI, bI, bI, bI, (0, 1000000), bI, (-1, 1000000), bI, bI, bI, (1, 19), bI, (1, 19), bI, bI, bI, bI, bI, bI, bI, bI, bI, bI, bI, bI, bI, bI, bI, bI, bI, bI, bI, bI, bI, bI, bI, bI, bI, bI, bI, bI, bI, bI, bI]
def olt0 : Go.Ev.TrX Go.Ev.Leaf := (.cut 134 (0) (.cut 121 (0) (.leaf (.goto 1 [(.sint .i64 178), (.sint .i64 177), (.sint .i64 176)])) (.cut 121 (1) (.leaf (.goto 1 [(.sint .i64 178), (.sint .i64 177), (.sint .i64 176)])) (.leaf (.goto 2 [])))) (.cut 121 (0) (.leaf (.goto 1 [(.sint .i64 178), (.sint .i64 177), (.sint .i64 176)])) (.cut 121 (1) (.leaf (.goto 1 [(.sint .i64 178), (.sint .i64 177), (.sint .i64 176)])) (.leaf (.goto 2 [])))))
def olc0 : Go.Ev.CutP := ⟨none, (.nd (.nd .lf (some (.agg [(.sym 60), (.sym 41), (.sym 62), (.sym 63), (.sym 64), (.sym 65), (.sym 46), (.sym 67), (.sym 68), (.sym 69), (.sym 70), (.sym 71), (.sym 72), (.sym 73), (.sym 74), (.sym 75), (.sym 76), (.sym 77), (.sym 78), (.sym 79), (.sym 80), (.sym 81), (.sym 82), (.sym 83), (.sym 84)])) .lf) (some (.sym 90)) (.nd .lf (some (.sint .i64 3)) .lf)), .lf, 0, 0, [], oliv0, Eef, olt0⟩
def oliv1 : Go.Ev.Ivs := []
def olt1 : Go.Ev.TrX Go.Ev.Leaf := (.leaf (.ret .any))
def olc1 : Go.Ev.CutP := ⟨none, (.nd .lf (some (.tuple [(.agg [(.sint .i64 176), (.sint .i64 177), (.sint .i64 178)]), (.bool true)])) .lf), .lf, 0, 0, [(.sint .i64 178), (.sint .i64 177), (.sint .i64 176)], oliv1, Emt, olt1⟩
def oliv2 : Go.Ev.Ivs := []
def olt2 : Go.Ev.TrX Go.Ev.Leaf := (.leaf (.ret .any))
def olc2 : Go.Ev.CutP := ⟨none, (.nd .lf (some (.tuple [(.agg [(.int .i64 (0)), (.int .i64 (0)), (.int .i64 (0))]), (.bool false)])) .lf), .lf, 0, 0, [], oliv2, Emt, olt2⟩
def olKT : List Go.Ev.KE := [⟨26, [(.agg [(.sym 60), (.sym 41), (.sym 62), (.sym 63), (.sym 64), (.sym 65), (.sym 46), (.sym 67), (.sym 68), (.sym 69), (.sym 70), (.sym 71), (.sym 72), (.sym 73), (.sym 74), (.sym 75), (.sym 76), (.sym 77), (.sym 78), (.sym 79), (.sym 80), (.sym 81), (.sym 82), (.sym 83), (.sym 84)]), (.sint .i64 3)], [], (.sint .i64 13)⟩, ⟨38, [(.sym 46), (.sint .i64 3)], [], (.bool true)⟩]
def olK2 : List Go.Ev.KE2 := [⟨13, [(.sym 90), (.agg [(.sym 60), (.sym 41), (.sym 62), (.sym 63), (.sym 64), (.sym 65), (.sym 46), (.sym 67), (.sym 68), (.sym 69), (.sym 70), (.sym 71), (.sym 72), (.sym 73), (.sym 74), (.sym 75), (.sym 76), (.sym 77), (.sym 78), (.sym 79), (.sym 80), (.sym 81), (.sym 82), (.sym 83), (.sym 84)]), (.sint .i64 3)], 7, [], (.lsl 7 158 0), [(7, (.list 144 158 4 [] none))], 8⟩, ⟨18, [(.agg [(.int .i64 (2)), (.int .i64 (2)), (.int .i64 (0))]), (.lsl 7 158 0)], 8, [(7, (.list 144 158 4 [] none))], (.agg [(.sint .i64 176), (.sint .i64 177), (.sint .i64 178)]), [(7, (.list 144 158 4 [] none))], 8⟩]
def olC : List Go.Ev.CutP := [olc0, olc1, olc2]
def olbody : Code := match Try.f10.body with | some c => c | none => .skip
def ollf (c : Go.Ev.CutP) : Go.Ev.Ivs → List Go.Ev.Fact → Go.Ev.Leaf → Bool := Go.Ev.chkLfH Try.prog (Go.Ev.rcKA Try.prog olKT olK2 20000) Try.f10.ntmps [] 1000 Try.f10.results.toList olbody olC 0 c
theorem olk0 : Go.Ev.chkX (ollf olc0) olt0 oliv0 [] = true := by kernel_rfl
theorem olauto : @Go.Ev.AutoH (Go.Ev.extKA Try.prog olKT olK2) Try.prog (Go.Ev.rcKA Try.prog olKT olK2 20000) Try.f10 olbody [] 1000 olC (fun _ => none) 0 := Go.Ev.auto_ofH noNG mixed (by kernel_rfl) ⟨.inr olk0, .inl rfl, .inl rfl, trivial⟩ ⟨Eef_blk, (fun _ _ => rfl), (fun _ _ => rfl), trivial⟩
def okiv0 : Go.Ev.Ivs := [bI, bI, (0, 1000000), bI, bI, bI, bI, bI, bI, bI, bI, bI, bI, (0, 1000000), (0, 1000000), bI, bI, bI, bI, bI, bI, bI, bI, bI, bI, bI, bI, bI, bI, bI, bI, bI, bI, bI, bI, bI, bI, bI, bI, bI, bI, bI, bI, bI, bI, bI, bI, bI, bI, bI, bI, bI, bI, bI, bI, bI, bI, bI, bI, bI, bI, bI, bI, bI, bI, bI, bI, bI, bI, bI, bI, bI, bI, bI, bI, bI, bI, bI, bI, bI, bI, bI, bI, bI, bI, bI, bI, bI, bI, bI, bI, (4, 4), bI, bI, bI, bI, bI, bI, bI, bI, bI, (1, 1), (1, 1), (2, 2), bI, bI, bI, bI, bI, bI, bI, bI, bI, bI, bI, bI, bI, bI, bI, bI, bI, (3, 3), bI, bI, bI, bI, bI, bI, bI, bI, bI, bI, bI, bI, (0, 1), (1, 4), bI, bI, bI, bI, bI, bI, bI, bI, bI, bI, bI, bI, bI, bI, (0, 1000000), bI, (-1, 1000000), bI, bI, bI, (1, 19), bI, (1, 19), bI, bI, bI, bI, bI, bI, bI, bI, bI, bI, bI, bI, bI, bI, bI, bI, bI, bI, bI, bI, bI, bI, bI, bI, bI, bI, bI, bI, bI, bI, bI]
def okt0 : Go.Ev.TrX Go.Ev.Leaf := (.cut 134 (0) (.leaf (.goto 1 [(.sint .i64 178), (.sint .i64 177), (.sint .i64 176)])) (.leaf (.goto 1 [(.sint .i64 178), (.sint .i64 177), (.sint .i64 176)])))
def okc0 : Go.Ev.CutP := ⟨none, (.nd (.nd .lf (some (.agg [(.sym 60), (.sym 41), (.sym 62), (.sym 63), (.sym 64), (.sym 65), (.sym 46), (.sym 67), (.sym 68), (.sym 69), (.sym 70), (.sym 71), (.sym 72), (.sym 73), (.sym 74), (.sym 75), (.sym 76), (.sym 77), (.sym 78), (.sym 79), (.sym 80), (.sym 81), (.sym 82), (.sym 83), (.sym 84)])) .lf) (some (.sym 90)) (.nd .lf (some (.sint .i64 3)) .lf)), .lf, 0, 0, [], okiv0, Eef, okt0⟩
def okiv1 : Go.Ev.Ivs := []
def okt1 : Go.Ev.TrX Go.Ev.Leaf := (.leaf (.ret .any))
def okc1 : Go.Ev.CutP := ⟨none, (.nd .lf (some (.tuple [(.agg [(.sint .i64 176), (.sint .i64 177), (.sint .i64 178)]), (.bool true)])) .lf), .lf, 0, 0, [(.sint .i64 178), (.sint .i64 177), (.sint .i64 176)], okiv1, Emt, okt1⟩
def okKT : List Go.Ev.KE := [⟨26, [(.agg [(.sym 60), (.sym 41), (.sym 62), (.sym 63), (.sym 64), (.sym 65), (.sym 46), (.sym 67), (.sym 68), (.sym 69), (.sym 70), (.sym 71), (.sym 72), (.sym 73), (.sym 74), (.sym 75), (.sym 76), (.sym 77), (.sym 78), (.sym 79), (.sym 80), (.sym 81), (.sym 82), (.sym 83), (.sym 84)]), (.sint .i64 3)], [], (.sint .i64 13)⟩, ⟨38, [(.sym 46), (.sint .i64 3)], [], (.bool true)⟩, ⟨13, [(.sym 90), (.agg [(.sym 60), (.sym 41), (.sym 62), (.sym 63), (.sym 64), (.sym 65), (.sym 46), (.sym 67), (.sym 68), (.sym 69), (.sym 70), (.sym 71), (.sym 72), (.sym 73), (.sym 74), (.sym 75), (.sym 76), (.sym 77), (.sym 78), (.sym 79), (.sym 80), (.sym 81), (.sym 82), (.sym 83), (.sym 84)]), (.sint .i64 3)], [], (.slice none 0 0)⟩, ⟨18, [(.agg [(.int .i64 (1)), (.int .i64 (1)), (.int .i64 (4))]), (.slice none 0 0)], [], (.agg [(.sint .i64 176), (.sint .i64 177), (.sint .i64 178)])⟩]
def okK2 : List Go.Ev.KE2 := []
def okC : List Go.Ev.CutP := [okc0, okc1]
def okbody : Code := match Try.f10.body with | some c => c | none => .skip
def oklf (c : Go.Ev.CutP) : Go.Ev.Ivs → List Go.Ev.Fact → Go.Ev.Leaf → Bool := Go.Ev.chkLfH Try.prog (Go.Ev.rcKA Try.prog okKT okK2 20000) Try.f10.ntmps [] 1000 Try.f10.results.toList okbody okC 0 c
theorem okk0 : Go.Ev.chkX (oklf okc0) okt0 okiv0 [] = true := by kernel_rfl
theorem okauto : @Go.Ev.AutoH (Go.Ev.extKA Try.prog okKT okK2) Try.prog (Go.Ev.rcKA Try.prog okKT okK2 20000) Try.f10 okbody [] 1000 okC (fun _ => none) 0 := Go.Ev.auto_ofH noNG mixed (by kernel_rfl) ⟨.inr okk0, .inl rfl, trivial⟩ ⟨Eef_blk, (fun _ _ => rfl), trivial⟩
def ojiv0 : Go.Ev.Ivs := [bI, bI, (0, 1000000), bI, bI, bI, bI, bI, bI, bI, bI, bI, bI, (0, 1000000), (0, 1000000), bI, bI, bI, bI, bI, bI, bI, bI, bI, bI, bI, bI, bI, bI, bI, bI, bI, bI, bI, bI, bI, bI, bI, bI, bI, bI, bI, bI, bI, bI, bI, bI, bI, bI, bI, bI, bI, bI, bI, bI, bI, bI, bI, bI, bI, bI, bI, bI, bI, bI, bI, bI, bI, bI, bI, bI, bI, bI, bI, bI, bI, bI, bI, bI, bI, bI, bI, bI, bI, bI, bI, bI, bI, bI, bI, bI, (4, 4), bI, bI, bI, bI, bI, bI, bI, bI, bI, (1, 1), (1, 1), (2, 2), bI, bI, bI, bI, bI, bI, bI, bI, bI, bI, bI, bI, bI, bI, bI, bI, bI, (3, 3), bI, bI, bI, bI, bI, bI, bI, bI, bI, bI, bI, bI, (0, 1), (1, 4), bI, bI, bI, bI, bI, bI, bI, bI, bI, bI, bI, bI, bI, bI, (0, 1000000), bI, (-1, 1000000), bI, bI, bI, (1, 19), bI, (1, 19), bI, bI, bI, bI, bI, bI, bI, bI, bI, bI, bI, bI, bI, bI, bI, bI, bI, bI, bI, bI, bI, bI, bI, bI, bI, bI, bI, bI, bI, bI, bI]
def ojt0 : Go.Ev.TrX Go.Ev.Leaf := (.cut 134 (0) (.leaf (.goto 1 [(.sint .i64 178), (.sint .i64 177), (.sint .i64 176)])) (.leaf (.goto 1 [(.sint .i64 178), (.sint .i64 177), (.sint .i64 176)])))
def ojc0 : Go.Ev.CutP := ⟨none, (.nd (.nd .lf (some (.agg [(.sym 60), (.sym 41), (.sym 62), (.sym 63), (.sym 64), (.sym 65), (.sym 46), (.sym 67), (.sym 68), (.sym 69), (.sym 70), (.sym 71), (.sym 72), (.sym 73), (.sym 74), (.sym 75), (.sym 76), (.sym 77), (.sym 78), (.sym 79), (.sym 80), (.sym 81), (.sym 82), (.sym 83), (.sym 84)])) .lf) (some (.sym 90)) (.nd .lf (some (.sint .i64 3)) .lf)), .lf, 0, 0, [], ojiv0, Eef, ojt0⟩
def ojiv1 : Go.Ev.Ivs := []
def ojt1 : Go.Ev.TrX Go.Ev.Leaf := (.leaf (.ret .any))
def ojc1 : Go.Ev.CutP := ⟨none, (.nd .lf (some (.tuple [(.agg [(.sint .i64 176), (.sint .i64 177), (.sint .i64 178)]), (.bool true)])) .lf), .lf, 0, 0, [(.sint .i64 178), (.sint .i64 177), (.sint .i64 176)], ojiv1, Emt, ojt1⟩
def ojKT : List Go.Ev.KE := [⟨26, [(.agg [(.sym 60), (.sym 41), (.sym 62), (.sym 63), (.sym 64), (.sym 65), (.sym 46), (.sym 67), (.sym 68), (.sym 69), (.sym 70), (.sym 71), (.sym 72), (.sym 73), (.sym 74), (.sym 75), (.sym 76), (.sym 77), (.sym 78), (.sym 79), (.sym 80), (.sym 81), (.sym 82), (.sym 83), (.sym 84)]), (.sint .i64 3)], [], (.sint .i64 13)⟩, ⟨38, [(.sym 46), (.sint .i64 3)], [], (.bool true)⟩]
def ojK2 : List Go.Ev.KE2 := [⟨13, [(.sym 90), (.agg [(.sym 60), (.sym 41), (.sym 62), (.sym 63), (.sym 64), (.sym 65), (.sym 46), (.sym 67), (.sym 68), (.sym 69), (.sym 70), (.sym 71), (.sym 72), (.sym 73), (.sym 74), (.sym 75), (.sym 76), (.sym 77), (.sym 78), (.sym 79), (.sym 80), (.sym 81), (.sym 82), (.sym 83), (.sym 84)]), (.sint .i64 3)], 7, [], (.lsl 7 158 0), [(7, (.list 144 158 4 [] none))], 8⟩, ⟨18, [(.agg [(.int .i64 (1)), (.int .i64 (1)), (.int .i64 (4))]), (.lsl 7 158 0)], 8, [(7, (.list 144 158 4 [] none))], (.agg [(.sint .i64 176), (.sint .i64 177), (.sint .i64 178)]), [(7, (.list 144 158 4 [] none))], 8⟩]
def ojC : List Go.Ev.CutP := [ojc0, ojc1]
def ojbody : Code := match Try.f10.body with | some c => c | none => .skip
def ojlf (c : Go.Ev.CutP) : Go.Ev.Ivs → List Go.Ev.Fact → Go.Ev.Leaf → Bool := Go.Ev.chkLfH Try.prog (Go.Ev.rcKA Try.prog ojKT ojK2 20000) Try.f10.ntmps [] 1000 Try.f10.results.toList ojbody ojC 0 c
theorem ojk0 : Go.Ev.chkX (ojlf ojc0) ojt0 ojiv0 [] = true := by kernel_rfl
theorem ojauto : @Go.Ev.AutoH (Go.Ev.extKA Try.prog ojKT ojK2) Try.prog (Go.Ev.rcKA Try.prog ojKT ojK2 20000) Try.f10 ojbody [] 1000 ojC (fun _ => none) 0 := Go.Ev.auto_ofH noNG mixed (by kernel_rfl) ⟨.inr ojk0, .inl rfl, trivial⟩ ⟨Eef_blk, (fun _ _ => rfl), trivial⟩
/-- The symbols that do not change. -/
structure CE (e : EfG) (id : Int) (ρ : Rho) : Prop where
  i : ∀ k, k < 140 → ρ.int k = cintE e id k
  v : ∀ k, k < 140 → ρ.val k = cvalE e k
  b : ∀ k, k < 140 → ρ.blk k = cblkE e k
  o : ∀ k, k < 140 → ρ.off k = coffE e k
section
variable {w : World} {e : EfG} {id : Int} {ρ : Rho}
theorem efF_okC (h : e.OK id w) (c : CE e id ρ) : FsOK efF ρ := by
  have v41 : ρ.val 41 = e.g.osV := c.v 41 (by omega)
  have v46 : ρ.val 46 = e.g.fsV := c.v 46 (by omega)
  have v90 : ρ.val 90 = .slice (some ⟨e.p.cB, e.p.cO, none⟩) 4 e.p.cc := c.v 90 (by omega)
  have v97 : ρ.val 97 = .slice (some ⟨e.p.aB 1, e.p.aO 1, none⟩) 1 (e.p.ac 1) := c.v 97 (by omega)
  have v98 : ρ.val 98 = .slice (some ⟨e.p.aB 2, e.p.aO 2, none⟩) 1 (e.p.ac 2) := c.v 98 (by omega)
  have v99 : ρ.val 99 = .slice (some ⟨e.p.aB 3, e.p.aO 3, none⟩) 2 (e.p.ac 3) := c.v 99 (by omega)
  refine fs_cons (fact_lenV (n := e.g.fs.length) v46 (c.i 2 (by omega))) (fs_cons (fact_lenV (n := e.g.os.length) v41 (c.i 14 (by omega))) (fs_cons (fact_lenV v90 (c.i 91 (by omega))) ?_))
  refine fs_cons (fact_atV (n := 0) v90 (by omega) (c.b 92 (by omega)) ?_) (fs_cons (fact_atV (n := 1) v90 (by omega) (c.b 93 (by omega)) ?_) (fs_cons (fact_atV (n := 2) v90 (by omega) (c.b 94 (by omega)) ?_) (fs_cons (fact_atV (n := 3) v90 (by omega) (c.b 95 (by omega)) ?_) ?_)))
  · rw [c.o 92 (by omega)]; show e.p.cO = e.p.cO + 0 * 11; omega
  · rw [c.o 93 (by omega)]; rfl
  · rw [c.o 94 (by omega)]; rfl
  · rw [c.o 95 (by omega)]; rfl
  refine fs_cons (fact_lenV v97 (c.i 101 (by omega))) (fs_cons (fact_lenV v98 (c.i 102 (by omega))) (fs_cons (fact_lenV v99 (c.i 103 (by omega))) ?_))
  refine fs_cons (fact_atV (n := 0) v97 (by omega) (c.b 104 (by omega)) ?_) (fs_cons (fact_atV (n := 0) v98 (by omega) (c.b 105 (by omega)) ?_) (fs_cons (fact_atV (n := 0) v99 (by omega) (c.b 106 (by omega)) ?_) (fs_cons (fact_atV (n := 1) v99 (by omega) (c.b 107 (by omega)) ?_) ?_)))
  · rw [c.o 104 (by omega)]; show e.p.aO 1 = e.p.aO 1 + 0 * 13; omega
  · rw [c.o 105 (by omega)]; show e.p.aO 2 = e.p.aO 2 + 0 * 13; omega
  · rw [c.o 106 (by omega)]; show e.p.aO 3 = e.p.aO 3 + 0 * 13; omega
  · rw [c.o 107 (by omega)]; rfl
  refine fs_cons (fact_at (n := e.bi) (B := e.g.oB) (O := e.g.oO) (l := e.g.os.length) (c := e.g.oc) ?_ (c.i 13 (by omega)) h.bi (c.b 7 (by omega)) (c.o 7 (by omega))) fs_nil
  show some _ = _
  rw [v41, osV_at h.g h.bi]

end
end
end Go.Proofs.Ytgbhmkdldfhamaa.order
namespace Go.Proofs.Ytgbhmkdldfhamaa.order
open Go.Ev Go.RowKit
set_option linter.unusedVariables false
noncomputable section
section
variable {w : World} {e : EfG} {id : Int} {ρ : Rho}
theorem efB_okC (h : e.OK id w) (c : CE e id ρ) {iv : Ivs} (h1 : IvOK iv ρ) (φ : Phi) (hφ : φ.ρ = ρ) (k : Nat) (cs : List VV) (hk : efB iv false false k = some cs) :
    φ.ρ.blk k < w.heap.size ∧ ∀ j x, cs[j]? = some x → ∃ v, w.cell? ⟨φ.ρ.blk k, φ.ρ.off k + j, none⟩ = some v ∧ VR φ x v := by
  have hc : ∀ {k : Nat}, k < 140 → VR φ (si k) (.int .i64 (cintE e id k)) := fun {k} hk => by simp only [si, VR, hφ, c.i k hk]
  have uc : ∀ {k : Nat}, k < 140 → VR φ (.sym k) (cvalE e k) := fun {k} hk => by simp only [VR, hφ, c.v k hk]
  have iv' : ∀ k, VR φ (sv iv .i64 k) (.int .i64 (ρ.int k)) := fun k => by have := VR_sv (φ := φ) (iv := iv) (by rw [hφ]; exact h1) .i64 k; rw [hφ] at this; exact this
  have go : ∀ {B O : Nat} {vs : List Value}, φ.ρ.blk k = B → φ.ρ.off k = O → CellsAt w B O vs → VRs φ cs vs → φ.ρ.blk k < w.heap.size ∧ ∀ j x, cs[j]? = some x → ∃ v, w.cell? ⟨φ.ρ.blk k, φ.ρ.off k + j, none⟩ = some v ∧ VR φ x v := fun e1 e2 h3 h4 => by
    rw [e1, e2]
    exact cells_blk h3 h4
  unfold efB at hk
  split at hk
  · simp at hk
  · simp at hk
  · -- the beast
    cases hk
    refine go (by rw [hφ]; exact c.b 7 (by omega)) (by rw [hφ]; exact c.o 7 (by omega)) (ob_cells h.g h.bi) ?_
    have c1 : VR φ (sv iv .i64 121) (.int .i64 e.b.card) := by
      have := iv' 121
      rw [c.i 121 (by omega)] at this
      exact this
    have c13 : VR φ (match decide ((ivAt iv 134).1 = 1), decide ((ivAt iv 134).2 = 0) with | true, _ => VV.slice (some ⟨.sym 8, 0⟩) 1 1 | false, true => .slice none 0 0 | false, false => .sym 133) (e.b.cell 13) := by
      have hiv := h1 134
      rw [c.i 134 (by omega)] at hiv
      have hiv' : (ivAt iv 134).1 ≤ (e.effs.length : Int) ∧ (e.effs.length : Int) ≤ (ivAt iv 134).2 := hiv
      split
      · rename_i _ g1
        have g1 := of_decide_eq_true g1
        have heq : e.b.cell 13 = e.b.eff := rfl
        rw [heq, h.eff]
        cases he : e.effs with
        | nil => rw [he] at hiv'; simp at hiv'; omega
        | cons x l =>
          simp only [VR, AR, hφ]
          refine ⟨⟨e.eB, e.eO, none⟩, 0, ⟨?_, rfl⟩, rfl⟩
          rw [c.b 8 (by omega), c.o 8 (by omega)]
          show _ = (⟨e.e0B, e.e0O + 0, none⟩ : Addr)
          unfold EfG.e0B EfG.e0O
          rw [he]
          rfl
      · rename_i g1 g2
        have g2 := of_decide_eq_true g2
        have heq : e.b.cell 13 = e.b.eff := rfl
        rw [heq, h.eff]
        cases he : e.effs with
        | nil => simp only [VR]
        | cons x l => rw [he] at hiv'; simp at hiv'; omega
      · exact uc (by omega)
    exact cons_VR (hc (by omega)) (cons_VR c1 (cons_VR (uc (by omega)) (cons_VR (hc (by omega)) (cons_VR (uc (by omega)) (cons_VR (uc (by omega)) (cons_VR (uc (by omega)) (cons_VR (uc (by omega)) (cons_VR (uc (by omega)) (cons_VR (hc (by omega)) (cons_VR (uc (by omega)) (cons_VR (uc (by omega)) (cons_VR (uc (by omega)) (cons_VR c13 nil_VR)))))))))))))
  · cases hk
    exact go (by rw [hφ]; exact c.b 8 (by omega)) (by rw [hφ]; exact c.o 8 (by omega)) h.e0_cells (cons_VR (hc (by omega)) (cons_VR (hc (by omega)) (cons_VR (hc (by omega)) (cons_VR (hc (by omega)) nil_VR))))
  · cases hk
    have h0 := h.p.card 0 (by omega)
    rw [show e.p.cO + 0 * 11 = e.p.cO by omega] at h0
    exact go (by rw [hφ]; exact c.b 92 (by omega)) (by rw [hφ]; exact c.o 92 (by omega)) h0 (card_VR (by simp only [VR]; rfl) (by simp only [VR]))
  · cases hk
    exact go (by rw [hφ]; exact c.b 93 (by omega)) (by rw [hφ]; exact c.o 93 (by omega)) (h.p.card 1 (by omega)) (card_VR (by simp only [VR]; rfl) (uc (by omega)))
  · cases hk
    exact go (by rw [hφ]; exact c.b 94 (by omega)) (by rw [hφ]; exact c.o 94 (by omega)) (h.p.card 2 (by omega)) (card_VR (by simp only [VR]; rfl) (uc (by omega)))
  · cases hk
    exact go (by rw [hφ]; exact c.b 95 (by omega)) (by rw [hφ]; exact c.o 95 (by omega)) (h.p.card 3 (by omega)) (card_VR (by simp only [VR]; rfl) (uc (by omega)))
  · cases hk
    exact go (by rw [hφ]; exact c.b 104 (by omega)) (by rw [hφ]; exact c.o 104 (by omega)) h.p.lord ab_VR
  · cases hk
    exact go (by rw [hφ]; exact c.b 105 (by omega)) (by rw [hφ]; exact c.o 105 (by omega)) h.p.shri ab_VR
  · cases hk
    exact go (by rw [hφ]; exact c.b 106 (by omega)) (by rw [hφ]; exact c.o 106 (by omega)) h.p.kit0 ab_VR
  · cases hk
    exact go (by rw [hφ]; exact c.b 107 (by omega)) (by rw [hφ]; exact c.o 107 (by omega)) h.p.kit1 ab_VR
  · cases hk
theorem ef_okC (h : e.OK id w) (c : CE e id ρ) (hge : ρ.int 2 ≤ ρ.int 150) (iv : Ivs) (fs : List Fact) (h1 : IvOK iv ρ) (h2 : FsOK fs ρ) (φ : Phi) (hφ : φ.ρ = ρ) : EnvP (Eef iv fs) φ w := by
  have hF := efF_okC h c
  unfold Eef
  split
  · rename_i g1 g2
    have := lss_has w g1 h2
    omega
  · rename_i g1 g2
    have := lss_has w g1 h2
    omega
  · exact ⟨by rw [hφ]; exact h1, by rw [hφ]; exact fs_app h2 hF, efB_okC h c h1 φ hφ⟩
end
end
end Go.Proofs.Ytgbhmkdldfhamaa.order
namespace Go.Proofs.Ytgbhmkdldfhamaa.order
open Go.Ev Go.RowKit
set_option linter.unusedVariables false
noncomputable section
/-- A list in new memory: a new block. -/
theorem out_res2 {R : List Eff} {v : Value} {w w' : World} {φ : Phi} {nx j n : Nat} {e : KE2} (hpre : e.pre = []) (hpost : e.post = [(nx, .list j n 4 [] none)]) (hny : e.ny = nx + 1) (hfr : φ nx = none) (hn : φ.ρ.int n = (R.length : Int)) (hl : φ.ρ.lst j = cellsOf R) (hb : Below w.heap.size w w') (ho : ListOut R v w.heap.size w') (hne : R ≠ []) :
    ∃ φ', VR φ' (.lsl nx n 0) v ∧ Res2 e φ w φ' w' := by
  rcases ho with ⟨h, _⟩ | ⟨_, inf, rfl, h1, c', et, fr, h2, h3, h4, h5⟩
  · exact absurd h hne
  have hnn : (φ.ρ.int n).toNat = R.length := by rw [hn]; simp
  have he : (φ.ext nx inf) nx = some inf := if_pos rfl
  refine ⟨φ.ext nx inf, ?_, φ.le_ext inf hfr, ⟨hb.os, hb.tape, hb.output, hb.size⟩, fun k hk _ => hb.block k hk, fun i jnf hi => ?_, ?_, ?_, ?_⟩
  · simp only [VR]
    refine ⟨inf, he, ?_⟩
    show _ = Value.slice (some ⟨inf.blk, inf.off, none⟩) ((φ.ρ.int n).toNat + 0) ((φ.ρ.int n).toNat + 0 + inf.slack)
    rw [hnn]
    rfl
  · have hi' : (if i = nx then some inf else φ i) = some jnf := hi
    split at hi'
    · rename_i hin
      cases hi'
      exact .inr ⟨by omega, get_lt h2, .inr h1⟩
    · exact .inl hi'
  · intro p hp
    rw [hpost, List.mem_singleton] at hp
    subst hp
    refine ⟨inf, _, he, h2, ?_, ?_, c', et, fr, rfl, ?_⟩
    · show 0 ≤ φ.ρ.int n
      rw [hn]; omega
    · show (φ.ρ.lst j).length = (φ.ρ.int n).toNat * 4
      rw [hl, hnn, cellsOf_len]
    · show CR (φ.ext nx inf) inf (φ.ρ.lst j ++ []) (some 4) 0 none c' et fr
      rw [hl, List.append_nil]
      refine ⟨?_, (fun h => by cases h), fun k x hx => ?_, h3, fun t ht => by cases ht⟩
      · rw [cellsOf_len]
        show _ + inf.slack * 4 ≤ _
        exact h4
      · rw [cellsOf_get] at hx
        cases hk : R[k / 4]? with
        | none => rw [hk] at hx; cases hx
        | some z =>
          rw [hk] at hx
          simp only [Option.map_some, Option.some.injEq] at hx
          subst hx
          refine ⟨_, ?_, by simp only [i8, VR]; rfl⟩
          rw [show inf.off + k = inf.off + k / 4 * 4 + k % 4 by omega]
          exact h5 _ z hk (k % 4) (by omega)
  · intro p hp jnf hj
    rw [hpost, List.mem_singleton] at hp
    subst hp
    rw [hfr] at hj
    cases hj
  · intro p hp q hq _ _ _ _ _
    rw [hpost, List.mem_singleton] at hp hq
    rw [hp, hq]
/-- A list block that a known call only reads: as it lies in memory. -/
theorem list_fo {φ : Phi} {inf : Inf} {o' : Obj} {j n : Nat} {R : List Eff} {w : World} (hw : w.heap[inf.blk]? = some o') (hO : OR φ inf (.list j n 4 [] none) o') (hl : φ.ρ.lst j = cellsOf R) (hle : (R.length : Int) ≤ 1000000) (fit : ∀ x ∈ R, x.Fit) :
    (⟨R, some ⟨inf.blk, inf.off, none⟩, R.length + inf.slack, inf.blk, inf.off⟩ : FoIn).OK w := by
  obtain ⟨_, _, c', et, fr, rfl, hcr⟩ := hO
  rw [hl, List.append_nil] at hcr
  refine ⟨by show R.length ≤ _; omega, fit, fun i x hx => ⟨rfl, get_lt hw, fun q hq => ?_⟩⟩
  obtain ⟨y, y1, y2⟩ := hcr.cell (i * 4 + q) (i8 (x.cell q)) (by rw [cellsOf_get, show (i * 4 + q) / 4 = i by omega, show (i * 4 + q) % 4 = q by omega]; have hx' : R[i]? = some x := hx; rw [hx']; rfl)
  simp only [i8, VR] at y2
  show w.cell? ⟨inf.blk, inf.off + i * 4 + q, none⟩ = _
  unfold World.cell?
  simp only [hw]
  rw [Nat.add_assoc, y1, y2]
  rfl
/-- A known call that changes nothing, over one list. -/
theorem keep_res2 {w w' : World} {φ : Phi} {nx : Nat} {o : VO} {e : KE2} {inf : Inf} {o' : Obj} (hpre : e.pre = [(nx, o)]) (hpost : e.post = [(nx, o)]) (hi : φ nx = some inf) (hw : w.heap[inf.blk]? = some o') (hO : OR φ inf o o') (hb : Below w.heap.size w w') : Res2 e φ w φ w' := by
  refine ⟨φ.le_refl, ⟨hb.os, hb.tape, hb.output, hb.size⟩, fun k hk _ => hb.block k hk, fun i jnf h => .inl h, ?_, ?_, ?_⟩
  · intro p hp
    rw [hpost, List.mem_singleton] at hp
    subst hp
    exact ⟨inf, o', hi, by rw [hb.block _ (get_lt hw)]; exact hw, hO⟩
  · intro p hp jnf hj
    rw [hpost, List.mem_singleton] at hp
    subst hp
    have hj' : φ nx = some jnf := hj
    rw [hi] at hj'
    cases hj'
    exact ⟨(nx, o), by rw [hpre]; exact List.mem_singleton.2 rfl, inf, hi, rfl⟩
  · intro p hp q hq _ _ _ _ _
    rw [hpost, List.mem_singleton] at hp hq
    rw [hp, hq]
end
end Go.Proofs.Ytgbhmkdldfhamaa.order
namespace Go.Proofs.Ytgbhmkdldfhamaa.order
open Go.Ev Go.RowKit
set_option linter.unusedVariables false
noncomputable section
theorem bub_fit : ∀ (j : Nat) (l : List Eff), (∀ x ∈ l, x.Fit) → ∀ x ∈ bub j l, x.Fit
  | 0, l, h => h
  | j + 1, l, h => by
    by_cases hc : cmpE (l.getD (j + 1) eff0) (l.getD j eff0) < 0
    · rw [bub_lt hc]
      exact bub_fit j _ (swp_fit h j)
    · rw [bub_ge hc]
      exact h
theorem outer_fit : ∀ (m i : Nat) (l : List Eff), (∀ x ∈ l, x.Fit) → ∀ x ∈ outer m i l, x.Fit
  | 0, i, l, h => h
  | m + 1, i, l, h => outer_fit m (i + 1) (bub i l) (bub_fit i l h)
theorem isort_fit {l : List Eff} (h : ∀ x ∈ l, x.Fit) : ∀ x ∈ isort l, x.Fit := outer_fit _ _ _ h
theorem foldl_fit : ∀ (l : List Eff) (s : Nums), s.Fit → (∀ x ∈ l, x.Fit) → (l.foldl stepF s).Fit
  | [], s, h, _ => h
  | x :: l, s, h, hl => foldl_fit l _ (step_fit h (hl x List.mem_cons_self)) fun y hy => hl y (List.mem_cons_of_mem _ hy)
theorem foldN_fit {l : List Eff} {s : Nums} (h : s.Fit) (hl : ∀ x ∈ l, x.Fit) : (foldN s l).Fit := clamp_fit (foldl_fit l _ (clamp_fit h) hl)
def base1 : Nums := ⟨2, 2, 0⟩
def base2 : Nums := ⟨1, 1, 4⟩
theorem base1_fit : base1.Fit := ⟨⟨by decide, by decide⟩, ⟨by decide, by decide⟩, ⟨by decide, by decide⟩⟩
theorem base2_fit : base2.Fit := ⟨⟨by decide, by decide⟩, ⟨by decide, by decide⟩, ⟨by decide, by decide⟩⟩
def EfG.base (e : EfG) : Nums := if e.b.card = 3 then base2 else base1
theorem base_fit (e : EfG) : e.base.Fit := by
  unfold EfG.base
  split
  · exact base2_fit
  · exact base1_fit
def lenN (R : List Eff) : Int := if R = [] then 1 else (R.length : Int)
def ointE (e : EfG) : Nat → Int
  | 10 => (e.g.fs.length : Int)
  | 16 => 1
  | 18 => lenN e.all
  | 36 => (foldN e.base e.all).p
  | 37 => (foldN e.base e.all).t
  | 38 => (foldN e.base e.all).k
  | _ => 0
def orE (e : EfG) (id : Int) : Rho where
  int k := if k < 140 then cintE e id k else ointE e (k - 140)
  val k := if k < 140 then cvalE e k else .bool false
  blk k := cblkE e k
  off k := coffE e k
  one k := by
    show (if k < 140 then cvalE e k else Value.bool false).oneCell' = true
    split
    · exact cval_oneE k
    · rfl
  lst k := if k = 144 then cellsOf e.all else []
  lcl k x hx := by
    revert hx
    show x ∈ (if k = 144 then cellsOf e.all else []) → _
    split
    · exact cellsOf_closed _ x
    · intro h; cases h
section
variable {w : World} {e : EfG} {id : Int}
theorem or_ce : CE e id (orE e id) := ⟨fun k hk => if_pos hk, fun k hk => if_pos hk, fun k hk => rfl, fun k hk => rfl⟩
theorem raw_fit (h : e.OK id w) : ∀ x ∈ e.raw, x.Fit := fun x hx => by
  unfold EfG.raw at hx
  rcases List.mem_append.1 hx with hx | hx
  · exact coll_fit h.g _ _ x hx
  · exact h.fit x hx
theorem all_fit (h : e.OK id w) : ∀ x ∈ e.all, x.Fit := by
  unfold EfG.all EfG.res
  split
  · intro x hx; cases hx
  · exact isort_fit (raw_fit h)
theorem all_len (h : e.OK id w) : e.all.length ≤ 18 := by
  have h1 := h.len
  have h2 := h.le
  unfold EfG.all EfG.res
  split
  · exact Nat.zero_le _
  · rw [isort_len]
    unfold EfG.raw
    rw [List.length_append]
    omega
theorem lenN_in (h : e.OK id w) : 1 ≤ lenN e.all ∧ lenN e.all ≤ 18 := by
  have := all_len h
  unfold lenN
  split
  · exact ⟨by omega, by omega⟩
  · rename_i hne
    have : 0 < e.all.length := List.length_pos_iff.2 hne
    exact ⟨by omega, by omega⟩
theorem or_fits (h : e.OK id w) (k : Nat) : I64 ((orE e id).int k) := by
  show I64 (if k < 140 then cintE e id k else ointE e (k - 140))
  have hf := all_fit h
  have h1 := foldN_fit (base_fit e) hf
  have h3 := lenN_in h
  have h4 := h.g.nf
  split
  · exact cint_fits h k
  · unfold ointE
    split
    · exact ⟨by omega, by omega⟩
    · exact ⟨by omega, by omega⟩
    · exact ⟨by omega, by omega⟩
    · exact h1.p
    · exact h1.t
    · exact h1.k
    · exact i64_0
end
end
end Go.Proofs.Ytgbhmkdldfhamaa.order
namespace Go.Proofs.Ytgbhmkdldfhamaa.order
open Go.Ev Go.RowKit
set_option linter.unusedVariables false
noncomputable section
section
variable {w : World} {e : EfG} {id : Int}
theorem ov' (k : Nat) (hk : 140 ≤ k) : (orE e id).int k = ointE e (k - 140) := by
  show (if k < 140 then _ else ointE e (k - 140)) = _
  rw [if_neg (by omega)]
set_option maxRecDepth 4000 in
theorem iv_or (h : e.OK id w) (s121 : (0 : Int) ≤ (orE e id).int 121 ∧ (orE e id).int 121 ≤ 2) : IvOK oniv0 (orE e id) := by
  have f := or_fits h
  have hn := h.g.nf
  have hm := h.g.no
  have hbi := h.bi
  have hef := h.le
  have h0 := h.e0_fit.2
  have hl := lenN_in h
  have s2 : (0 : Int) ≤ (orE e id).int 2 ∧ (orE e id).int 2 ≤ 1000000 := by rw [or_ce.i 2 (by omega)]; show (0 : Int) ≤ (e.g.fs.length : Int) ∧ (e.g.fs.length : Int) ≤ 1000000; omega
  have s13 : (0 : Int) ≤ (orE e id).int 13 ∧ (orE e id).int 13 ≤ 1000000 := by rw [or_ce.i 13 (by omega)]; show (0 : Int) ≤ (e.bi : Int) ∧ (e.bi : Int) ≤ 1000000; omega
  have s14 : (0 : Int) ≤ (orE e id).int 14 ∧ (orE e id).int 14 ≤ 1000000 := by rw [or_ce.i 14 (by omega)]; show (0 : Int) ≤ (e.g.os.length : Int) ∧ (e.g.os.length : Int) ≤ 1000000; omega
  have s91 : (4 : Int) ≤ (orE e id).int 91 ∧ (orE e id).int 91 ≤ 4 := by rw [or_ce.i 91 (by omega)]; exact ⟨Int.le_refl _, Int.le_refl _⟩
  have s101 : (1 : Int) ≤ (orE e id).int 101 ∧ (orE e id).int 101 ≤ 1 := by rw [or_ce.i 101 (by omega)]; exact ⟨Int.le_refl _, Int.le_refl _⟩
  have s102 : (1 : Int) ≤ (orE e id).int 102 ∧ (orE e id).int 102 ≤ 1 := by rw [or_ce.i 102 (by omega)]; exact ⟨Int.le_refl _, Int.le_refl _⟩
  have s103 : (2 : Int) ≤ (orE e id).int 103 ∧ (orE e id).int 103 ≤ 2 := by rw [or_ce.i 103 (by omega)]; exact ⟨Int.le_refl _, Int.le_refl _⟩
  have s134 : (0 : Int) ≤ (orE e id).int 134 ∧ (orE e id).int 134 ≤ 1 := by rw [or_ce.i 134 (by omega)]; show (0 : Int) ≤ (e.effs.length : Int) ∧ (e.effs.length : Int) ≤ 1; omega
  have s135 : (1 : Int) ≤ (orE e id).int 135 ∧ (orE e id).int 135 ≤ 4 := by rw [or_ce.i 135 (by omega)]; exact h0
  have s150 : (0 : Int) ≤ (orE e id).int 150 ∧ (orE e id).int 150 ≤ 1000000 := by rw [ov' 150 (by omega)]; show (0 : Int) ≤ (e.g.fs.length : Int) ∧ (e.g.fs.length : Int) ≤ 1000000; omega
  have s152 : (-1 : Int) ≤ (orE e id).int 152 ∧ (orE e id).int 152 ≤ 1000000 := by rw [ov' 152 (by omega)]; show (-1 : Int) ≤ 0 ∧ (0 : Int) ≤ 1000000; omega
  have s156 : (1 : Int) ≤ (orE e id).int 156 ∧ (orE e id).int 156 ≤ 19 := by rw [ov' 156 (by omega)]; show (1 : Int) ≤ 1 ∧ (1 : Int) ≤ 19; omega
  have s158 : (1 : Int) ≤ (orE e id).int 158 ∧ (orE e id).int 158 ≤ 19 := by rw [ov' 158 (by omega)]; show (1 : Int) ≤ lenN e.all ∧ lenN e.all ≤ 19; omega
  refine iv_all (f := (orE e id).int) ?_ f
  unfold oniv0
  exact ⟨f 0, f 1, s2, f 3, f 4, f 5, f 6, f 7, f 8, f 9, f 10, f 11, f 12, s13, s14, f 15, f 16, f 17, f 18, f 19, f 20, f 21, f 22, f 23, f 24, f 25, f 26, f 27, f 28, f 29, f 30, f 31, f 32, f 33, f 34, f 35, f 36, f 37, f 38, f 39, f 40, f 41, f 42, f 43, f 44, f 45, f 46, f 47, f 48, f 49, f 50, f 51, f 52, f 53, f 54, f 55, f 56, f 57, f 58, f 59, f 60, f 61, f 62, f 63, f 64, f 65, f 66, f 67, f 68, f 69, f 70, f 71, f 72, f 73, f 74, f 75, f 76, f 77, f 78, f 79, f 80, f 81, f 82, f 83, f 84, f 85, f 86, f 87, f 88, f 89, f 90, s91, f 92, f 93, f 94, f 95, f 96, f 97, f 98, f 99, f 100, s101, s102, s103, f 104, f 105, f 106, f 107, f 108, f 109, f 110, f 111, f 112, f 113, f 114, f 115, f 116, f 117, f 118, f 119, f 120, s121, f 122, f 123, f 124, f 125, f 126, f 127, f 128, f 129, f 130, f 131, f 132, f 133, s134, s135, f 136, f 137, f 138, f 139, f 140, f 141, f 142, f 143, f 144, f 145, f 146, f 147, f 148, f 149, s150, f 151, s152, f 153, f 154, f 155, s156, f 157, s158, f 159, f 160, f 161, f 162, f 163, f 164, f 165, f 166, f 167, f 168, f 169, f 170, f 171, f 172, f 173, f 174, f 175, f 176, f 177, f 178, f 179, f 180, f 181, f 182, f 183, f 184, f 185, f 186, f 187, f 188, f 189, trivial⟩
set_option maxRecDepth 4000 in
theorem iv_or3 (h : e.OK id w) (s121 : (3 : Int) ≤ (orE e id).int 121 ∧ (orE e id).int 121 ≤ 3) : IvOK okiv0 (orE e id) := by
  have f := or_fits h
  have hn := h.g.nf
  have hm := h.g.no
  have hbi := h.bi
  have hef := h.le
  have h0 := h.e0_fit.2
  have hl := lenN_in h
  have s2 : (0 : Int) ≤ (orE e id).int 2 ∧ (orE e id).int 2 ≤ 1000000 := by rw [or_ce.i 2 (by omega)]; show (0 : Int) ≤ (e.g.fs.length : Int) ∧ (e.g.fs.length : Int) ≤ 1000000; omega
  have s13 : (0 : Int) ≤ (orE e id).int 13 ∧ (orE e id).int 13 ≤ 1000000 := by rw [or_ce.i 13 (by omega)]; show (0 : Int) ≤ (e.bi : Int) ∧ (e.bi : Int) ≤ 1000000; omega
  have s14 : (0 : Int) ≤ (orE e id).int 14 ∧ (orE e id).int 14 ≤ 1000000 := by rw [or_ce.i 14 (by omega)]; show (0 : Int) ≤ (e.g.os.length : Int) ∧ (e.g.os.length : Int) ≤ 1000000; omega
  have s91 : (4 : Int) ≤ (orE e id).int 91 ∧ (orE e id).int 91 ≤ 4 := by rw [or_ce.i 91 (by omega)]; exact ⟨Int.le_refl _, Int.le_refl _⟩
  have s101 : (1 : Int) ≤ (orE e id).int 101 ∧ (orE e id).int 101 ≤ 1 := by rw [or_ce.i 101 (by omega)]; exact ⟨Int.le_refl _, Int.le_refl _⟩
  have s102 : (1 : Int) ≤ (orE e id).int 102 ∧ (orE e id).int 102 ≤ 1 := by rw [or_ce.i 102 (by omega)]; exact ⟨Int.le_refl _, Int.le_refl _⟩
  have s103 : (2 : Int) ≤ (orE e id).int 103 ∧ (orE e id).int 103 ≤ 2 := by rw [or_ce.i 103 (by omega)]; exact ⟨Int.le_refl _, Int.le_refl _⟩
  have s134 : (0 : Int) ≤ (orE e id).int 134 ∧ (orE e id).int 134 ≤ 1 := by rw [or_ce.i 134 (by omega)]; show (0 : Int) ≤ (e.effs.length : Int) ∧ (e.effs.length : Int) ≤ 1; omega
  have s135 : (1 : Int) ≤ (orE e id).int 135 ∧ (orE e id).int 135 ≤ 4 := by rw [or_ce.i 135 (by omega)]; exact h0
  have s150 : (0 : Int) ≤ (orE e id).int 150 ∧ (orE e id).int 150 ≤ 1000000 := by rw [ov' 150 (by omega)]; show (0 : Int) ≤ (e.g.fs.length : Int) ∧ (e.g.fs.length : Int) ≤ 1000000; omega
  have s152 : (-1 : Int) ≤ (orE e id).int 152 ∧ (orE e id).int 152 ≤ 1000000 := by rw [ov' 152 (by omega)]; show (-1 : Int) ≤ 0 ∧ (0 : Int) ≤ 1000000; omega
  have s156 : (1 : Int) ≤ (orE e id).int 156 ∧ (orE e id).int 156 ≤ 19 := by rw [ov' 156 (by omega)]; show (1 : Int) ≤ 1 ∧ (1 : Int) ≤ 19; omega
  have s158 : (1 : Int) ≤ (orE e id).int 158 ∧ (orE e id).int 158 ≤ 19 := by rw [ov' 158 (by omega)]; show (1 : Int) ≤ lenN e.all ∧ lenN e.all ≤ 19; omega
  refine iv_all (f := (orE e id).int) ?_ f
  unfold okiv0
  exact ⟨f 0, f 1, s2, f 3, f 4, f 5, f 6, f 7, f 8, f 9, f 10, f 11, f 12, s13, s14, f 15, f 16, f 17, f 18, f 19, f 20, f 21, f 22, f 23, f 24, f 25, f 26, f 27, f 28, f 29, f 30, f 31, f 32, f 33, f 34, f 35, f 36, f 37, f 38, f 39, f 40, f 41, f 42, f 43, f 44, f 45, f 46, f 47, f 48, f 49, f 50, f 51, f 52, f 53, f 54, f 55, f 56, f 57, f 58, f 59, f 60, f 61, f 62, f 63, f 64, f 65, f 66, f 67, f 68, f 69, f 70, f 71, f 72, f 73, f 74, f 75, f 76, f 77, f 78, f 79, f 80, f 81, f 82, f 83, f 84, f 85, f 86, f 87, f 88, f 89, f 90, s91, f 92, f 93, f 94, f 95, f 96, f 97, f 98, f 99, f 100, s101, s102, s103, f 104, f 105, f 106, f 107, f 108, f 109, f 110, f 111, f 112, f 113, f 114, f 115, f 116, f 117, f 118, f 119, f 120, s121, f 122, f 123, f 124, f 125, f 126, f 127, f 128, f 129, f 130, f 131, f 132, f 133, s134, s135, f 136, f 137, f 138, f 139, f 140, f 141, f 142, f 143, f 144, f 145, f 146, f 147, f 148, f 149, s150, f 151, s152, f 153, f 154, f 155, s156, f 157, s158, f 159, f 160, f 161, f 162, f 163, f 164, f 165, f 166, f 167, f 168, f 169, f 170, f 171, f 172, f 173, f 174, f 175, f 176, f 177, f 178, f 179, f 180, f 181, f 182, f 183, f 184, f 185, f 186, f 187, f 188, f 189, trivial⟩
theorem or_st : StRho e.g (orE e id) := ⟨fun k hk => by
  rw [or_ce.v k (by omega)]
  unfold cvalE
  split <;> first | omega | rfl⟩
theorem or_env (h : e.OK id w) (iv : Ivs) (fs : List Fact) (h1 : IvOK iv (orE e id)) (h2 : FsOK fs (orE e id)) (φ : Phi) (hφ : φ.ρ = orE e id) : EnvP (Eef iv fs) φ w :=
  ef_okC h or_ce (by rw [or_ce.i 2 (by omega), ov' 150 (by omega)]; exact Int.le_refl _) iv fs h1 h2 φ hφ
theorem or_args {φ : Phi} (hφ : φ.ρ = orE e id) {vs : List Value} (hv : VRs φ [.sym 90, stV, si 3] vs) : vs = [e.p.v, e.g.v, .int .i64 id] := by
  have v90 : (orE e id).val 90 = e.p.v := or_ce.v 90 (by omega)
  have i3 : (orE e id).int 3 = id := or_ce.i 3 (by omega)
  simp only [VRs] at hv
  obtain ⟨a, bs, rfl, ha, v, ws, rfl, hs, u, us, rfl, hu, rfl⟩ := hv
  rw [stV_inv (g := e.g) (by rw [hφ]; exact or_st) hs]
  simp only [VR, hφ, v90] at ha
  simp only [si, VR, hφ, i3] at hu
  rw [ha, hu]
theorem EfG.OK.later {w' : World} (h : e.OK id w) (hs : w.heap.size ≤ w'.heap.size) (hb : ∀ k, k < w.heap.size → w'.heap[k]? = w.heap[k]?) : e.OK id w' :=
  ⟨h.g.later hs hb, h.p.later hs hb, h.bi, h.fd, h.has, h.id, h.c0, h.c3, h.le, h.ac, h.fit, h.eff, fun x hx => (h.mem x hx).later hs hb, h.len⟩
/-- The first two known calls. -/
theorem or_find (h : e.OK id w) : KEok Try.prog (orE e id) w ⟨26, [stV, si 3], [], si 13⟩ := by
  intro φ vs w' hφ h1 h2 hv hpre
  have i3 : (orE e id).int 3 = id := or_ce.i 3 (by omega)
  have i13 : (orE e id).int 13 = (e.bi : Int) := or_ce.i 13 (by omega)
  have hv' : vs = [e.g.v, .int .i64 id] := by
    simp only [VRs] at hv
    obtain ⟨v, ws, rfl, hs, u, us, rfl, hu, rfl⟩ := hv
    rw [stV_inv (g := e.g) (by rw [hφ]; exact or_st) hs]
    simp only [si, VR, hφ, i3] at hu
    rw [hu]
  subst hv'
  refine (find_calls (h.g.later h1 fun k hk => h2 k hk (fun x => x)) h.id).mono ?_
  rintro en w'' ⟨rfl, hb⟩
  exact ⟨_, rfl, by simp only [si, VR, hφ, i13, h.fd], hb⟩
theorem or_has (h : e.OK id w) : KEok Try.prog (orE e id) w ⟨38, [.sym 46, si 3], [], .bool true⟩ := by
  intro φ vs w' hφ h1 h2 hv hpre
  have i3 : (orE e id).int 3 = id := or_ce.i 3 (by omega)
  have v46 : (orE e id).val 46 = e.g.fsV := or_ce.v 46 (by omega)
  have hv' : vs = [e.g.fsV, .int .i64 id] := by
    simp only [VRs, si, VR, hφ, i3, v46] at hv
    obtain ⟨_, _, rfl, rfl, _, _, rfl, rfl, rfl⟩ := hv
    rfl
  subst hv'
  refine (contains_calls (h.g.later h1 fun k hk => h2 k hk (fun x => x)) h.id).mono ?_
  rintro en w'' ⟨rfl, hb⟩
  exact ⟨_, rfl, by simp only [VR]; rw [decide_eq_true h.has], hb⟩
end
end
end Go.Proofs.Ytgbhmkdldfhamaa.order
namespace Go.Proofs.Ytgbhmkdldfhamaa.order
open Go.Ev Go.RowKit
set_option linter.unusedVariables false
noncomputable section
theorem i8V {φ : Phi} {n : Int} {v : Value} (h : VR φ (i8 n) v) : v = .int .i64 n := by
  simp only [i8, VR] at h
  exact h
theorem num_inv {φ : Phi} {s : Nums} {v : Value} (h : VR φ (.agg [i8 s.p, i8 s.t, i8 s.k]) v) : v = numV s := by
  simp only [VR, VRs, i8] at h
  obtain ⟨_, ⟨_, _, rfl, rfl, _, _, rfl, rfl, _, _, rfl, rfl, rfl⟩, rfl⟩ := h
  rfl
section
variable {w : World} {e : EfG} {id : Int}
def resV : VV := .agg [si 176, si 177, si 178]
theorem res_VR {φ : Phi} (hφ : φ.ρ = orE e id) : VR φ resV (numV (foldN e.base e.all)) := by
  have a : (orE e id).int 176 = (foldN e.base e.all).p := ov' 176 (by omega)
  have b : (orE e id).int 177 = (foldN e.base e.all).t := ov' 177 (by omega)
  have c : (orE e id).int 178 = (foldN e.base e.all).k := ov' 178 (by omega)
  simp only [resV, numV, VR, VRs, si, hφ, a, b, c]
  exact ⟨_, ⟨_, _, rfl, rfl, _, _, rfl, rfl, _, _, rfl, rfl, rfl⟩, rfl⟩
theorem or_nil (h : e.OK id w) (ha : e.all = []) : KEok Try.prog (orE e id) w ⟨13, [.sym 90, stV, si 3], [], .slice none 0 0⟩ := by
  intro φ vs w' hφ h1 h2 hv hpre
  have hv' := or_args hφ hv
  subst hv'
  refine (effects_calls (h.later h1 fun k hk => h2 k hk (fun x => x))).mono ?_
  rintro en w'' ⟨v, rfl, hb, ho⟩
  rcases ho with ⟨_, rfl⟩ | ⟨hne, _⟩
  · exact ⟨_, rfl, by simp only [VR], hb⟩
  · exact absurd ha hne
theorem or_fold0 (h : e.OK id w) (ha : e.all = []) : KEok Try.prog (orE e id) w ⟨18, [.agg [i8 e.base.p, i8 e.base.t, i8 e.base.k], .slice none 0 0], [], resV⟩ := by
  intro φ vs w' hφ h1 h2 hv hpre
  have hv' : vs = [numV e.base, .slice none 0 0] := by
    simp only [VRs] at hv
    obtain ⟨a, bs, rfl, hx, u, us, rfl, hu, rfl⟩ := hv
    rw [num_inv hx]
    simp only [VR] at hu
    rw [hu]
  subst hv'
  refine (fold_calls (g := ⟨[], none, 0, 0, 0⟩) ⟨Nat.zero_le _, (fun x hx => by cases hx), fun i x hx => by simp at hx⟩ (base_fit e)).mono ?_
  rintro en w'' ⟨rfl, hb⟩
  refine ⟨_, rfl, ?_, hb⟩
  have := res_VR (e := e) (id := id) hφ
  rw [ha] at this
  exact this
theorem or_list (h : e.OK id w) (ha : e.all ≠ []) : KE2ok Try.prog (orE e id) w ofE := by
  intro φ vs w' hφ h1 h2 hv hpre hown hinj hfr
  have hv' := or_args hφ hv
  subst hv'
  refine (effects_calls (h.later h1 fun k hk => h2 k hk (fun x => x))).mono ?_
  rintro en w'' ⟨v, rfl, hb, ho⟩
  obtain ⟨φ', g1, g2⟩ := out_res2 (e := ofE) (nx := 7) (j := 144) (n := 158) rfl rfl rfl (hfr 7 (Nat.le_refl _)) (by rw [hφ, ov' 158 (by omega)]; show lenN e.all = _; unfold lenN; rw [if_neg ha]) (by rw [hφ]; rfl) hb ho ha
  exact ⟨v, φ', rfl, g1, g2⟩
theorem or_fold {x : KE2} (h : e.OK id w) (ha : e.all ≠ []) (hx : x = ⟨18, [.agg [i8 e.base.p, i8 e.base.t, i8 e.base.k], .lsl 7 158 0], 8, [(7, .list 144 158 4 [] none)], resV, [(7, .list 144 158 4 [] none)], 8⟩) : KE2ok Try.prog (orE e id) w x := by
  subst hx
  intro φ vs w' hφ h1 h2 hv hpre hown hinj hfr
  obtain ⟨inf, o', hφ0, hw, hO⟩ := hpre (7, .list 144 158 4 [] none) (List.mem_singleton.2 rfl)
  have hn : (φ.ρ.int 158).toNat = e.all.length := by
    rw [hφ, ov' 158 (by omega)]
    show (lenN e.all).toNat = _
    unfold lenN
    rw [if_neg ha]
    simp
  have hg := list_fo (R := e.all) hw hO (by rw [hφ]; rfl) (by have := all_len h; omega) (all_fit h)
  have hv' : vs = [numV e.base, .slice (some ⟨inf.blk, inf.off, none⟩) e.all.length (e.all.length + inf.slack)] := by
    simp only [VRs] at hv
    obtain ⟨a, bs, rfl, hx, u, us, rfl, hu, rfl⟩ := hv
    rw [num_inv hx]
    simp only [VR] at hu
    obtain ⟨inf', g1, rfl⟩ := hu
    have g1' : φ 7 = some inf' := g1
    rw [show φ 7 = some inf from hφ0] at g1'
    cases g1'
    rw [hn]
    rfl
  subst hv'
  refine (fold_calls hg (base_fit e)).mono ?_
  rintro en w'' ⟨rfl, hb⟩
  exact ⟨_, φ, rfl, res_VR hφ, keep_res2 rfl rfl hφ0 hw hO hb⟩
end
end
end Go.Proofs.Ytgbhmkdldfhamaa.order
namespace Go.Proofs.Ytgbhmkdldfhamaa.order
open Go.Ev Go.RowKit
set_option linter.unusedVariables false
noncomputable section
/-- What chars.Of tells. -/
def EfG.ofV (e : EfG) : Value := if e.b.card = 2 then .tuple ⟨[numV ⟨0, 0, 0⟩, .bool false]⟩ else .tuple ⟨[numV (foldN e.base e.all), .bool true]⟩
section
variable {w : World} {e : EfG} {id : Int}
theorem or_args' : VRs ⟨fun _ => none, orE e id⟩ [.sym 90, stV, si 3] [e.p.v, e.g.v, .int .i64 id] := by
  have v90 : (orE e id).val 90 = e.p.v := or_ce.v 90 (by omega)
  have i3 : (orE e id).int 3 = id := or_ce.i 3 (by omega)
  exact cons_VR (by simp only [VR, v90]) (cons_VR (stV_VR or_st) (cons_VR (by simp only [si, VR, i3]) nil_VR))
theorem of_endT {φ : Phi} {v : Value} (hφ : φ.ρ = orE e id) (h2 : ¬ e.b.card = 2) (k : VR φ (.tuple [.agg [si 176, si 177, si 178], .bool true]) v) : v = e.ofV := by
  have a : (orE e id).int 176 = (foldN e.base e.all).p := ov' 176 (by omega)
  have b : (orE e id).int 177 = (foldN e.base e.all).t := ov' 177 (by omega)
  have c : (orE e id).int 178 = (foldN e.base e.all).k := ov' 178 (by omega)
  simp only [VR, VRs, si, hφ, a, b, c] at k
  obtain ⟨_, ⟨_, _, rfl, ⟨_, ⟨_, _, rfl, rfl, _, _, rfl, rfl, _, _, rfl, rfl, rfl⟩, rfl⟩, _, _, rfl, rfl, rfl⟩, rfl⟩ := k
  unfold EfG.ofV
  rw [if_neg h2]
  rfl
theorem of_endF {φ : Phi} {v : Value} (h2 : e.b.card = 2) (k : VR φ (.tuple [.agg [.int .i64 0, .int .i64 0, .int .i64 0], .bool false]) v) : v = e.ofV := by
  simp only [VR, VRs] at k
  obtain ⟨_, ⟨_, _, rfl, ⟨_, ⟨_, _, rfl, rfl, _, _, rfl, rfl, _, _, rfl, rfl, rfl⟩, rfl⟩, _, _, rfl, rfl, rfl⟩, rfl⟩ := k
  unfold EfG.ofV
  rw [if_pos h2]
  rfl
theorem of_on (h : e.OK id w) (ha : e.all = []) (hc : e.b.card ≤ 2) : Calls Try.prog 10 ⟨[e.p.v, e.g.v, .int .i64 id]⟩ w fun en w' => en = .returned e.ofV ∧ Below w.heap.size w w' := by
  letI : Ext := extKA Try.prog onKT onK2
  have hb : e.base = base1 := by unfold EfG.base; rw [if_neg (by omega)]
  have hx : @Ext.ok (extKA Try.prog onKT onK2) (orE e id) w := ⟨fun x hx => by
    simp only [onKT, List.mem_cons, List.not_mem_nil, or_false] at hx
    rcases hx with rfl | rfl | rfl | rfl
    · exact or_find h
    · exact or_has h
    · exact or_nil h ha
    · have := or_fold0 h ha
      rw [hb] at this
      exact this, (fun x hx => by cases hx)⟩
  have ok0 : onc0.OK w (orE e id) := CutP.ok_of hx (iv_or h (by rw [or_ce.i 121 (by omega)]; exact ⟨h.c0, hc⟩)) (or_env h)
  have ok1 : onc1.OK w (orE e id) := okEm hx rfl rfl (or_fits h)
  have i121 : (orE e id).int 121 = e.b.card := or_ce.i 121 (by omega)
  have c0 := h.c0
  have hst : HSim w ⟨fun _ => none, orE e id⟩ ⟨onc0.env (orE e id), .lf, 0⟩ w := HSim.startE ((ok0.env _ rfl).ok ok0.ext) (fun r b hb => by rw [show (onc0.env (orE e id)).blk = fun _ => none from onauto.blk 0 onc0 rfl _ _] at hb; cases hb)
  have ok2 : onc2.OK w (orE e id) := okEm hx rfl rfl (or_fits h)
  by_cases h2 : e.b.card = 2
  · have hr : RunsH onC w 2 (orE e id) 0 0 (orE e id) := .exit (c := onc0) (d := onc2) (xs := []) rfl ok0 (by
      show valX ont0 _ = _
      simp only [ont0, valX, i121, h2]
      split <;> rfl) rfl rfl agree00 trivial ok2
    refine (autoH_calls onauto (f := 10) Try.func10 rfl (F := ⟨w, fun _ => none⟩) (fun i inf hi => by cases hi) (args := [.sym 90, stV, si 3]) (c := onc0) (d := onc2) (p0 := 0) (by kernel_rfl) rfl rfl rfl rfl hst or_args' hr).mono ?_
    rintro en w' ⟨v, rfl, φ, hφ, k1, k2, k3⟩
    refine ⟨?_, k3.wk.os, k3.wk.tape, k3.wk.output, k3.wk.size, fun k hk => k2.old.same k hk (fun x => x)⟩
    rw [of_endF h2 k1]
  have hr : RunsH onC w 1 (orE e id) 0 0 (orE e id) := .exit (c := onc0) (d := onc1) (xs := [si 178, si 177, si 176]) rfl ok0 (by
    show valX ont0 _ = _
    simp only [ont0, valX, i121]
    by_cases hz : e.b.card ≤ 0
    · simp only [if_pos hz]; split <;> rfl
    · simp only [if_neg hz, if_pos (show e.b.card ≤ 1 by omega)]; split <;> rfl) rfl rfl agree00 ⟨car_i rfl, car_i rfl, car_i rfl, trivial⟩ ok1
  refine (autoH_calls onauto (f := 10) Try.func10 rfl (F := ⟨w, fun _ => none⟩) (fun i inf hi => by cases hi) (args := [.sym 90, stV, si 3]) (c := onc0) (d := onc1) (p0 := 0) (by kernel_rfl) rfl rfl rfl rfl hst or_args' hr).mono ?_
  rintro en w' ⟨v, rfl, φ, hφ, k1, k2, k3⟩
  refine ⟨?_, k3.wk.os, k3.wk.tape, k3.wk.output, k3.wk.size, fun k hk => k2.old.same k hk (fun x => x)⟩
  rw [of_endT hφ h2 k1]
theorem of_ol (h : e.OK id w) (ha : e.all ≠ []) (hc : e.b.card ≤ 2) : Calls Try.prog 10 ⟨[e.p.v, e.g.v, .int .i64 id]⟩ w fun en w' => en = .returned e.ofV ∧ Below w.heap.size w w' := by
  letI : Ext := extKA Try.prog olKT olK2
  have hb : e.base = base1 := by unfold EfG.base; rw [if_neg (by omega)]
  have hx : @Ext.ok (extKA Try.prog olKT olK2) (orE e id) w := ⟨fun x hx => by
    simp only [olKT, List.mem_cons, List.not_mem_nil, or_false] at hx
    rcases hx with rfl | rfl
    · exact or_find h
    · exact or_has h, fun x hx => by
    simp only [olK2, List.mem_cons, List.not_mem_nil, or_false] at hx
    rcases hx with rfl | rfl
    · exact or_list h ha
    · exact or_fold h ha (by rw [hb]; rfl)⟩
  have ok0 : olc0.OK w (orE e id) := CutP.ok_of hx (iv_or h (by rw [or_ce.i 121 (by omega)]; exact ⟨h.c0, hc⟩)) (or_env h)
  have ok1 : olc1.OK w (orE e id) := okEm hx rfl rfl (or_fits h)
  have i121 : (orE e id).int 121 = e.b.card := or_ce.i 121 (by omega)
  have c0 := h.c0
  have hst : HSim w ⟨fun _ => none, orE e id⟩ ⟨olc0.env (orE e id), .lf, 0⟩ w := HSim.startE ((ok0.env _ rfl).ok ok0.ext) (fun r b hb => by rw [show (olc0.env (orE e id)).blk = fun _ => none from olauto.blk 0 olc0 rfl _ _] at hb; cases hb)
  have ok2 : olc2.OK w (orE e id) := okEm hx rfl rfl (or_fits h)
  by_cases h2 : e.b.card = 2
  · have hr : RunsH olC w 2 (orE e id) 0 0 (orE e id) := .exit (c := olc0) (d := olc2) (xs := []) rfl ok0 (by
      show valX olt0 _ = _
      simp only [olt0, valX, i121, h2]
      split <;> rfl) rfl rfl agree00 trivial ok2
    refine (autoH_calls olauto (f := 10) Try.func10 rfl (F := ⟨w, fun _ => none⟩) (fun i inf hi => by cases hi) (args := [.sym 90, stV, si 3]) (c := olc0) (d := olc2) (p0 := 0) (by kernel_rfl) rfl rfl rfl rfl hst or_args' hr).mono ?_
    rintro en w' ⟨v, rfl, φ, hφ, k1, k2, k3⟩
    refine ⟨?_, k3.wk.os, k3.wk.tape, k3.wk.output, k3.wk.size, fun k hk => k2.old.same k hk (fun x => x)⟩
    rw [of_endF h2 k1]
  have hr : RunsH olC w 1 (orE e id) 0 0 (orE e id) := .exit (c := olc0) (d := olc1) (xs := [si 178, si 177, si 176]) rfl ok0 (by
    show valX olt0 _ = _
    simp only [olt0, valX, i121]
    by_cases hz : e.b.card ≤ 0
    · simp only [if_pos hz]; split <;> rfl
    · simp only [if_neg hz, if_pos (show e.b.card ≤ 1 by omega)]; split <;> rfl) rfl rfl agree00 ⟨car_i rfl, car_i rfl, car_i rfl, trivial⟩ ok1
  refine (autoH_calls olauto (f := 10) Try.func10 rfl (F := ⟨w, fun _ => none⟩) (fun i inf hi => by cases hi) (args := [.sym 90, stV, si 3]) (c := olc0) (d := olc1) (p0 := 0) (by kernel_rfl) rfl rfl rfl rfl hst or_args' hr).mono ?_
  rintro en w' ⟨v, rfl, φ, hφ, k1, k2, k3⟩
  refine ⟨?_, k3.wk.os, k3.wk.tape, k3.wk.output, k3.wk.size, fun k hk => k2.old.same k hk (fun x => x)⟩
  rw [of_endT hφ h2 k1]
theorem of_ok (h : e.OK id w) (ha : e.all = []) (hc : e.b.card = 3) : Calls Try.prog 10 ⟨[e.p.v, e.g.v, .int .i64 id]⟩ w fun en w' => en = .returned e.ofV ∧ Below w.heap.size w w' := by
  letI : Ext := extKA Try.prog okKT okK2
  have hb : e.base = base2 := by unfold EfG.base; rw [if_pos hc]
  have hx : @Ext.ok (extKA Try.prog okKT okK2) (orE e id) w := ⟨fun x hx => by
    simp only [okKT, List.mem_cons, List.not_mem_nil, or_false] at hx
    rcases hx with rfl | rfl | rfl | rfl
    · exact or_find h
    · exact or_has h
    · exact or_nil h ha
    · have := or_fold0 h ha
      rw [hb] at this
      exact this, (fun x hx => by cases hx)⟩
  have ok0 : okc0.OK w (orE e id) := CutP.ok_of hx (iv_or3 h (by rw [or_ce.i 121 (by omega)]; show (3 : Int) ≤ e.b.card ∧ e.b.card ≤ 3; omega)) (or_env h)
  have ok1 : okc1.OK w (orE e id) := okEm hx rfl rfl (or_fits h)
  have i121 : (orE e id).int 121 = e.b.card := or_ce.i 121 (by omega)
  have c0 := h.c0
  have hst : HSim w ⟨fun _ => none, orE e id⟩ ⟨okc0.env (orE e id), .lf, 0⟩ w := HSim.startE ((ok0.env _ rfl).ok ok0.ext) (fun r b hb => by rw [show (okc0.env (orE e id)).blk = fun _ => none from okauto.blk 0 okc0 rfl _ _] at hb; cases hb)
  have hr : RunsH okC w 1 (orE e id) 0 0 (orE e id) := .exit (c := okc0) (d := okc1) (xs := [si 178, si 177, si 176]) rfl ok0 (by
    show valX okt0 _ = _
    simp only [okt0, valX]
    split <;> rfl) rfl rfl agree00 ⟨car_i rfl, car_i rfl, car_i rfl, trivial⟩ ok1
  refine (autoH_calls okauto (f := 10) Try.func10 rfl (F := ⟨w, fun _ => none⟩) (fun i inf hi => by cases hi) (args := [.sym 90, stV, si 3]) (c := okc0) (d := okc1) (p0 := 0) (by kernel_rfl) rfl rfl rfl rfl hst or_args' hr).mono ?_
  rintro en w' ⟨v, rfl, φ, hφ, k1, k2, k3⟩
  refine ⟨?_, k3.wk.os, k3.wk.tape, k3.wk.output, k3.wk.size, fun k hk => k2.old.same k hk (fun x => x)⟩
  rw [of_endT hφ (by omega) k1]
theorem of_oj (h : e.OK id w) (ha : e.all ≠ []) (hc : e.b.card = 3) : Calls Try.prog 10 ⟨[e.p.v, e.g.v, .int .i64 id]⟩ w fun en w' => en = .returned e.ofV ∧ Below w.heap.size w w' := by
  letI : Ext := extKA Try.prog ojKT ojK2
  have hb : e.base = base2 := by unfold EfG.base; rw [if_pos hc]
  have hx : @Ext.ok (extKA Try.prog ojKT ojK2) (orE e id) w := ⟨fun x hx => by
    simp only [ojKT, List.mem_cons, List.not_mem_nil, or_false] at hx
    rcases hx with rfl | rfl
    · exact or_find h
    · exact or_has h, fun x hx => by
    simp only [ojK2, List.mem_cons, List.not_mem_nil, or_false] at hx
    rcases hx with rfl | rfl
    · exact or_list h ha
    · exact or_fold h ha (by rw [hb]; rfl)⟩
  have ok0 : ojc0.OK w (orE e id) := CutP.ok_of hx (iv_or3 h (by rw [or_ce.i 121 (by omega)]; show (3 : Int) ≤ e.b.card ∧ e.b.card ≤ 3; omega)) (or_env h)
  have ok1 : ojc1.OK w (orE e id) := okEm hx rfl rfl (or_fits h)
  have i121 : (orE e id).int 121 = e.b.card := or_ce.i 121 (by omega)
  have c0 := h.c0
  have hst : HSim w ⟨fun _ => none, orE e id⟩ ⟨ojc0.env (orE e id), .lf, 0⟩ w := HSim.startE ((ok0.env _ rfl).ok ok0.ext) (fun r b hb => by rw [show (ojc0.env (orE e id)).blk = fun _ => none from ojauto.blk 0 ojc0 rfl _ _] at hb; cases hb)
  have hr : RunsH ojC w 1 (orE e id) 0 0 (orE e id) := .exit (c := ojc0) (d := ojc1) (xs := [si 178, si 177, si 176]) rfl ok0 (by
    show valX ojt0 _ = _
    simp only [ojt0, valX]
    split <;> rfl) rfl rfl agree00 ⟨car_i rfl, car_i rfl, car_i rfl, trivial⟩ ok1
  refine (autoH_calls ojauto (f := 10) Try.func10 rfl (F := ⟨w, fun _ => none⟩) (fun i inf hi => by cases hi) (args := [.sym 90, stV, si 3]) (c := ojc0) (d := ojc1) (p0 := 0) (by kernel_rfl) rfl rfl rfl rfl hst or_args' hr).mono ?_
  rintro en w' ⟨v, rfl, φ, hφ, k1, k2, k3⟩
  refine ⟨?_, k3.wk.os, k3.wk.tape, k3.wk.output, k3.wk.size, fun k hk => k2.old.same k hk (fun x => x)⟩
  rw [of_endT hφ (by omega) k1]
/-- chars.Of, over the small pool. -/
theorem of_calls (h : e.OK id w) : Calls Try.prog 10 ⟨[e.p.v, e.g.v, .int .i64 id]⟩ w fun en w' => en = .returned e.ofV ∧ Below w.heap.size w w' := by
  have c3 := h.c3
  by_cases hc : e.b.card = 3
  · by_cases ha : e.all = []
    · exact of_ok h ha hc
    · exact of_oj h ha hc
  · by_cases ha : e.all = []
    · exact of_on h ha (by omega)
    · exact of_ol h ha (by omega)
end
end
end Go.Proofs.Ytgbhmkdldfhamaa.order
