/-
  Events: cuts, trees of cases (printed by a program of ours).
-/
import Derived.Test.YtjfbakhebdhbmaaDoorTxE
namespace Go.Proofs.YtjfbakhebdhbmaaDoor.event
open Go.Ev Go.RowKit
set_option linter.unusedVariables false
noncomputable section
noncomputable def kte : List KE := [⟨26, [(.sint .i64 1)], [], (.sym 26)⟩, ⟨26, [(.sint .i64 2)], [], (.sym 28)⟩, ⟨26, [(.sint .i64 3)], [], (.sym 30)⟩, ⟨26, [(.sint .i64 4)], [], (.sym 32)⟩, ⟨26, [(.sint .i64 6)], [], (.sym 34)⟩, ⟨26, [(.sint .i64 7)], [], (.sym 36)⟩, ⟨26, [(.sint .i64 8)], [], (.sym 38)⟩, ⟨26, [(.sint .i64 9)], [], (.sym 40)⟩, ⟨26, [(.sint .i64 10)], [], (.sym 42)⟩, ⟨26, [(.sint .i64 20)], [], (.sym 44)⟩, ⟨26, [(.sint .i64 21)], [], (.sym 46)⟩, ⟨26, [(.sint .i64 22)], [], (.sym 48)⟩, ⟨26, [(.sint .i64 23)], [], (.sym 50)⟩]
noncomputable def eva (k : Int) : VV := .agg [.int .i64 k, .sint .i64 1, .sint .i64 2, .sint .i64 3, .sint .i64 4, .sym 0, .sint .i64 5, .sint .i64 6, .sint .i64 7, .sint .i64 8, .sint .i64 9, .sint .i64 10, .sym 11]
noncomputable def xt1xiv0 : Ivs := [(-9223372036854775808, 9223372036854775807), (-9223372036854775808, 9223372036854775807), (-9223372036854775808, 9223372036854775807), (-9223372036854775808, 9223372036854775807), (-9223372036854775808, 9223372036854775807), (-9223372036854775808, 9223372036854775807), (-9223372036854775808, 9223372036854775807), (-9223372036854775808, 9223372036854775807), (-9223372036854775808, 9223372036854775807), (-9223372036854775808, 9223372036854775807), (-9223372036854775808, 9223372036854775807), (-9223372036854775808, 9223372036854775807), (0, 0), (0, 0), (0, 260), (1, 261), (-9223372036854775808, 9223372036854775807), (-9223372036854775808, 9223372036854775807), (-9223372036854775808, 9223372036854775807), (-9223372036854775808, 9223372036854775807), (-9223372036854775808, 9223372036854775807), (-9223372036854775808, 9223372036854775807), (-9223372036854775808, 9223372036854775807), (-9223372036854775808, 9223372036854775807), (-9223372036854775808, 9223372036854775807), (0, 0), (-9223372036854775808, 9223372036854775807), (1, 20), (-9223372036854775808, 9223372036854775807), (1, 20), (-9223372036854775808, 9223372036854775807), (1, 20), (-9223372036854775808, 9223372036854775807), (1, 20), (-9223372036854775808, 9223372036854775807), (1, 20), (-9223372036854775808, 9223372036854775807), (1, 20), (-9223372036854775808, 9223372036854775807), (1, 20), (-9223372036854775808, 9223372036854775807), (1, 20), (-9223372036854775808, 9223372036854775807), (1, 20), (-9223372036854775808, 9223372036854775807), (1, 20), (-9223372036854775808, 9223372036854775807), (1, 20), (-9223372036854775808, 9223372036854775807), (1, 20), (-9223372036854775808, 9223372036854775807), (1, 20), (-9223372036854775808, 9223372036854775807), (1, 6000)]
noncomputable def xt1xt0 : TrX Leaf := (.leaf (.ret (.cat [(.string ⟨#[110, 101, 119, 32]⟩), (.sym 26), (.string ⟨#[32]⟩), (.sym 28), (.string ⟨#[32]⟩), (.sym 30), (.string ⟨#[32]⟩), (.sym 32)])))
noncomputable def tsh0 : VT := (.nd .lf (some (.agg [(.int .i64 (1)), (.sint .i64 1), (.sint .i64 2), (.sint .i64 3), (.sint .i64 4), (.sym 0), (.sint .i64 5), (.sint .i64 6), (.sint .i64 7), (.sint .i64 8), (.sint .i64 9), (.sint .i64 10), (.sym 11)])) .lf)
noncomputable def xt1xc0 : CutP := ⟨none, tsh0, .lf, 0, 0, [], xt1xiv0, Tev, xt1xt0⟩
noncomputable def xt1xKT : List KE := [⟨9, [eva 1], [], (.sint .i64 25)⟩] ++ kte
noncomputable def xt1xK2 : List KE2 := findK2
noncomputable def xt1xC : List CutP := [xt1xc0]
noncomputable def xt1xbody : Code := match Tryd.f11.body with | some c => c | none => .skip
noncomputable def xt1xlf (c : CutP) : Ivs → List Fact → Leaf → Bool := chkLf Tryd.prog (rcKA Tryd.prog xt1xKT xt1xK2 20000) Tryd.f11.ntmps [] 1000 Tryd.f11.results.toList xt1xbody xt1xC c
noncomputable def xt2xt0 : TrX Leaf := (.leaf (.ret (.cat [(.string ⟨#[109, 111, 118, 101, 32]⟩), (.sym 26), (.string ⟨#[32]⟩), (.sym 28), (.string ⟨#[32]⟩), (.sym 30)])))
noncomputable def tsh1 : VT := (.nd .lf (some (.agg [(.int .i64 (2)), (.sint .i64 1), (.sint .i64 2), (.sint .i64 3), (.sint .i64 4), (.sym 0), (.sint .i64 5), (.sint .i64 6), (.sint .i64 7), (.sint .i64 8), (.sint .i64 9), (.sint .i64 10), (.sym 11)])) .lf)
noncomputable def xt2xc0 : CutP := ⟨none, tsh1, .lf, 0, 0, [], xt1xiv0, Tev, xt2xt0⟩
noncomputable def xt2xKT : List KE := [⟨9, [eva 2], [], (.sint .i64 25)⟩] ++ kte
noncomputable def xt2xK2 : List KE2 := findK2
noncomputable def xt2xC : List CutP := [xt2xc0]
noncomputable def xt2xbody : Code := match Tryd.f11.body with | some c => c | none => .skip
noncomputable def xt2xlf (c : CutP) : Ivs → List Fact → Leaf → Bool := chkLf Tryd.prog (rcKA Tryd.prog xt2xKT xt2xK2 20000) Tryd.f11.ntmps [] 1000 Tryd.f11.results.toList xt2xbody xt2xC c
noncomputable def xt3xt0 : TrX Leaf := (.leaf (.ret (.cat [(.string ⟨#[116, 97, 112, 32]⟩), (.sym 26), (.string ⟨#[32]⟩), (.sym 30)])))
noncomputable def tsh2 : VT := (.nd .lf (some (.agg [(.int .i64 (3)), (.sint .i64 1), (.sint .i64 2), (.sint .i64 3), (.sint .i64 4), (.sym 0), (.sint .i64 5), (.sint .i64 6), (.sint .i64 7), (.sint .i64 8), (.sint .i64 9), (.sint .i64 10), (.sym 11)])) .lf)
noncomputable def xt3xc0 : CutP := ⟨none, tsh2, .lf, 0, 0, [], xt1xiv0, Tev, xt3xt0⟩
noncomputable def xt3xKT : List KE := [⟨9, [eva 3], [], (.sint .i64 25)⟩] ++ kte
noncomputable def xt3xK2 : List KE2 := findK2
noncomputable def xt3xC : List CutP := [xt3xc0]
noncomputable def xt3xbody : Code := match Tryd.f11.body with | some c => c | none => .skip
noncomputable def xt3xlf (c : CutP) : Ivs → List Fact → Leaf → Bool := chkLf Tryd.prog (rcKA Tryd.prog xt3xKT xt3xK2 20000) Tryd.f11.ntmps [] 1000 Tryd.f11.results.toList xt3xbody xt3xC c
noncomputable def xt4xt0 : TrX Leaf := (.leaf (.ret (.cat [(.string ⟨#[115, 105, 99, 107, 32]⟩), (.sym 26), (.string ⟨#[32]⟩), (.sym 30)])))
noncomputable def tsh3 : VT := (.nd .lf (some (.agg [(.int .i64 (4)), (.sint .i64 1), (.sint .i64 2), (.sint .i64 3), (.sint .i64 4), (.sym 0), (.sint .i64 5), (.sint .i64 6), (.sint .i64 7), (.sint .i64 8), (.sint .i64 9), (.sint .i64 10), (.sym 11)])) .lf)
noncomputable def xt4xc0 : CutP := ⟨none, tsh3, .lf, 0, 0, [], xt1xiv0, Tev, xt4xt0⟩
noncomputable def xt4xKT : List KE := [⟨9, [eva 4], [], (.sint .i64 25)⟩] ++ kte
noncomputable def xt4xK2 : List KE2 := findK2
noncomputable def xt4xC : List CutP := [xt4xc0]
noncomputable def xt4xbody : Code := match Tryd.f11.body with | some c => c | none => .skip
noncomputable def xt4xlf (c : CutP) : Ivs → List Fact → Leaf → Bool := chkLf Tryd.prog (rcKA Tryd.prog xt4xKT xt4xK2 20000) Tryd.f11.ntmps [] 1000 Tryd.f11.results.toList xt4xbody xt4xC c
noncomputable def xt5xt0 : TrX Leaf := (.leaf (.ret (.cat [(.string ⟨#[104, 117, 114, 116, 32]⟩), (.sym 26), (.string ⟨#[32]⟩), (.sym 30)])))
noncomputable def tsh4 : VT := (.nd .lf (some (.agg [(.int .i64 (5)), (.sint .i64 1), (.sint .i64 2), (.sint .i64 3), (.sint .i64 4), (.sym 0), (.sint .i64 5), (.sint .i64 6), (.sint .i64 7), (.sint .i64 8), (.sint .i64 9), (.sint .i64 10), (.sym 11)])) .lf)
noncomputable def xt5xc0 : CutP := ⟨none, tsh4, .lf, 0, 0, [], xt1xiv0, Tev, xt5xt0⟩
noncomputable def xt5xKT : List KE := [⟨9, [eva 5], [], (.sint .i64 25)⟩] ++ kte
noncomputable def xt5xK2 : List KE2 := findK2
noncomputable def xt5xC : List CutP := [xt5xc0]
noncomputable def xt5xbody : Code := match Tryd.f11.body with | some c => c | none => .skip
noncomputable def xt5xlf (c : CutP) : Ivs → List Fact → Leaf → Bool := chkLf Tryd.prog (rcKA Tryd.prog xt5xKT xt5xK2 20000) Tryd.f11.ntmps [] 1000 Tryd.f11.results.toList xt5xbody xt5xC c
noncomputable def xt6xt0 : TrX Leaf := (.leaf (.ret (.cat [(.string ⟨#[104, 101, 97, 108, 32]⟩), (.sym 26)])))
noncomputable def tsh5 : VT := (.nd .lf (some (.agg [(.int .i64 (6)), (.sint .i64 1), (.sint .i64 2), (.sint .i64 3), (.sint .i64 4), (.sym 0), (.sint .i64 5), (.sint .i64 6), (.sint .i64 7), (.sint .i64 8), (.sint .i64 9), (.sint .i64 10), (.sym 11)])) .lf)
noncomputable def xt6xc0 : CutP := ⟨none, tsh5, .lf, 0, 0, [], xt1xiv0, Tev, xt6xt0⟩
noncomputable def xt6xKT : List KE := [⟨9, [eva 6], [], (.sint .i64 25)⟩] ++ kte
noncomputable def xt6xK2 : List KE2 := findK2
noncomputable def xt6xC : List CutP := [xt6xc0]
noncomputable def xt6xbody : Code := match Tryd.f11.body with | some c => c | none => .skip
noncomputable def xt6xlf (c : CutP) : Ivs → List Fact → Leaf → Bool := chkLf Tryd.prog (rcKA Tryd.prog xt6xKT xt6xK2 20000) Tryd.f11.ntmps [] 1000 Tryd.f11.results.toList xt6xbody xt6xC c
noncomputable def xt7xt0 : TrX Leaf := (.leaf (.ret (.cat [(.string ⟨#[108, 105, 102, 101, 32]⟩), (.sym 26), (.string ⟨#[32]⟩), (.sym 30)])))
noncomputable def tsh6 : VT := (.nd .lf (some (.agg [(.int .i64 (7)), (.sint .i64 1), (.sint .i64 2), (.sint .i64 3), (.sint .i64 4), (.sym 0), (.sint .i64 5), (.sint .i64 6), (.sint .i64 7), (.sint .i64 8), (.sint .i64 9), (.sint .i64 10), (.sym 11)])) .lf)
noncomputable def xt7xc0 : CutP := ⟨none, tsh6, .lf, 0, 0, [], xt1xiv0, Tev, xt7xt0⟩
noncomputable def xt7xKT : List KE := [⟨9, [eva 7], [], (.sint .i64 25)⟩] ++ kte
noncomputable def xt7xK2 : List KE2 := findK2
noncomputable def xt7xC : List CutP := [xt7xc0]
noncomputable def xt7xbody : Code := match Tryd.f11.body with | some c => c | none => .skip
noncomputable def xt7xlf (c : CutP) : Ivs → List Fact → Leaf → Bool := chkLf Tryd.prog (rcKA Tryd.prog xt7xKT xt7xK2 20000) Tryd.f11.ntmps [] 1000 Tryd.f11.results.toList xt7xbody xt7xC c
noncomputable def xt8xt0 : TrX Leaf := (.leaf (.ret (.cat [(.string ⟨#[109, 97, 110, 97, 32]⟩), (.sym 26), (.string ⟨#[32]⟩), (.sym 28), (.string ⟨#[32]⟩), (.sym 30)])))
noncomputable def tsh7 : VT := (.nd .lf (some (.agg [(.int .i64 (8)), (.sint .i64 1), (.sint .i64 2), (.sint .i64 3), (.sint .i64 4), (.sym 0), (.sint .i64 5), (.sint .i64 6), (.sint .i64 7), (.sint .i64 8), (.sint .i64 9), (.sint .i64 10), (.sym 11)])) .lf)
noncomputable def xt8xc0 : CutP := ⟨none, tsh7, .lf, 0, 0, [], xt1xiv0, Tev, xt8xt0⟩
noncomputable def xt8xKT : List KE := [⟨9, [eva 8], [], (.sint .i64 25)⟩] ++ kte
noncomputable def xt8xK2 : List KE2 := findK2
noncomputable def xt8xC : List CutP := [xt8xc0]
noncomputable def xt8xbody : Code := match Tryd.f11.body with | some c => c | none => .skip
noncomputable def xt8xlf (c : CutP) : Ivs → List Fact → Leaf → Bool := chkLf Tryd.prog (rcKA Tryd.prog xt8xKT xt8xK2 20000) Tryd.f11.ntmps [] 1000 Tryd.f11.results.toList xt8xbody xt8xC c
noncomputable def xt9xt0 : TrX Leaf := (.leaf (.ret (.cat [(.string ⟨#[108, 97, 110, 100, 32]⟩), (.sym 26), (.string ⟨#[32]⟩), (.sym 30)])))
noncomputable def tsh8 : VT := (.nd .lf (some (.agg [(.int .i64 (9)), (.sint .i64 1), (.sint .i64 2), (.sint .i64 3), (.sint .i64 4), (.sym 0), (.sint .i64 5), (.sint .i64 6), (.sint .i64 7), (.sint .i64 8), (.sint .i64 9), (.sint .i64 10), (.sym 11)])) .lf)
noncomputable def xt9xc0 : CutP := ⟨none, tsh8, .lf, 0, 0, [], xt1xiv0, Tev, xt9xt0⟩
noncomputable def xt9xKT : List KE := [⟨9, [eva 9], [], (.sint .i64 25)⟩] ++ kte
noncomputable def xt9xK2 : List KE2 := findK2
noncomputable def xt9xC : List CutP := [xt9xc0]
noncomputable def xt9xbody : Code := match Tryd.f11.body with | some c => c | none => .skip
noncomputable def xt9xlf (c : CutP) : Ivs → List Fact → Leaf → Bool := chkLf Tryd.prog (rcKA Tryd.prog xt9xKT xt9xK2 20000) Tryd.f11.ntmps [] 1000 Tryd.f11.results.toList xt9xbody xt9xC c
noncomputable def xt10xt0 : TrX Leaf := (.leaf (.ret (.cat [(.string ⟨#[101, 102, 102, 101, 99, 116, 32]⟩), (.sym 26), (.string ⟨#[32]⟩), (.sym 28), (.string ⟨#[32]⟩), (.sym 30), (.string ⟨#[32]⟩), (.sym 32)])))
noncomputable def tsh9 : VT := (.nd .lf (some (.agg [(.int .i64 (10)), (.sint .i64 1), (.sint .i64 2), (.sint .i64 3), (.sint .i64 4), (.sym 0), (.sint .i64 5), (.sint .i64 6), (.sint .i64 7), (.sint .i64 8), (.sint .i64 9), (.sint .i64 10), (.sym 11)])) .lf)
noncomputable def xt10xc0 : CutP := ⟨none, tsh9, .lf, 0, 0, [], xt1xiv0, Tev, xt10xt0⟩
noncomputable def xt10xKT : List KE := [⟨9, [eva 10], [], (.sint .i64 25)⟩] ++ kte
noncomputable def xt10xK2 : List KE2 := findK2
noncomputable def xt10xC : List CutP := [xt10xc0]
noncomputable def xt10xbody : Code := match Tryd.f11.body with | some c => c | none => .skip
noncomputable def xt10xlf (c : CutP) : Ivs → List Fact → Leaf → Bool := chkLf Tryd.prog (rcKA Tryd.prog xt10xKT xt10xK2 20000) Tryd.f11.ntmps [] 1000 Tryd.f11.results.toList xt10xbody xt10xC c
noncomputable def xt11xt0 : TrX Leaf := (.leaf (.ret (.cat [(.string ⟨#[99, 111, 111, 108, 32]⟩), (.sym 26)])))
noncomputable def tsh10 : VT := (.nd .lf (some (.agg [(.int .i64 (11)), (.sint .i64 1), (.sint .i64 2), (.sint .i64 3), (.sint .i64 4), (.sym 0), (.sint .i64 5), (.sint .i64 6), (.sint .i64 7), (.sint .i64 8), (.sint .i64 9), (.sint .i64 10), (.sym 11)])) .lf)
noncomputable def xt11xc0 : CutP := ⟨none, tsh10, .lf, 0, 0, [], xt1xiv0, Tev, xt11xt0⟩
noncomputable def xt11xKT : List KE := [⟨9, [eva 11], [], (.sint .i64 25)⟩] ++ kte
noncomputable def xt11xK2 : List KE2 := findK2
noncomputable def xt11xC : List CutP := [xt11xc0]
noncomputable def xt11xbody : Code := match Tryd.f11.body with | some c => c | none => .skip
noncomputable def xt11xlf (c : CutP) : Ivs → List Fact → Leaf → Bool := chkLf Tryd.prog (rcKA Tryd.prog xt11xKT xt11xK2 20000) Tryd.f11.ntmps [] 1000 Tryd.f11.results.toList xt11xbody xt11xC c
noncomputable def xt12xt0 : TrX Leaf := (.leaf (.ret (.cat [(.string ⟨#[97, 116, 116, 97, 99, 107, 32]⟩), (.sym 26), (.string ⟨#[32]⟩), (.sym 28)])))
noncomputable def tsh11 : VT := (.nd .lf (some (.agg [(.int .i64 (12)), (.sint .i64 1), (.sint .i64 2), (.sint .i64 3), (.sint .i64 4), (.sym 0), (.sint .i64 5), (.sint .i64 6), (.sint .i64 7), (.sint .i64 8), (.sint .i64 9), (.sint .i64 10), (.sym 11)])) .lf)
noncomputable def xt12xc0 : CutP := ⟨none, tsh11, .lf, 0, 0, [], xt1xiv0, Tev, xt12xt0⟩
noncomputable def xt12xKT : List KE := [⟨9, [eva 12], [], (.sint .i64 25)⟩] ++ kte
noncomputable def xt12xK2 : List KE2 := findK2
noncomputable def xt12xC : List CutP := [xt12xc0]
noncomputable def xt12xbody : Code := match Tryd.f11.body with | some c => c | none => .skip
noncomputable def xt12xlf (c : CutP) : Ivs → List Fact → Leaf → Bool := chkLf Tryd.prog (rcKA Tryd.prog xt12xKT xt12xK2 20000) Tryd.f11.ntmps [] 1000 Tryd.f11.results.toList xt12xbody xt12xC c
noncomputable def xt13xt0 : TrX Leaf := (.leaf (.ret (.cat [(.string ⟨#[98, 108, 111, 99, 107, 32]⟩), (.sym 26), (.string ⟨#[32]⟩), (.sym 28)])))
noncomputable def tsh12 : VT := (.nd .lf (some (.agg [(.int .i64 (13)), (.sint .i64 1), (.sint .i64 2), (.sint .i64 3), (.sint .i64 4), (.sym 0), (.sint .i64 5), (.sint .i64 6), (.sint .i64 7), (.sint .i64 8), (.sint .i64 9), (.sint .i64 10), (.sym 11)])) .lf)
noncomputable def xt13xc0 : CutP := ⟨none, tsh12, .lf, 0, 0, [], xt1xiv0, Tev, xt13xt0⟩
noncomputable def xt13xKT : List KE := [⟨9, [eva 13], [], (.sint .i64 25)⟩] ++ kte
noncomputable def xt13xK2 : List KE2 := findK2
noncomputable def xt13xC : List CutP := [xt13xc0]
noncomputable def xt13xbody : Code := match Tryd.f11.body with | some c => c | none => .skip
noncomputable def xt13xlf (c : CutP) : Ivs → List Fact → Leaf → Bool := chkLf Tryd.prog (rcKA Tryd.prog xt13xKT xt13xK2 20000) Tryd.f11.ntmps [] 1000 Tryd.f11.results.toList xt13xbody xt13xC c
noncomputable def xt14xt0 : TrX Leaf := (.leaf (.ret (.cat [(.string ⟨#[115, 116, 111, 112, 32]⟩), (.sym 26), (.string ⟨#[32]⟩), (.sym 30)])))
noncomputable def tsh13 : VT := (.nd .lf (some (.agg [(.int .i64 (14)), (.sint .i64 1), (.sint .i64 2), (.sint .i64 3), (.sint .i64 4), (.sym 0), (.sint .i64 5), (.sint .i64 6), (.sint .i64 7), (.sint .i64 8), (.sint .i64 9), (.sint .i64 10), (.sym 11)])) .lf)
noncomputable def xt14xc0 : CutP := ⟨none, tsh13, .lf, 0, 0, [], xt1xiv0, Tev, xt14xt0⟩
noncomputable def xt14xKT : List KE := [⟨9, [eva 14], [], (.sint .i64 25)⟩] ++ kte
noncomputable def xt14xK2 : List KE2 := findK2
noncomputable def xt14xC : List CutP := [xt14xc0]
noncomputable def xt14xbody : Code := match Tryd.f11.body with | some c => c | none => .skip
noncomputable def xt14xlf (c : CutP) : Ivs → List Fact → Leaf → Bool := chkLf Tryd.prog (rcKA Tryd.prog xt14xKT xt14xK2 20000) Tryd.f11.ntmps [] 1000 Tryd.f11.results.toList xt14xbody xt14xC c
noncomputable def xt15xiv0 : Ivs := [(-9223372036854775808, 9223372036854775807), (-9223372036854775808, 9223372036854775807), (-9223372036854775808, 9223372036854775807), (-9223372036854775808, 9223372036854775807), (-9223372036854775808, 9223372036854775807), (-9223372036854775808, 9223372036854775807), (-9223372036854775808, 9223372036854775807), (-9223372036854775808, 9223372036854775807), (-9223372036854775808, 9223372036854775807), (-9223372036854775808, 9223372036854775807), (-9223372036854775808, 9223372036854775807), (-9223372036854775808, 9223372036854775807), (0, 0), (0, 2), (0, 260), (1, 261), (-9223372036854775808, 9223372036854775807), (-9223372036854775808, 9223372036854775807), (-9223372036854775808, 9223372036854775807), (-9223372036854775808, 9223372036854775807), (-9223372036854775808, 9223372036854775807), (-9223372036854775808, 9223372036854775807), (-9223372036854775808, 9223372036854775807), (-9223372036854775808, 9223372036854775807), (-9223372036854775808, 9223372036854775807), (0, 0), (-9223372036854775808, 9223372036854775807), (1, 20), (-9223372036854775808, 9223372036854775807), (1, 20), (-9223372036854775808, 9223372036854775807), (1, 20), (-9223372036854775808, 9223372036854775807), (1, 20), (-9223372036854775808, 9223372036854775807), (1, 20), (-9223372036854775808, 9223372036854775807), (1, 20), (-9223372036854775808, 9223372036854775807), (1, 20), (-9223372036854775808, 9223372036854775807), (1, 20), (-9223372036854775808, 9223372036854775807), (1, 20), (-9223372036854775808, 9223372036854775807), (1, 20), (-9223372036854775808, 9223372036854775807), (1, 20), (-9223372036854775808, 9223372036854775807), (1, 20), (-9223372036854775808, 9223372036854775807), (1, 20), (-9223372036854775808, 9223372036854775807), (1, 6000)]
noncomputable def stu1 : TrX Leaf := (.cut 13 (0) (.leaf (.ret (.cat [(.string ⟨#[112, 117, 115, 104, 32]⟩), (.sym 34), (.string ⟨#[32]⟩), (.sym 36), (.string ⟨#[32]⟩), (.sym 38), (.string ⟨#[32]⟩), (.sym 40), (.string ⟨#[32]⟩), (.sym 42)]))) (.cut 13 (1) (.leaf (.ret (.cat [(.string ⟨#[112, 117, 115, 104, 32]⟩), (.sym 34), (.string ⟨#[32]⟩), (.sym 36), (.string ⟨#[32]⟩), (.sym 38), (.string ⟨#[32]⟩), (.sym 40), (.string ⟨#[32]⟩), (.sym 42), (.string ⟨#[32]⟩), (.sym 44), (.string ⟨#[47]⟩), (.sym 46)]))) (.leaf (.ret (.cat [(.string ⟨#[112, 117, 115, 104, 32]⟩), (.sym 34), (.string ⟨#[32]⟩), (.sym 36), (.string ⟨#[32]⟩), (.sym 38), (.string ⟨#[32]⟩), (.sym 40), (.string ⟨#[32]⟩), (.sym 42), (.string ⟨#[32]⟩), (.sym 44), (.string ⟨#[47]⟩), (.sym 46), (.string ⟨#[32]⟩), (.sym 48), (.string ⟨#[47]⟩), (.sym 50)])))))
noncomputable def xt15xt0 : TrX Leaf := stu1
noncomputable def tsh14 : VT := (.nd .lf (some (.agg [(.int .i64 (15)), (.sint .i64 1), (.sint .i64 2), (.sint .i64 3), (.sint .i64 4), (.sym 0), (.sint .i64 5), (.sint .i64 6), (.sint .i64 7), (.sint .i64 8), (.sint .i64 9), (.sint .i64 10), (.sym 11)])) .lf)
noncomputable def xt15xc0 : CutP := ⟨none, tsh14, .lf, 0, 0, [], xt15xiv0, Tev, xt15xt0⟩
noncomputable def xt15xKT : List KE := [⟨9, [eva 15], [], (.sint .i64 25)⟩] ++ kte
noncomputable def xt15xK2 : List KE2 := findK2
noncomputable def xt15xC : List CutP := [xt15xc0]
noncomputable def xt15xbody : Code := match Tryd.f11.body with | some c => c | none => .skip
noncomputable def xt15xlf (c : CutP) : Ivs → List Fact → Leaf → Bool := chkLf Tryd.prog (rcKA Tryd.prog xt15xKT xt15xK2 20000) Tryd.f11.ntmps [] 1000 Tryd.f11.results.toList xt15xbody xt15xC c
noncomputable def xt16xt0 : TrX Leaf := (.leaf (.ret (.cat [(.string ⟨#[112, 111, 112, 32]⟩), (.sym 26)])))
noncomputable def tsh15 : VT := (.nd .lf (some (.agg [(.int .i64 (16)), (.sint .i64 1), (.sint .i64 2), (.sint .i64 3), (.sint .i64 4), (.sym 0), (.sint .i64 5), (.sint .i64 6), (.sint .i64 7), (.sint .i64 8), (.sint .i64 9), (.sint .i64 10), (.sym 11)])) .lf)
noncomputable def xt16xc0 : CutP := ⟨none, tsh15, .lf, 0, 0, [], xt1xiv0, Tev, xt16xt0⟩
noncomputable def xt16xKT : List KE := [⟨9, [eva 16], [], (.sint .i64 25)⟩] ++ kte
noncomputable def xt16xK2 : List KE2 := findK2
noncomputable def xt16xC : List CutP := [xt16xc0]
noncomputable def xt16xbody : Code := match Tryd.f11.body with | some c => c | none => .skip
noncomputable def xt16xlf (c : CutP) : Ivs → List Fact → Leaf → Bool := chkLf Tryd.prog (rcKA Tryd.prog xt16xKT xt16xK2 20000) Tryd.f11.ntmps [] 1000 Tryd.f11.results.toList xt16xbody xt16xC c
noncomputable def stu2 : TrX Leaf := (.cut 13 (0) (.leaf (.ret (.cat [(.string ⟨#[119, 97, 105, 116, 32]⟩), (.sym 34), (.string ⟨#[32]⟩), (.sym 36), (.string ⟨#[32]⟩), (.sym 38), (.string ⟨#[32]⟩), (.sym 40), (.string ⟨#[32]⟩), (.sym 42)]))) (.cut 13 (1) (.leaf (.ret (.cat [(.string ⟨#[119, 97, 105, 116, 32]⟩), (.sym 34), (.string ⟨#[32]⟩), (.sym 36), (.string ⟨#[32]⟩), (.sym 38), (.string ⟨#[32]⟩), (.sym 40), (.string ⟨#[32]⟩), (.sym 42), (.string ⟨#[32]⟩), (.sym 44), (.string ⟨#[47]⟩), (.sym 46)]))) (.leaf (.ret (.cat [(.string ⟨#[119, 97, 105, 116, 32]⟩), (.sym 34), (.string ⟨#[32]⟩), (.sym 36), (.string ⟨#[32]⟩), (.sym 38), (.string ⟨#[32]⟩), (.sym 40), (.string ⟨#[32]⟩), (.sym 42), (.string ⟨#[32]⟩), (.sym 44), (.string ⟨#[47]⟩), (.sym 46), (.string ⟨#[32]⟩), (.sym 48), (.string ⟨#[47]⟩), (.sym 50)])))))
noncomputable def xt17xt0 : TrX Leaf := stu2
noncomputable def tsh16 : VT := (.nd .lf (some (.agg [(.int .i64 (17)), (.sint .i64 1), (.sint .i64 2), (.sint .i64 3), (.sint .i64 4), (.sym 0), (.sint .i64 5), (.sint .i64 6), (.sint .i64 7), (.sint .i64 8), (.sint .i64 9), (.sint .i64 10), (.sym 11)])) .lf)
noncomputable def xt17xc0 : CutP := ⟨none, tsh16, .lf, 0, 0, [], xt15xiv0, Tev, xt17xt0⟩
noncomputable def xt17xKT : List KE := [⟨9, [eva 17], [], (.sint .i64 25)⟩] ++ kte
noncomputable def xt17xK2 : List KE2 := findK2
noncomputable def xt17xC : List CutP := [xt17xc0]
noncomputable def xt17xbody : Code := match Tryd.f11.body with | some c => c | none => .skip
noncomputable def xt17xlf (c : CutP) : Ivs → List Fact → Leaf → Bool := chkLf Tryd.prog (rcKA Tryd.prog xt17xKT xt17xK2 20000) Tryd.f11.ntmps [] 1000 Tryd.f11.results.toList xt17xbody xt17xC c
noncomputable def xt18xt0 : TrX Leaf := (.leaf (.ret (.cat [(.string ⟨#[117, 110, 119, 97, 105, 116, 32]⟩), (.sym 26)])))
noncomputable def tsh17 : VT := (.nd .lf (some (.agg [(.int .i64 (18)), (.sint .i64 1), (.sint .i64 2), (.sint .i64 3), (.sint .i64 4), (.sym 0), (.sint .i64 5), (.sint .i64 6), (.sint .i64 7), (.sint .i64 8), (.sint .i64 9), (.sint .i64 10), (.sym 11)])) .lf)
noncomputable def xt18xc0 : CutP := ⟨none, tsh17, .lf, 0, 0, [], xt1xiv0, Tev, xt18xt0⟩
noncomputable def xt18xKT : List KE := [⟨9, [eva 18], [], (.sint .i64 25)⟩] ++ kte
noncomputable def xt18xK2 : List KE2 := findK2
noncomputable def xt18xC : List CutP := [xt18xc0]
noncomputable def xt18xbody : Code := match Tryd.f11.body with | some c => c | none => .skip
noncomputable def xt18xlf (c : CutP) : Ivs → List Fact → Leaf → Bool := chkLf Tryd.prog (rcKA Tryd.prog xt18xKT xt18xK2 20000) Tryd.f11.ntmps [] 1000 Tryd.f11.results.toList xt18xbody xt18xC c
noncomputable def xt19xt0 : TrX Leaf := (.leaf (.ret (.cat [(.string ⟨#[112, 104, 97, 115, 101, 32]⟩), (.sym 26)])))
noncomputable def tsh18 : VT := (.nd .lf (some (.agg [(.int .i64 (19)), (.sint .i64 1), (.sint .i64 2), (.sint .i64 3), (.sint .i64 4), (.sym 0), (.sint .i64 5), (.sint .i64 6), (.sint .i64 7), (.sint .i64 8), (.sint .i64 9), (.sint .i64 10), (.sym 11)])) .lf)
noncomputable def xt19xc0 : CutP := ⟨none, tsh18, .lf, 0, 0, [], xt1xiv0, Tev, xt19xt0⟩
noncomputable def xt19xKT : List KE := [⟨9, [eva 19], [], (.sint .i64 25)⟩] ++ kte
noncomputable def xt19xK2 : List KE2 := findK2
noncomputable def xt19xC : List CutP := [xt19xc0]
noncomputable def xt19xbody : Code := match Tryd.f11.body with | some c => c | none => .skip
noncomputable def xt19xlf (c : CutP) : Ivs → List Fact → Leaf → Bool := chkLf Tryd.prog (rcKA Tryd.prog xt19xKT xt19xK2 20000) Tryd.f11.ntmps [] 1000 Tryd.f11.results.toList xt19xbody xt19xC c
noncomputable def xt20xt0 : TrX Leaf := (.leaf (.ret (.cat [(.string ⟨#[116, 117, 114, 110, 32]⟩), (.sym 26)])))
noncomputable def tsh19 : VT := (.nd .lf (some (.agg [(.int .i64 (20)), (.sint .i64 1), (.sint .i64 2), (.sint .i64 3), (.sint .i64 4), (.sym 0), (.sint .i64 5), (.sint .i64 6), (.sint .i64 7), (.sint .i64 8), (.sint .i64 9), (.sint .i64 10), (.sym 11)])) .lf)
noncomputable def xt20xc0 : CutP := ⟨none, tsh19, .lf, 0, 0, [], xt1xiv0, Tev, xt20xt0⟩
noncomputable def xt20xKT : List KE := [⟨9, [eva 20], [], (.sint .i64 25)⟩] ++ kte
noncomputable def xt20xK2 : List KE2 := findK2
noncomputable def xt20xC : List CutP := [xt20xc0]
noncomputable def xt20xbody : Code := match Tryd.f11.body with | some c => c | none => .skip
noncomputable def xt20xlf (c : CutP) : Ivs → List Fact → Leaf → Bool := chkLf Tryd.prog (rcKA Tryd.prog xt20xKT xt20xK2 20000) Tryd.f11.ntmps [] 1000 Tryd.f11.results.toList xt20xbody xt20xC c
noncomputable def xt21xt0 : TrX Leaf := (.leaf (.ret (.cat [(.string ⟨#[112, 114, 105, 111, 32]⟩), (.sym 26), (.string ⟨#[32]⟩), (.sym 30)])))
noncomputable def tsh20 : VT := (.nd .lf (some (.agg [(.int .i64 (21)), (.sint .i64 1), (.sint .i64 2), (.sint .i64 3), (.sint .i64 4), (.sym 0), (.sint .i64 5), (.sint .i64 6), (.sint .i64 7), (.sint .i64 8), (.sint .i64 9), (.sint .i64 10), (.sym 11)])) .lf)
noncomputable def xt21xc0 : CutP := ⟨none, tsh20, .lf, 0, 0, [], xt1xiv0, Tev, xt21xt0⟩
noncomputable def xt21xKT : List KE := [⟨9, [eva 21], [], (.sint .i64 25)⟩] ++ kte
noncomputable def xt21xK2 : List KE2 := findK2
noncomputable def xt21xC : List CutP := [xt21xc0]
noncomputable def xt21xbody : Code := match Tryd.f11.body with | some c => c | none => .skip
noncomputable def xt21xlf (c : CutP) : Ivs → List Fact → Leaf → Bool := chkLf Tryd.prog (rcKA Tryd.prog xt21xKT xt21xK2 20000) Tryd.f11.ntmps [] 1000 Tryd.f11.results.toList xt21xbody xt21xC c
noncomputable def xt22xt0 : TrX Leaf := (.leaf (.ret (.cat [(.string ⟨#[98, 108, 111, 99, 107, 101, 114, 32]⟩), (.sym 26)])))
noncomputable def tsh21 : VT := (.nd .lf (some (.agg [(.int .i64 (22)), (.sint .i64 1), (.sint .i64 2), (.sint .i64 3), (.sint .i64 4), (.sym 0), (.sint .i64 5), (.sint .i64 6), (.sint .i64 7), (.sint .i64 8), (.sint .i64 9), (.sint .i64 10), (.sym 11)])) .lf)
noncomputable def xt22xc0 : CutP := ⟨none, tsh21, .lf, 0, 0, [], xt1xiv0, Tev, xt22xt0⟩
noncomputable def xt22xKT : List KE := [⟨9, [eva 22], [], (.sint .i64 25)⟩] ++ kte
noncomputable def xt22xK2 : List KE2 := findK2
noncomputable def xt22xC : List CutP := [xt22xc0]
noncomputable def xt22xbody : Code := match Tryd.f11.body with | some c => c | none => .skip
noncomputable def xt22xlf (c : CutP) : Ivs → List Fact → Leaf → Bool := chkLf Tryd.prog (rcKA Tryd.prog xt22xKT xt22xK2 20000) Tryd.f11.ntmps [] 1000 Tryd.f11.results.toList xt22xbody xt22xC c
noncomputable def xt23xt0 : TrX Leaf := (.leaf (.ret (.cat [(.string ⟨#[108, 111, 115, 101, 32]⟩), (.sym 26)])))
noncomputable def tsh22 : VT := (.nd .lf (some (.agg [(.int .i64 (23)), (.sint .i64 1), (.sint .i64 2), (.sint .i64 3), (.sint .i64 4), (.sym 0), (.sint .i64 5), (.sint .i64 6), (.sint .i64 7), (.sint .i64 8), (.sint .i64 9), (.sint .i64 10), (.sym 11)])) .lf)
noncomputable def xt23xc0 : CutP := ⟨none, tsh22, .lf, 0, 0, [], xt1xiv0, Tev, xt23xt0⟩
noncomputable def xt23xKT : List KE := [⟨9, [eva 23], [], (.sint .i64 25)⟩] ++ kte
noncomputable def xt23xK2 : List KE2 := findK2
noncomputable def xt23xC : List CutP := [xt23xc0]
noncomputable def xt23xbody : Code := match Tryd.f11.body with | some c => c | none => .skip
noncomputable def xt23xlf (c : CutP) : Ivs → List Fact → Leaf → Bool := chkLf Tryd.prog (rcKA Tryd.prog xt23xKT xt23xK2 20000) Tryd.f11.ntmps [] 1000 Tryd.f11.results.toList xt23xbody xt23xC c
noncomputable def xt24xt0 : TrX Leaf := (.leaf (.ret (.cat [(.string ⟨#[101, 109, 112, 116, 121, 32]⟩), (.sym 26)])))
noncomputable def tsh23 : VT := (.nd .lf (some (.agg [(.int .i64 (24)), (.sint .i64 1), (.sint .i64 2), (.sint .i64 3), (.sint .i64 4), (.sym 0), (.sint .i64 5), (.sint .i64 6), (.sint .i64 7), (.sint .i64 8), (.sint .i64 9), (.sint .i64 10), (.sym 11)])) .lf)
noncomputable def xt24xc0 : CutP := ⟨none, tsh23, .lf, 0, 0, [], xt1xiv0, Tev, xt24xt0⟩
noncomputable def xt24xKT : List KE := [⟨9, [eva 24], [], (.sint .i64 25)⟩] ++ kte
noncomputable def xt24xK2 : List KE2 := findK2
noncomputable def xt24xC : List CutP := [xt24xc0]
noncomputable def xt24xbody : Code := match Tryd.f11.body with | some c => c | none => .skip
noncomputable def xt24xlf (c : CutP) : Ivs → List Fact → Leaf → Bool := chkLf Tryd.prog (rcKA Tryd.prog xt24xKT xt24xK2 20000) Tryd.f11.ntmps [] 1000 Tryd.f11.results.toList xt24xbody xt24xC c
noncomputable def xt25xt0 : TrX Leaf := (.leaf (.ret (.cat [(.string ⟨#[99, 101, 97, 115, 101, 32]⟩), (.sym 26)])))
noncomputable def tsh24 : VT := (.nd .lf (some (.agg [(.int .i64 (25)), (.sint .i64 1), (.sint .i64 2), (.sint .i64 3), (.sint .i64 4), (.sym 0), (.sint .i64 5), (.sint .i64 6), (.sint .i64 7), (.sint .i64 8), (.sint .i64 9), (.sint .i64 10), (.sym 11)])) .lf)
noncomputable def xt25xc0 : CutP := ⟨none, tsh24, .lf, 0, 0, [], xt1xiv0, Tev, xt25xt0⟩
noncomputable def xt25xKT : List KE := [⟨9, [eva 25], [], (.sint .i64 25)⟩] ++ kte
noncomputable def xt25xK2 : List KE2 := findK2
noncomputable def xt25xC : List CutP := [xt25xc0]
noncomputable def xt25xbody : Code := match Tryd.f11.body with | some c => c | none => .skip
noncomputable def xt25xlf (c : CutP) : Ivs → List Fact → Leaf → Bool := chkLf Tryd.prog (rcKA Tryd.prog xt25xKT xt25xK2 20000) Tryd.f11.ntmps [] 1000 Tryd.f11.results.toList xt25xbody xt25xC c
noncomputable def xt26xiv0 : Ivs := [(-9223372036854775808, 9223372036854775807), (-9223372036854775808, 9223372036854775807), (-9223372036854775808, 9223372036854775807), (-9223372036854775808, 9223372036854775807), (-9223372036854775808, 9223372036854775807), (-9223372036854775808, 9223372036854775807), (-9223372036854775808, 9223372036854775807), (-9223372036854775808, 9223372036854775807), (-9223372036854775808, 9223372036854775807), (-9223372036854775808, 9223372036854775807), (-9223372036854775808, 9223372036854775807), (-9223372036854775808, 9223372036854775807), (0, 250), (0, 0), (0, 260), (1, 261), (-9223372036854775808, 9223372036854775807), (-9223372036854775808, 9223372036854775807), (-9223372036854775808, 9223372036854775807), (-9223372036854775808, 9223372036854775807), (-9223372036854775808, 9223372036854775807), (-9223372036854775808, 9223372036854775807), (-9223372036854775808, 9223372036854775807), (-9223372036854775808, 9223372036854775807), (-9223372036854775808, 9223372036854775807), (0, 0), (-9223372036854775808, 9223372036854775807), (1, 20), (-9223372036854775808, 9223372036854775807), (1, 20), (-9223372036854775808, 9223372036854775807), (1, 20), (-9223372036854775808, 9223372036854775807), (1, 20), (-9223372036854775808, 9223372036854775807), (1, 20), (-9223372036854775808, 9223372036854775807), (1, 20), (-9223372036854775808, 9223372036854775807), (1, 20), (-9223372036854775808, 9223372036854775807), (1, 20), (-9223372036854775808, 9223372036854775807), (1, 20), (-9223372036854775808, 9223372036854775807), (1, 20), (-9223372036854775808, 9223372036854775807), (1, 20), (-9223372036854775808, 9223372036854775807), (1, 20), (-9223372036854775808, 9223372036854775807), (1, 20), (-9223372036854775808, 9223372036854775807), (1, 6000)]
noncomputable def xt26xt0 : TrX Leaf := (.cut 12 (0) (.leaf (.ret (.cat [(.sym 52)]))) (.leaf (.ret (.cat [(.sym 52)]))))
noncomputable def tsh25 : VT := (.nd .lf (some (.agg [(.int .i64 (26)), (.sint .i64 1), (.sint .i64 2), (.sint .i64 3), (.sint .i64 4), (.sym 0), (.sint .i64 5), (.sint .i64 6), (.sint .i64 7), (.sint .i64 8), (.sint .i64 9), (.sint .i64 10), (.sym 11)])) .lf)
noncomputable def xt26xc0 : CutP := ⟨none, tsh25, .lf, 0, 0, [], xt26xiv0, Tev, xt26xt0⟩
noncomputable def xt26xKT : List KE := [⟨9, [eva 26], [], (.sint .i64 25)⟩] ++ kte
noncomputable def xt26xK2 : List KE2 := findK2 ++ putK2
noncomputable def xt26xC : List CutP := [xt26xc0]
noncomputable def xt26xbody : Code := match Tryd.f11.body with | some c => c | none => .skip
noncomputable def xt26xlf (c : CutP) : Ivs → List Fact → Leaf → Bool := chkLf Tryd.prog (rcKA Tryd.prog xt26xKT xt26xK2 20000) Tryd.f11.ntmps [] 1000 Tryd.f11.results.toList xt26xbody xt26xC c
noncomputable def xt27xt0 : TrX Leaf := (.leaf (.ret (.cat [(.string ⟨#[117, 115, 101, 100, 32]⟩), (.sym 30)])))
noncomputable def tsh26 : VT := (.nd .lf (some (.agg [(.int .i64 (27)), (.sint .i64 1), (.sint .i64 2), (.sint .i64 3), (.sint .i64 4), (.sym 0), (.sint .i64 5), (.sint .i64 6), (.sint .i64 7), (.sint .i64 8), (.sint .i64 9), (.sint .i64 10), (.sym 11)])) .lf)
noncomputable def xt27xc0 : CutP := ⟨none, tsh26, .lf, 0, 0, [], xt1xiv0, Tev, xt27xt0⟩
noncomputable def xt27xKT : List KE := [⟨9, [eva 27], [], (.sint .i64 25)⟩] ++ kte
noncomputable def xt27xK2 : List KE2 := findK2
noncomputable def xt27xC : List CutP := [xt27xc0]
noncomputable def xt27xbody : Code := match Tryd.f11.body with | some c => c | none => .skip
noncomputable def xt27xlf (c : CutP) : Ivs → List Fact → Leaf → Bool := chkLf Tryd.prog (rcKA Tryd.prog xt27xKT xt27xK2 20000) Tryd.f11.ntmps [] 1000 Tryd.f11.results.toList xt27xbody xt27xC c
noncomputable def stu0 : TrX Leaf := (.cut 13 (0) (.leaf (.ret (.cat [(.string ⟨#[99, 97, 115, 116, 32]⟩), (.sym 30), (.string ⟨#[32]⟩), (.sym 34), (.string ⟨#[32]⟩), (.sym 36), (.string ⟨#[32]⟩), (.sym 38), (.string ⟨#[32]⟩), (.sym 40), (.string ⟨#[32]⟩), (.sym 42)]))) (.cut 13 (1) (.leaf (.ret (.cat [(.string ⟨#[99, 97, 115, 116, 32]⟩), (.sym 30), (.string ⟨#[32]⟩), (.sym 34), (.string ⟨#[32]⟩), (.sym 36), (.string ⟨#[32]⟩), (.sym 38), (.string ⟨#[32]⟩), (.sym 40), (.string ⟨#[32]⟩), (.sym 42), (.string ⟨#[32]⟩), (.sym 44), (.string ⟨#[47]⟩), (.sym 46)]))) (.leaf (.ret (.cat [(.string ⟨#[99, 97, 115, 116, 32]⟩), (.sym 30), (.string ⟨#[32]⟩), (.sym 34), (.string ⟨#[32]⟩), (.sym 36), (.string ⟨#[32]⟩), (.sym 38), (.string ⟨#[32]⟩), (.sym 40), (.string ⟨#[32]⟩), (.sym 42), (.string ⟨#[32]⟩), (.sym 44), (.string ⟨#[47]⟩), (.sym 46), (.string ⟨#[32]⟩), (.sym 48), (.string ⟨#[47]⟩), (.sym 50)])))))
noncomputable def xt28xt0 : TrX Leaf := stu0
noncomputable def tsh27 : VT := (.nd .lf (some (.agg [(.int .i64 (28)), (.sint .i64 1), (.sint .i64 2), (.sint .i64 3), (.sint .i64 4), (.sym 0), (.sint .i64 5), (.sint .i64 6), (.sint .i64 7), (.sint .i64 8), (.sint .i64 9), (.sint .i64 10), (.sym 11)])) .lf)
noncomputable def xt28xc0 : CutP := ⟨none, tsh27, .lf, 0, 0, [], xt15xiv0, Tev, xt28xt0⟩
noncomputable def xt28xKT : List KE := [⟨9, [eva 28], [], (.sint .i64 25)⟩] ++ kte
noncomputable def xt28xK2 : List KE2 := findK2
noncomputable def xt28xC : List CutP := [xt28xc0]
noncomputable def xt28xbody : Code := match Tryd.f11.body with | some c => c | none => .skip
noncomputable def xt28xlf (c : CutP) : Ivs → List Fact → Leaf → Bool := chkLf Tryd.prog (rcKA Tryd.prog xt28xKT xt28xK2 20000) Tryd.f11.ntmps [] 1000 Tryd.f11.results.toList xt28xbody xt28xC c
noncomputable def xt29xt0 : TrX Leaf := (.leaf (.ret (.cat [(.string ⟨#[111, 118, 101, 114, 32]⟩), (.sym 26), (.string ⟨#[32]⟩), (.sym 28)])))
noncomputable def tsh28 : VT := (.nd .lf (some (.agg [(.int .i64 (29)), (.sint .i64 1), (.sint .i64 2), (.sint .i64 3), (.sint .i64 4), (.sym 0), (.sint .i64 5), (.sint .i64 6), (.sint .i64 7), (.sint .i64 8), (.sint .i64 9), (.sint .i64 10), (.sym 11)])) .lf)
noncomputable def xt29xc0 : CutP := ⟨none, tsh28, .lf, 0, 0, [], xt1xiv0, Tev, xt29xt0⟩
noncomputable def xt29xKT : List KE := [⟨9, [eva 29], [], (.sint .i64 25)⟩] ++ kte
noncomputable def xt29xK2 : List KE2 := findK2
noncomputable def xt29xC : List CutP := [xt29xc0]
noncomputable def xt29xbody : Code := match Tryd.f11.body with | some c => c | none => .skip
noncomputable def xt29xlf (c : CutP) : Ivs → List Fact → Leaf → Bool := chkLf Tryd.prog (rcKA Tryd.prog xt29xKT xt29xK2 20000) Tryd.f11.ntmps [] 1000 Tryd.f11.results.toList xt29xbody xt29xC c
noncomputable def xyiv0 : Ivs := [(-9223372036854775808, 9223372036854775807), (-9223372036854775808, 9223372036854775807), (-9223372036854775808, 9223372036854775807), (-9223372036854775808, 9223372036854775807), (-9223372036854775808, 9223372036854775807), (-9223372036854775808, 9223372036854775807), (-9223372036854775808, 9223372036854775807), (-9223372036854775808, 9223372036854775807), (-9223372036854775808, 9223372036854775807), (-9223372036854775808, 9223372036854775807), (-9223372036854775808, 9223372036854775807), (-9223372036854775808, 9223372036854775807), (0, 9223372036854775807), (0, 9223372036854775807), (0, 260), (1, 261), (-9223372036854775808, 9223372036854775807), (-9223372036854775808, 9223372036854775807), (-9223372036854775808, 9223372036854775807), (-9223372036854775808, 9223372036854775807), (-9223372036854775808, 9223372036854775807), (-9223372036854775808, 9223372036854775807), (-9223372036854775808, 9223372036854775807), (-9223372036854775808, 9223372036854775807), (-9223372036854775808, 9223372036854775807), (1, 1000), (-9223372036854775808, 9223372036854775807), (1, 20), (-9223372036854775808, 9223372036854775807), (1, 20), (-9223372036854775808, 9223372036854775807), (1, 20), (-9223372036854775808, 9223372036854775807), (1, 20), (-9223372036854775808, 9223372036854775807), (1, 20), (-9223372036854775808, 9223372036854775807), (1, 20), (-9223372036854775808, 9223372036854775807), (1, 20), (-9223372036854775808, 9223372036854775807), (1, 20), (-9223372036854775808, 9223372036854775807), (1, 20), (-9223372036854775808, 9223372036854775807), (1, 20), (-9223372036854775808, 9223372036854775807), (1, 20), (-9223372036854775808, 9223372036854775807), (1, 20), (-9223372036854775808, 9223372036854775807), (1, 20), (-9223372036854775808, 9223372036854775807), (1, 6000)]
noncomputable def xyt0 : TrX Leaf := (.leaf (.ret (.string ⟨#[63]⟩)))
noncomputable def tsh30 : VT := (.nd .lf (some (.agg [(.sint .i64 24), (.sint .i64 1), (.sint .i64 2), (.sint .i64 3), (.sint .i64 4), (.sym 0), (.sint .i64 5), (.sint .i64 6), (.sint .i64 7), (.sint .i64 8), (.sint .i64 9), (.sint .i64 10), (.sym 11)])) .lf)
noncomputable def xyc0 : CutP := ⟨none, tsh30, .lf, 0, 0, [], xyiv0, Tev, xyt0⟩
noncomputable def xyKT : List KE := [⟨9, [(.agg [(.sint .i64 24), (.sint .i64 1), (.sint .i64 2), (.sint .i64 3), (.sint .i64 4), (.sym 0), (.sint .i64 5), (.sint .i64 6), (.sint .i64 7), (.sint .i64 8), (.sint .i64 9), (.sint .i64 10), (.sym 11)])], [], (.sint .i64 25)⟩]
noncomputable def xyK2 : List KE2 := []
noncomputable def xyC : List CutP := [xyc0]
noncomputable def xybody : Code := match Tryd.f11.body with | some c => c | none => .skip
noncomputable def xylf (c : CutP) : Ivs → List Fact → Leaf → Bool := chkLf Tryd.prog (rcKA Tryd.prog xyKT xyK2 20000) Tryd.f11.ntmps [] 1000 Tryd.f11.results.toList xybody xyC c
noncomputable def fiiv0 : Ivs := []
noncomputable def fit0 : TrX Leaf := (.leaf (.goto 29 []))
noncomputable def fic0 : CutP := ⟨none, (.nd .lf (some (.int .i64 (1))) .lf), .lf, 0, 0, [], fiiv0, Enil, fit0⟩
noncomputable def fit1 : TrX Leaf := (.leaf (.goto 30 []))
noncomputable def fic1 : CutP := ⟨none, (.nd .lf (some (.int .i64 (2))) .lf), .lf, 0, 0, [], fiiv0, Enil, fit1⟩
noncomputable def fit2 : TrX Leaf := (.leaf (.goto 31 []))
noncomputable def fic2 : CutP := ⟨none, (.nd .lf (some (.int .i64 (3))) .lf), .lf, 0, 0, [], fiiv0, Enil, fit2⟩
noncomputable def fit3 : TrX Leaf := (.leaf (.goto 32 []))
noncomputable def fic3 : CutP := ⟨none, (.nd .lf (some (.int .i64 (4))) .lf), .lf, 0, 0, [], fiiv0, Enil, fit3⟩
noncomputable def fit4 : TrX Leaf := (.leaf (.goto 33 []))
noncomputable def fic4 : CutP := ⟨none, (.nd .lf (some (.int .i64 (5))) .lf), .lf, 0, 0, [], fiiv0, Enil, fit4⟩
noncomputable def fit5 : TrX Leaf := (.leaf (.goto 34 []))
noncomputable def fic5 : CutP := ⟨none, (.nd .lf (some (.int .i64 (6))) .lf), .lf, 0, 0, [], fiiv0, Enil, fit5⟩
noncomputable def fit6 : TrX Leaf := (.leaf (.goto 35 []))
noncomputable def fic6 : CutP := ⟨none, (.nd .lf (some (.int .i64 (7))) .lf), .lf, 0, 0, [], fiiv0, Enil, fit6⟩
noncomputable def fit7 : TrX Leaf := (.leaf (.goto 36 []))
noncomputable def fic7 : CutP := ⟨none, (.nd .lf (some (.int .i64 (8))) .lf), .lf, 0, 0, [], fiiv0, Enil, fit7⟩
noncomputable def fit8 : TrX Leaf := (.leaf (.goto 37 []))
noncomputable def fic8 : CutP := ⟨none, (.nd .lf (some (.int .i64 (9))) .lf), .lf, 0, 0, [], fiiv0, Enil, fit8⟩
noncomputable def fit9 : TrX Leaf := (.leaf (.goto 38 []))
noncomputable def fic9 : CutP := ⟨none, (.nd .lf (some (.int .i64 (10))) .lf), .lf, 0, 0, [], fiiv0, Enil, fit9⟩
noncomputable def fit10 : TrX Leaf := (.leaf (.goto 39 []))
noncomputable def fic10 : CutP := ⟨none, (.nd .lf (some (.int .i64 (11))) .lf), .lf, 0, 0, [], fiiv0, Enil, fit10⟩
noncomputable def fit11 : TrX Leaf := (.leaf (.goto 40 []))
noncomputable def fic11 : CutP := ⟨none, (.nd .lf (some (.int .i64 (12))) .lf), .lf, 0, 0, [], fiiv0, Enil, fit11⟩
noncomputable def fit12 : TrX Leaf := (.leaf (.goto 41 []))
noncomputable def fic12 : CutP := ⟨none, (.nd .lf (some (.int .i64 (13))) .lf), .lf, 0, 0, [], fiiv0, Enil, fit12⟩
noncomputable def fit13 : TrX Leaf := (.leaf (.goto 42 []))
noncomputable def fic13 : CutP := ⟨none, (.nd .lf (some (.int .i64 (14))) .lf), .lf, 0, 0, [], fiiv0, Enil, fit13⟩
noncomputable def fit14 : TrX Leaf := (.leaf (.goto 43 []))
noncomputable def fic14 : CutP := ⟨none, (.nd .lf (some (.int .i64 (15))) .lf), .lf, 0, 0, [], fiiv0, Enil, fit14⟩
noncomputable def fit15 : TrX Leaf := (.leaf (.goto 44 []))
noncomputable def fic15 : CutP := ⟨none, (.nd .lf (some (.int .i64 (16))) .lf), .lf, 0, 0, [], fiiv0, Enil, fit15⟩
noncomputable def fit16 : TrX Leaf := (.leaf (.goto 45 []))
noncomputable def fic16 : CutP := ⟨none, (.nd .lf (some (.int .i64 (17))) .lf), .lf, 0, 0, [], fiiv0, Enil, fit16⟩
noncomputable def fit17 : TrX Leaf := (.leaf (.goto 46 []))
noncomputable def fic17 : CutP := ⟨none, (.nd .lf (some (.int .i64 (18))) .lf), .lf, 0, 0, [], fiiv0, Enil, fit17⟩
noncomputable def fit18 : TrX Leaf := (.leaf (.goto 47 []))
noncomputable def fic18 : CutP := ⟨none, (.nd .lf (some (.int .i64 (19))) .lf), .lf, 0, 0, [], fiiv0, Enil, fit18⟩
noncomputable def fit19 : TrX Leaf := (.leaf (.goto 48 []))
noncomputable def fic19 : CutP := ⟨none, (.nd .lf (some (.int .i64 (20))) .lf), .lf, 0, 0, [], fiiv0, Enil, fit19⟩
noncomputable def fit20 : TrX Leaf := (.leaf (.goto 49 []))
noncomputable def fic20 : CutP := ⟨none, (.nd .lf (some (.int .i64 (21))) .lf), .lf, 0, 0, [], fiiv0, Enil, fit20⟩
noncomputable def fit21 : TrX Leaf := (.leaf (.goto 50 []))
noncomputable def fic21 : CutP := ⟨none, (.nd .lf (some (.int .i64 (22))) .lf), .lf, 0, 0, [], fiiv0, Enil, fit21⟩
noncomputable def fit22 : TrX Leaf := (.leaf (.goto 51 []))
noncomputable def fic22 : CutP := ⟨none, (.nd .lf (some (.int .i64 (23))) .lf), .lf, 0, 0, [], fiiv0, Enil, fit22⟩
noncomputable def fit23 : TrX Leaf := (.leaf (.goto 52 []))
noncomputable def fic23 : CutP := ⟨none, (.nd .lf (some (.int .i64 (24))) .lf), .lf, 0, 0, [], fiiv0, Enil, fit23⟩
noncomputable def fit24 : TrX Leaf := (.leaf (.goto 53 []))
noncomputable def fic24 : CutP := ⟨none, (.nd .lf (some (.int .i64 (25))) .lf), .lf, 0, 0, [], fiiv0, Enil, fit24⟩
noncomputable def fit25 : TrX Leaf := (.leaf (.goto 54 []))
noncomputable def fic25 : CutP := ⟨none, (.nd .lf (some (.int .i64 (26))) .lf), .lf, 0, 0, [], fiiv0, Enil, fit25⟩
noncomputable def fit26 : TrX Leaf := (.leaf (.goto 55 []))
noncomputable def fic26 : CutP := ⟨none, (.nd .lf (some (.int .i64 (27))) .lf), .lf, 0, 0, [], fiiv0, Enil, fit26⟩
noncomputable def fit27 : TrX Leaf := (.leaf (.goto 56 []))
noncomputable def fic27 : CutP := ⟨none, (.nd .lf (some (.int .i64 (28))) .lf), .lf, 0, 0, [], fiiv0, Enil, fit27⟩
noncomputable def fit28 : TrX Leaf := (.leaf (.goto 57 []))
noncomputable def fic28 : CutP := ⟨none, (.nd .lf (some (.int .i64 (29))) .lf), .lf, 0, 0, [], fiiv0, Enil, fit28⟩
noncomputable def fit29 : TrX Leaf := (.leaf (.ret .any))
noncomputable def fic29 : CutP := ⟨none, (.nd .lf (some (.tuple [(.agg [(.string ⟨#[110, 101, 119]⟩), (.map (some (.loc 0))), (.bool false), (.bool false)]), (.bool true)])) .lf), (.nd .lf (some (.mapU [((.int .i64 (0)), (.agg [(.int .i64 (0)), (.int .i64 (3))])), ((.int .i64 (1)), (.agg [(.int .i64 (0)), (.int .i64 (39))])), ((.int .i64 (2)), (.agg [(.int .i64 (0)), (.int .i64 (5))])), ((.int .i64 (3)), (.agg [(.int .i64 (0)), (.int .i64 (1))]))])) .lf), 1, 0, [], fiiv0, Enil, fit29⟩
noncomputable def fit30 : TrX Leaf := (.leaf (.ret .any))
noncomputable def fic30 : CutP := ⟨none, (.nd .lf (some (.tuple [(.agg [(.string ⟨#[109, 111, 118, 101]⟩), (.map (some (.loc 0))), (.bool false), (.bool false)]), (.bool true)])) .lf), (.nd .lf (some (.mapU [((.int .i64 (0)), (.agg [(.int .i64 (1)), (.int .i64 (1073741824))])), ((.int .i64 (1)), (.agg [(.int .i64 (0)), (.int .i64 (5))])), ((.int .i64 (2)), (.agg [(.int .i64 (0)), (.int .i64 (1))]))])) .lf), 1, 0, [], fiiv0, Enil, fit30⟩
noncomputable def fit31 : TrX Leaf := (.leaf (.ret .any))
noncomputable def fic31 : CutP := ⟨none, (.nd .lf (some (.tuple [(.agg [(.string ⟨#[116, 97, 112]⟩), (.map (some (.loc 0))), (.bool false), (.bool false)]), (.bool true)])) .lf), (.nd .lf (some (.mapU [((.int .i64 (0)), (.agg [(.int .i64 (1)), (.int .i64 (1073741824))])), ((.int .i64 (2)), (.agg [(.int .i64 (0)), (.int .i64 (1))]))])) .lf), 1, 0, [], fiiv0, Enil, fit31⟩
noncomputable def fit32 : TrX Leaf := (.leaf (.ret .any))
noncomputable def fic32 : CutP := ⟨none, (.nd .lf (some (.tuple [(.agg [(.string ⟨#[115, 105, 99, 107]⟩), (.map (some (.loc 0))), (.bool false), (.bool false)]), (.bool true)])) .lf), (.nd .lf (some (.mapU [((.int .i64 (0)), (.agg [(.int .i64 (1)), (.int .i64 (1073741824))])), ((.int .i64 (2)), (.agg [(.int .i64 (0)), (.int .i64 (1))]))])) .lf), 1, 0, [], fiiv0, Enil, fit32⟩
noncomputable def fit33 : TrX Leaf := (.leaf (.ret .any))
noncomputable def fic33 : CutP := ⟨none, (.nd .lf (some (.tuple [(.agg [(.string ⟨#[104, 117, 114, 116]⟩), (.map (some (.loc 0))), (.bool false), (.bool false)]), (.bool true)])) .lf), (.nd .lf (some (.mapU [((.int .i64 (0)), (.agg [(.int .i64 (1)), (.int .i64 (1073741824))])), ((.int .i64 (2)), (.agg [(.int .i64 (0)), (.int .i64 (999))]))])) .lf), 1, 0, [], fiiv0, Enil, fit33⟩
noncomputable def fit34 : TrX Leaf := (.leaf (.ret .any))
noncomputable def fic34 : CutP := ⟨none, (.nd .lf (some (.tuple [(.agg [(.string ⟨#[104, 101, 97, 108]⟩), (.map (some (.loc 0))), (.bool false), (.bool false)]), (.bool true)])) .lf), (.nd .lf (some (.map [((.int .i64 (0)), (.agg [(.int .i64 (1)), (.int .i64 (1073741824))]), 0)] 1)) .lf), 1, 0, [], fiiv0, Enil, fit34⟩
noncomputable def fit35 : TrX Leaf := (.leaf (.ret .any))
noncomputable def fic35 : CutP := ⟨none, (.nd .lf (some (.tuple [(.agg [(.string ⟨#[108, 105, 102, 101]⟩), (.map (some (.loc 0))), (.bool false), (.bool false)]), (.bool true)])) .lf), (.nd .lf (some (.mapU [((.int .i64 (0)), (.agg [(.int .i64 (0)), (.int .i64 (3))])), ((.int .i64 (2)), (.agg [(.int .i64 (-999)), (.int .i64 (999))]))])) .lf), 1, 0, [], fiiv0, Enil, fit35⟩
noncomputable def fit36 : TrX Leaf := (.leaf (.ret .any))
noncomputable def fic36 : CutP := ⟨none, (.nd .lf (some (.tuple [(.agg [(.string ⟨#[109, 97, 110, 97]⟩), (.map (some (.loc 0))), (.bool false), (.bool false)]), (.bool true)])) .lf), (.nd .lf (some (.mapU [((.int .i64 (0)), (.agg [(.int .i64 (0)), (.int .i64 (3))])), ((.int .i64 (1)), (.agg [(.int .i64 (0)), (.int .i64 (3))])), ((.int .i64 (2)), (.agg [(.int .i64 (-999)), (.int .i64 (999))]))])) .lf), 1, 0, [], fiiv0, Enil, fit36⟩
noncomputable def fit37 : TrX Leaf := (.leaf (.ret .any))
noncomputable def fic37 : CutP := ⟨none, (.nd .lf (some (.tuple [(.agg [(.string ⟨#[108, 97, 110, 100]⟩), (.map (some (.loc 0))), (.bool false), (.bool false)]), (.bool true)])) .lf), (.nd .lf (some (.mapU [((.int .i64 (0)), (.agg [(.int .i64 (0)), (.int .i64 (3))])), ((.int .i64 (2)), (.agg [(.int .i64 (0)), (.int .i64 (1))]))])) .lf), 1, 0, [], fiiv0, Enil, fit37⟩
noncomputable def fit38 : TrX Leaf := (.leaf (.ret .any))
noncomputable def tsh31 : VT := (.nd .lf (some (.tuple [(.agg [(.string ⟨#[101, 102, 102, 101, 99, 116]⟩), (.map (some (.loc 0))), (.bool false), (.bool false)]), (.bool true)])) .lf)
noncomputable def fic38 : CutP := ⟨none, tsh31, (.nd .lf (some (.mapU [((.int .i64 (0)), (.agg [(.int .i64 (1)), (.int .i64 (1073741824))])), ((.int .i64 (1)), (.agg [(.int .i64 (1)), (.int .i64 (4))])), ((.int .i64 (2)), (.agg [(.int .i64 (-999)), (.int .i64 (999))])), ((.int .i64 (3)), (.agg [(.int .i64 (-999)), (.int .i64 (999))]))])) .lf), 1, 0, [], fiiv0, Enil, fit38⟩
noncomputable def fit39 : TrX Leaf := (.leaf (.ret .any))
noncomputable def fic39 : CutP := ⟨none, (.nd .lf (some (.tuple [(.agg [(.string ⟨#[99, 111, 111, 108]⟩), (.map (some (.loc 0))), (.bool false), (.bool false)]), (.bool true)])) .lf), (.nd .lf (some (.map [((.int .i64 (0)), (.agg [(.int .i64 (1)), (.int .i64 (1073741824))]), 0)] 1)) .lf), 1, 0, [], fiiv0, Enil, fit39⟩
noncomputable def fit40 : TrX Leaf := (.leaf (.ret .any))
noncomputable def fic40 : CutP := ⟨none, (.nd .lf (some (.tuple [(.agg [(.string ⟨#[97, 116, 116, 97, 99, 107]⟩), (.map (some (.loc 0))), (.bool false), (.bool false)]), (.bool true)])) .lf), (.nd .lf (some (.mapU [((.int .i64 (0)), (.agg [(.int .i64 (1)), (.int .i64 (1073741824))])), ((.int .i64 (1)), (.agg [(.int .i64 (0)), (.int .i64 (4))]))])) .lf), 1, 0, [], fiiv0, Enil, fit40⟩
noncomputable def fit41 : TrX Leaf := (.leaf (.ret .any))
noncomputable def fic41 : CutP := ⟨none, (.nd .lf (some (.tuple [(.agg [(.string ⟨#[98, 108, 111, 99, 107]⟩), (.map (some (.loc 0))), (.bool false), (.bool false)]), (.bool true)])) .lf), (.nd .lf (some (.mapU [((.int .i64 (0)), (.agg [(.int .i64 (1)), (.int .i64 (1073741824))])), ((.int .i64 (1)), (.agg [(.int .i64 (0)), (.int .i64 (1073741824))]))])) .lf), 1, 0, [], fiiv0, Enil, fit41⟩
noncomputable def fit42 : TrX Leaf := (.leaf (.ret .any))
noncomputable def fic42 : CutP := ⟨none, (.nd .lf (some (.tuple [(.agg [(.string ⟨#[115, 116, 111, 112]⟩), (.map (some (.loc 0))), (.bool false), (.bool false)]), (.bool true)])) .lf), (.nd .lf (some (.mapU [((.int .i64 (0)), (.agg [(.int .i64 (1)), (.int .i64 (1073741824))])), ((.int .i64 (2)), (.agg [(.int .i64 (0)), (.int .i64 (1))]))])) .lf), 1, 0, [], fiiv0, Enil, fit42⟩
noncomputable def fit43 : TrX Leaf := (.leaf (.ret .any))
noncomputable def fic43 : CutP := ⟨none, (.nd .lf (some (.tuple [(.agg [(.string ⟨#[112, 117, 115, 104]⟩), (.map none), (.bool false), (.bool true)]), (.bool true)])) .lf), .lf, 0, 0, [], fiiv0, Enil, fit43⟩
noncomputable def fit44 : TrX Leaf := (.leaf (.ret .any))
noncomputable def fic44 : CutP := ⟨none, (.nd .lf (some (.tuple [(.agg [(.string ⟨#[112, 111, 112]⟩), (.map (some (.loc 0))), (.bool false), (.bool false)]), (.bool true)])) .lf), (.nd .lf (some (.map [((.int .i64 (0)), (.agg [(.int .i64 (1)), (.int .i64 (1073741824))]), 0)] 1)) .lf), 1, 0, [], fiiv0, Enil, fit44⟩
noncomputable def fit45 : TrX Leaf := (.leaf (.ret .any))
noncomputable def fic45 : CutP := ⟨none, (.nd .lf (some (.tuple [(.agg [(.string ⟨#[119, 97, 105, 116]⟩), (.map none), (.bool false), (.bool true)]), (.bool true)])) .lf), .lf, 0, 0, [], fiiv0, Enil, fit45⟩
noncomputable def fit46 : TrX Leaf := (.leaf (.ret .any))
noncomputable def tsh32 : VT := (.nd .lf (some (.tuple [(.agg [(.string ⟨#[117, 110, 119, 97, 105, 116]⟩), (.map (some (.loc 0))), (.bool false), (.bool false)]), (.bool true)])) .lf)
noncomputable def fic46 : CutP := ⟨none, tsh32, (.nd .lf (some (.map [((.int .i64 (0)), (.agg [(.int .i64 (1)), (.int .i64 (1073741824))]), 0)] 1)) .lf), 1, 0, [], fiiv0, Enil, fit46⟩
noncomputable def fit47 : TrX Leaf := (.leaf (.ret .any))
noncomputable def fic47 : CutP := ⟨none, (.nd .lf (some (.tuple [(.agg [(.string ⟨#[112, 104, 97, 115, 101]⟩), (.map (some (.loc 0))), (.bool false), (.bool false)]), (.bool true)])) .lf), (.nd .lf (some (.map [((.int .i64 (0)), (.agg [(.int .i64 (0)), (.int .i64 (9))]), 0)] 1)) .lf), 1, 0, [], fiiv0, Enil, fit47⟩
noncomputable def fit48 : TrX Leaf := (.leaf (.ret .any))
noncomputable def fic48 : CutP := ⟨none, (.nd .lf (some (.tuple [(.agg [(.string ⟨#[116, 117, 114, 110]⟩), (.map (some (.loc 0))), (.bool false), (.bool false)]), (.bool true)])) .lf), (.nd .lf (some (.map [((.int .i64 (0)), (.agg [(.int .i64 (0)), (.int .i64 (3))]), 0)] 1)) .lf), 1, 0, [], fiiv0, Enil, fit48⟩
noncomputable def fit49 : TrX Leaf := (.leaf (.ret .any))
noncomputable def fic49 : CutP := ⟨none, (.nd .lf (some (.tuple [(.agg [(.string ⟨#[112, 114, 105, 111]⟩), (.map (some (.loc 0))), (.bool false), (.bool false)]), (.bool true)])) .lf), (.nd .lf (some (.mapU [((.int .i64 (0)), (.agg [(.int .i64 (0)), (.int .i64 (3))])), ((.int .i64 (2)), (.agg [(.int .i64 (0)), (.int .i64 (4))]))])) .lf), 1, 0, [], fiiv0, Enil, fit49⟩
noncomputable def fit50 : TrX Leaf := (.leaf (.ret .any))
noncomputable def tsh33 : VT := (.nd .lf (some (.tuple [(.agg [(.string ⟨#[98, 108, 111, 99, 107, 101, 114]⟩), (.map (some (.loc 0))), (.bool false), (.bool false)]), (.bool true)])) .lf)
noncomputable def fic50 : CutP := ⟨none, tsh33, (.nd .lf (some (.map [((.int .i64 (0)), (.agg [(.int .i64 (0)), (.int .i64 (3))]), 0)] 1)) .lf), 1, 0, [], fiiv0, Enil, fit50⟩
noncomputable def fit51 : TrX Leaf := (.leaf (.ret .any))
noncomputable def fic51 : CutP := ⟨none, (.nd .lf (some (.tuple [(.agg [(.string ⟨#[108, 111, 115, 101]⟩), (.map (some (.loc 0))), (.bool false), (.bool false)]), (.bool true)])) .lf), (.nd .lf (some (.map [((.int .i64 (0)), (.agg [(.int .i64 (0)), (.int .i64 (3))]), 0)] 1)) .lf), 1, 0, [], fiiv0, Enil, fit51⟩
noncomputable def fit52 : TrX Leaf := (.leaf (.ret .any))
noncomputable def fic52 : CutP := ⟨none, (.nd .lf (some (.tuple [(.agg [(.string ⟨#[101, 109, 112, 116, 121]⟩), (.map (some (.loc 0))), (.bool false), (.bool false)]), (.bool true)])) .lf), (.nd .lf (some (.map [((.int .i64 (0)), (.agg [(.int .i64 (0)), (.int .i64 (3))]), 0)] 1)) .lf), 1, 0, [], fiiv0, Enil, fit52⟩
noncomputable def fit53 : TrX Leaf := (.leaf (.ret .any))
noncomputable def fic53 : CutP := ⟨none, (.nd .lf (some (.tuple [(.agg [(.string ⟨#[99, 101, 97, 115, 101]⟩), (.map (some (.loc 0))), (.bool false), (.bool false)]), (.bool true)])) .lf), (.nd .lf (some (.map [((.int .i64 (0)), (.agg [(.int .i64 (1)), (.int .i64 (1073741824))]), 0)] 1)) .lf), 1, 0, [], fiiv0, Enil, fit53⟩
noncomputable def fit54 : TrX Leaf := (.leaf (.ret .any))
noncomputable def fic54 : CutP := ⟨none, (.nd .lf (some (.tuple [(.agg [(.string ⟨#[112, 101, 114, 109]⟩), (.map (some (.loc 0))), (.bool true), (.bool false)]), (.bool true)])) .lf), (.nd .lf (some (.mapU [((.int .i64 (0)), (.agg [(.int .i64 (0)), (.int .i64 (3))]))])) .lf), 1, 0, [], fiiv0, Enil, fit54⟩
noncomputable def fit55 : TrX Leaf := (.leaf (.ret .any))
noncomputable def fic55 : CutP := ⟨none, (.nd .lf (some (.tuple [(.agg [(.string ⟨#[117, 115, 101, 100]⟩), (.map (some (.loc 0))), (.bool false), (.bool false)]), (.bool true)])) .lf), (.nd .lf (some (.mapU [((.int .i64 (2)), (.agg [(.int .i64 (0)), (.int .i64 (1073741824))]))])) .lf), 1, 0, [], fiiv0, Enil, fit55⟩
noncomputable def fit56 : TrX Leaf := (.leaf (.ret .any))
noncomputable def fic56 : CutP := ⟨none, (.nd .lf (some (.tuple [(.agg [(.string ⟨#[99, 97, 115, 116]⟩), (.map (some (.loc 0))), (.bool false), (.bool true)]), (.bool true)])) .lf), (.nd .lf (some (.mapU [((.int .i64 (2)), (.agg [(.int .i64 (0)), (.int .i64 (1))]))])) .lf), 1, 0, [], fiiv0, Enil, fit56⟩
noncomputable def fit57 : TrX Leaf := (.leaf (.ret .any))
noncomputable def fic57 : CutP := ⟨none, (.nd .lf (some (.tuple [(.agg [(.string ⟨#[111, 118, 101, 114]⟩), (.map (some (.loc 0))), (.bool false), (.bool false)]), (.bool true)])) .lf), (.nd .lf (some (.mapU [((.int .i64 (0)), (.agg [(.int .i64 (1)), (.int .i64 (3))])), ((.int .i64 (1)), (.agg [(.int .i64 (0)), (.int .i64 (3))]))])) .lf), 1, 0, [], fiiv0, Enil, fit57⟩
noncomputable def fiKT : List KE := []
noncomputable def fiK2 : List KE2 := []
noncomputable def fiC : List CutP := [fic0, fic1, fic2, fic3, fic4, fic5, fic6, fic7, fic8, fic9, fic10, fic11, fic12, fic13, fic14, fic15, fic16, fic17, fic18, fic19, fic20, fic21, fic22, fic23, fic24, fic25, fic26, fic27, fic28, fic29, fic30, fic31, fic32, fic33, fic34, fic35, fic36, fic37, fic38, fic39, fic40, fic41, fic42, fic43, fic44, fic45, fic46, fic47, fic48, fic49, fic50, fic51, fic52, fic53, fic54, fic55, fic56, fic57]
noncomputable def fibody : Code := match Tryd.f16.body with | some c => c | none => .skip
noncomputable def filf (c : CutP) : Ivs → List Fact → Leaf → Bool := chkLfH Tryd.prog (rcKA Tryd.prog fiKT fiK2 20000) Tryd.f16.ntmps [] 1000 Tryd.f16.results.toList fibody fiC 0 c
noncomputable def puiv0 : Ivs := [(-9223372036854775808, 9223372036854775807), (-9223372036854775808, 9223372036854775807), (0, 260), (0, 260), (1, 261), (-9223372036854775808, 9223372036854775807), (-9223372036854775808, 9223372036854775807), (-9223372036854775808, 9223372036854775807), (-9223372036854775808, 9223372036854775807), (-9223372036854775808, 9223372036854775807), (1, 6000), (-9223372036854775808, 9223372036854775807), (1, 20)]
noncomputable def put0 : TrX Leaf := (.leaf (.goto 1 [(.cat [(.sym 9)]), (.tlen [(.sym 9)]), (.int .i64 (0))]))
noncomputable def puc0 : CutP := ⟨none, (.nd (.nd .lf (some (.sym 0)) .lf) (some (.ptr (some ⟨(.loc 0), 0⟩))) .lf), (.nd (.nd .lf (some (.txt [(.sym 9)] (some 5))) .lf) (some (.cells [(.ptr (some ⟨(.loc 0), 0⟩)), (.tsl 1 [(.sym 9)])] none 0 (some 73))) .lf), 2, 0, [], puiv0, Ploop, put0⟩
noncomputable def put1 : TrX Leaf := (.rel .i64 3 2 (.leaf (.goto 2 [(.cat [(.sym 9), (.string ⟨#[32]⟩), (.sym 11)]), (.tlen [(.sym 9), (.string ⟨#[32]⟩), (.sym 11)]), (.sint .i64 4)])) (.leaf (.goto 3 [(.cat [(.sym 9)]), (.tlen [(.sym 9)])])))
noncomputable def tsh34 : VT := (.nd (.nd (.nd (.nd (.nd .lf (some .any) .lf) (some (.sint .i64 2)) .lf) (some .any) (.nd .lf (some .any) .lf)) (some .any) (.nd (.nd (.nd .lf (some .any) .lf) (some .any) .lf) (some .any) (.nd .lf (some .any) .lf))) (some (.ptr (some ⟨(.loc 0), 0⟩))) (.nd (.nd (.nd (.nd .lf (some .any) .lf) (some (.sint .i64 3)) .lf) (some .any) (.nd .lf (some .any) .lf)) (some .any) (.nd (.nd .lf (some .any) .lf) (some (.sym 0)) (.nd .lf (some .any) .lf))))
noncomputable def puc1 : CutP := ⟨some 0, tsh34, (.nd (.nd .lf (some (.txt [(.sym 9)] (some 5))) .lf) (some (.cells [(.ptr (some ⟨(.loc 0), 0⟩)), (.tsl 1 [(.sym 9)])] none 0 (some 73))) .lf), 2, 3, [(.sym 9), (.tlen [(.sym 9)]), (.sint .i64 3)], puiv0, Ploop, put1⟩
noncomputable def put2 : TrX Leaf := (.rel .i64 3 2 (.leaf (.goto 2 [(.cat [(.sym 9), (.string ⟨#[32]⟩), (.sym 11)]), (.tlen [(.sym 9), (.string ⟨#[32]⟩), (.sym 11)]), (.sint .i64 4)])) (.leaf (.goto 4 [(.cat [(.sym 9)]), (.tlen [(.sym 9)])])))
noncomputable def puc2 : CutP := ⟨some 0, tsh34, (.nd .lf (some (.cells [(.ptr (some ⟨(.loc 0), 0⟩)), (.tsl 2 [(.sym 9)])] none 0 (some 73))) (.nd .lf (some (.txt [(.sym 9)] (some 5))) .lf)), 3, 3, [(.sym 9), (.tlen [(.sym 9)]), (.sint .i64 3)], puiv0, Ploop, put2⟩
noncomputable def put3 : TrX Leaf := (.leaf (.ret .any))
noncomputable def puc3 : CutP := ⟨none, (.nd .lf (some (.tuple [])) .lf), (.nd (.nd .lf (some (.txt [(.sym 9)] (some 5))) .lf) (some (.cells [(.ptr (some ⟨(.loc 0), 0⟩)), (.tsl 1 [(.sym 9)])] none 0 (some 73))) .lf), 2, 0, [(.sym 9), (.tlen [(.sym 9)])], fiiv0, Ploop, put3⟩
noncomputable def put4 : TrX Leaf := (.leaf (.ret .any))
noncomputable def puc4 : CutP := ⟨none, (.nd .lf (some (.tuple [])) .lf), (.nd .lf (some (.cells [(.ptr (some ⟨(.loc 0), 0⟩)), (.tsl 2 [(.sym 9)])] none 0 (some 73))) (.nd .lf (some (.txt [(.sym 9)] (some 5))) .lf)), 3, 0, [(.sym 9), (.tlen [(.sym 9)])], fiiv0, Ploop, put4⟩
noncomputable def puKT : List KE := [⟨26, [(.sint .i64 6)], [], (.sym 11)⟩]
noncomputable def puK2 : List KE2 := []
noncomputable def puC : List CutP := [puc0, puc1, puc2, puc3, puc4]
noncomputable def pubody : Code := match Tryd.f25.body with | some c => c | none => .skip
noncomputable def pulf (c : CutP) : Ivs → List Fact → Leaf → Bool := chkLfH Tryd.prog (rcKA Tryd.prog puKT puK2 20000) Tryd.f25.ntmps [0] 1000 Tryd.f25.results.toList pubody puC 2 c
end
end Go.Proofs.YtjfbakhebdhbmaaDoor.event
