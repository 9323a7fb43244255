/-
  alike: cuts, trees of cases (printed by a program of ours).
-/
import Derived.Test.YtjfbakhebdhbmaaDoorTxE
namespace Go.Proofs.YtjfbakhebdhbmaaDoor.event
open Go.Ev Go.RowKit
set_option linter.unusedVariables false
noncomputable section
def evB : VV := .agg [si 48, si 31, si 32, si 33, si 34, .sym 30, si 35, si 36, si 37, si 38, si 39, si 40, .sym 41]
def alF : List Fact := [.len false (.sym 0) (si 12), .len false (.sym 11) (si 13), .len false (.sym 30) (si 42), .len false (.sym 41) (si 43)]
/-- Elements of both at the index 60 (the next one: 61); 88, 89: are the lists as long, are the targets? -/
def alE (iv : Ivs) (fs : List Fact) : List Fact × Nat := match hasLss fs 60 12, decide (1 ≤ (ivAt iv 88).1), hasLss fs 60 13, decide (1 ≤ (ivAt iv 89).1) with
  | true, true, _, _ => ([.at 1 (.sym 0) (si 60) ⟨.sym 62, 0⟩, .at 1 (.sym 30) (si 60) ⟨.sym 64, 0⟩, .bin .add (si 60) (.int .i64 1) (si 61)], 1)
  | _, _, true, true => ([.at 2 (.sym 11) (si 60) ⟨.sym 66, 0⟩, .at 2 (.sym 41) (si 60) ⟨.sym 69, 0⟩, .bin .add (si 60) (.int .i64 1) (si 61)], 2)
  | _, _, _, _ => ([], 0)
def alS (iv : Ivs) (m : Nat) (i : Nat) : Option (List VV) := match m with
  | 1 => match Nat.beq i 62, Nat.beq i 64 with
    | true, _ => some [sv iv .i64 63]
    | _, true => some [sv iv .i64 65]
    | _, _ => none
  | 2 => match Nat.beq i 66, Nat.beq i 69 with
    | true, _ => some [sv iv .i64 67, sv iv .i64 68]
    | _, true => some [sv iv .i64 70, sv iv .i64 71]
    | _, _ => none
  | _ => none
def Eal (iv : Ivs) (fs : List Fact) : Env := ⟨fun _ => none, ivAt iv, fs ++ (alF ++ (alE iv fs).1), alS iv (alE iv fs).2⟩
def mmA : Int × Int := (-9223372036854775808, 9223372036854775807)
theorem Eal_blk (iv : Ivs) (fs : List Fact) : (Eal iv fs).blk = fun _ => none := rfl
noncomputable def aliv0 : Ivs := [mmA, mmA, mmA, mmA, mmA, mmA, mmA, mmA, mmA, mmA, mmA, mmA, (0, 260), (0, 4), mmA, mmA, mmA, mmA, mmA, mmA, mmA, mmA, mmA, mmA, mmA, mmA, mmA, mmA, mmA, mmA, mmA, mmA, mmA, mmA, mmA, mmA, mmA, mmA, mmA, mmA, mmA, mmA, (0, 260), (0, 4), mmA, mmA, mmA, mmA, mmA, mmA, mmA, mmA, mmA, mmA, mmA, mmA, mmA, mmA, mmA, mmA, (0, 260), (1, 261), mmA, mmA, mmA, mmA, mmA, mmA, mmA, mmA, mmA, mmA, mmA, mmA, mmA, mmA, mmA, mmA, mmA, mmA, mmA, mmA, mmA, mmA, mmA, mmA, mmA, mmA, (0, 1), (0, 1)]
noncomputable def alt0 : TrX Leaf := (.rel .i64 24 48 (.leaf (.goto 1 [(.int .i64 (0))])) (.rel .i64 48 24 (.leaf (.goto 1 [(.int .i64 (0))])) (.rel .i64 1 31 (.leaf (.goto 1 [(.int .i64 (0))])) (.rel .i64 31 1 (.leaf (.goto 1 [(.int .i64 (0))])) (.rel .i64 2 32 (.leaf (.goto 1 [(.int .i64 (0))])) (.rel .i64 32 2 (.leaf (.goto 1 [(.int .i64 (0))])) (.rel .i64 3 33 (.leaf (.goto 1 [(.int .i64 (0))])) (.rel .i64 33 3 (.leaf (.goto 1 [(.int .i64 (0))])) (.rel .i64 4 34 (.leaf (.goto 1 [(.int .i64 (0))])) (.rel .i64 34 4 (.leaf (.goto 1 [(.int .i64 (0))])) (.rel .i64 12 42 (.leaf (.goto 1 [(.int .i64 (0))])) (.rel .i64 42 12 (.leaf (.goto 1 [(.int .i64 (0))])) (.rel .i64 13 43 (.leaf (.goto 1 [(.int .i64 (0))])) (.rel .i64 43 13 (.leaf (.goto 1 [(.int .i64 (0))])) (.rel .i64 5 35 (.leaf (.goto 1 [(.int .i64 (0))])) (.rel .i64 35 5 (.leaf (.goto 1 [(.int .i64 (0))])) (.rel .i64 6 36 (.leaf (.goto 1 [(.int .i64 (0))])) (.rel .i64 36 6 (.leaf (.goto 1 [(.int .i64 (0))])) (.rel .i64 7 37 (.leaf (.goto 1 [(.int .i64 (0))])) (.rel .i64 37 7 (.leaf (.goto 1 [(.int .i64 (0))])) (.rel .i64 8 38 (.leaf (.goto 1 [(.int .i64 (0))])) (.rel .i64 38 8 (.leaf (.goto 1 [(.int .i64 (0))])) (.rel .i64 9 39 (.leaf (.goto 1 [(.int .i64 (0))])) (.rel .i64 39 9 (.leaf (.goto 1 [(.int .i64 (0))])) (.rel .i64 10 40 (.leaf (.goto 1 [(.int .i64 (0))])) (.rel .i64 40 10 (.leaf (.goto 1 [(.int .i64 (0))])) (.leaf (.goto 2 [(.int .i64 (0))]))))))))))))))))))))))))))))
noncomputable def alc0 : CutP := ⟨none, (.nd (.nd .lf (some (.agg [(.sint .i64 48), (.sint .i64 31), (.sint .i64 32), (.sint .i64 33), (.sint .i64 34), (.sym 30), (.sint .i64 35), (.sint .i64 36), (.sint .i64 37), (.sint .i64 38), (.sint .i64 39), (.sint .i64 40), (.sym 41)])) .lf) (some (.agg [(.sint .i64 24), (.sint .i64 1), (.sint .i64 2), (.sint .i64 3), (.sint .i64 4), (.sym 0), (.sint .i64 5), (.sint .i64 6), (.sint .i64 7), (.sint .i64 8), (.sint .i64 9), (.sint .i64 10), (.sym 11)])) .lf), .lf, 0, 60, [], aliv0, Eal, alt0⟩
noncomputable def alt1 : TrX Leaf := (.leaf (.goto 3 [(.int .i64 (0))]))
noncomputable def vtxalx1 : Go.Ev.VT := (.nd (.nd (.nd .lf (some .any) .lf) (some .any) .lf) (some .any) (.nd .lf (some .any) .lf))
noncomputable def vtxalx2 : Go.Ev.VT := (.nd vtxalx1 (some .any) (.nd (.nd .lf (some .any) .lf) (some .any) (.nd .lf (some .any) .lf)))
noncomputable def vtxalx3 : Go.Ev.VT := (.nd vtxalx1 (some .any) vtxalx1)
noncomputable def vtxalx0 : Go.Ev.VT := (.nd vtxalx3 (some .any) vtxalx2)
noncomputable def alc1 : CutP := ⟨some 0, (.nd (.nd (.nd (.nd vtxalx3 (some (.bool false)) vtxalx2) (some (.ptr (some ⟨(.loc 1), 0⟩))) vtxalx0) (some .any) (.nd vtxalx0 (some (.ptr (some ⟨(.loc 2), 0⟩))) vtxalx0)) (some .any) (.nd (.nd (.nd vtxalx3 (some (.sint .i64 60)) vtxalx2) (some (.bool false)) vtxalx0) (some (.ptr (some ⟨(.loc 0), 0⟩))) (.nd vtxalx0 (some (.ptr (some ⟨(.loc 3), 0⟩))) vtxalx0))), (.nd (.nd (.nd .lf (some (.cells [(.sint .i64 35), (.sint .i64 36), (.sint .i64 37), (.sint .i64 38), (.sint .i64 39), (.sint .i64 40), (.sym 41)] none 0 (some 25))) .lf) (some (.cells [(.sint .i64 48), (.sint .i64 31), (.sint .i64 32), (.sint .i64 33), (.sint .i64 34), (.sym 30), (.sint .i64 35), (.sint .i64 36), (.sint .i64 37), (.sint .i64 38), (.sint .i64 39), (.sint .i64 40), (.sym 41)] none 0 none)) .lf) (some (.cells [(.sint .i64 24), (.sint .i64 1), (.sint .i64 2), (.sint .i64 3), (.sint .i64 4), (.sym 0), (.sint .i64 5), (.sint .i64 6), (.sint .i64 7), (.sint .i64 8), (.sint .i64 9), (.sint .i64 10), (.sym 11)] none 0 none)) (.nd .lf (some (.cells [(.sint .i64 5), (.sint .i64 6), (.sint .i64 7), (.sint .i64 8), (.sint .i64 9), (.sint .i64 10), (.sym 11)] none 0 (some 25))) .lf)), 4, 60, [(.sint .i64 60)], aliv0, Eal, alt1⟩
noncomputable def aliv2 : Ivs := [mmA, mmA, mmA, mmA, mmA, mmA, mmA, mmA, mmA, mmA, mmA, mmA, (0, 260), (0, 4), mmA, mmA, mmA, mmA, mmA, mmA, mmA, mmA, mmA, mmA, mmA, mmA, mmA, mmA, mmA, mmA, mmA, mmA, mmA, mmA, mmA, mmA, mmA, mmA, mmA, mmA, mmA, mmA, (0, 260), (0, 4), mmA, mmA, mmA, mmA, mmA, mmA, mmA, mmA, mmA, mmA, mmA, mmA, mmA, mmA, mmA, mmA, (0, 260), (1, 261), mmA, mmA, mmA, mmA, mmA, mmA, mmA, mmA, mmA, mmA, mmA, mmA, mmA, mmA, mmA, mmA, mmA, mmA, mmA, mmA, mmA, mmA, mmA, mmA, mmA, mmA, (1, 1), (1, 1)]
noncomputable def alt2 : TrX Leaf := (.rel .i64 60 12 (.rel .i64 63 65 (.leaf (.goto 1 [(.sint .i64 61)])) (.rel .i64 65 63 (.leaf (.goto 1 [(.sint .i64 61)])) (.leaf (.goto 2 [(.sint .i64 61)])))) (.leaf (.goto 4 [(.int .i64 (0))])))
noncomputable def alc2 : CutP := ⟨some 0, (.nd (.nd (.nd (.nd vtxalx3 (some (.bool true)) vtxalx2) (some (.ptr (some ⟨(.loc 1), 0⟩))) vtxalx0) (some .any) (.nd vtxalx0 (some (.ptr (some ⟨(.loc 2), 0⟩))) vtxalx0)) (some .any) (.nd (.nd (.nd vtxalx3 (some (.sint .i64 60)) vtxalx2) (some (.bool false)) vtxalx0) (some (.ptr (some ⟨(.loc 0), 0⟩))) (.nd vtxalx0 (some (.ptr (some ⟨(.loc 3), 0⟩))) vtxalx0))), (.nd (.nd (.nd .lf (some (.cells [(.sint .i64 35), (.sint .i64 36), (.sint .i64 37), (.sint .i64 38), (.sint .i64 39), (.sint .i64 40), (.sym 41)] none 0 (some 25))) .lf) (some (.cells [(.sint .i64 48), (.sint .i64 31), (.sint .i64 32), (.sint .i64 33), (.sint .i64 34), (.sym 30), (.sint .i64 35), (.sint .i64 36), (.sint .i64 37), (.sint .i64 38), (.sint .i64 39), (.sint .i64 40), (.sym 41)] none 0 none)) .lf) (some (.cells [(.sint .i64 24), (.sint .i64 1), (.sint .i64 2), (.sint .i64 3), (.sint .i64 4), (.sym 0), (.sint .i64 5), (.sint .i64 6), (.sint .i64 7), (.sint .i64 8), (.sint .i64 9), (.sint .i64 10), (.sym 11)] none 0 none)) (.nd .lf (some (.cells [(.sint .i64 5), (.sint .i64 6), (.sint .i64 7), (.sint .i64 8), (.sint .i64 9), (.sint .i64 10), (.sym 11)] none 0 (some 25))) .lf)), 4, 60, [(.sint .i64 60)], aliv2, Eal, alt2⟩
noncomputable def alt3 : TrX Leaf := (.leaf (.ret (.bool false)))
noncomputable def alc3 : CutP := ⟨some 1, (.nd (.nd (.nd (.nd vtxalx3 (some (.bool false)) vtxalx2) (some .any) vtxalx0) (some .any) (.nd (.nd vtxalx3 (some (.sint .i64 60)) vtxalx2) (some (.ptr (some ⟨(.loc 0), 0⟩))) vtxalx0)) (some .any) (.nd (.nd vtxalx0 (some (.bool false)) vtxalx0) (some .any) (.nd vtxalx0 (some (.ptr (some ⟨(.loc 1), 0⟩))) vtxalx0))), (.nd (.nd .lf (some (.cells [(.sint .i64 35), (.sint .i64 36), (.sint .i64 37), (.sint .i64 38), (.sint .i64 39), (.sint .i64 40), (.sym 41)] none 0 (some 25))) .lf) (some (.cells [(.sint .i64 5), (.sint .i64 6), (.sint .i64 7), (.sint .i64 8), (.sint .i64 9), (.sint .i64 10), (.sym 11)] none 0 (some 25))) .lf), 2, 60, [(.sint .i64 60)], aliv0, Eal, alt3⟩
noncomputable def alt4 : TrX Leaf := (.rel .i64 60 13 (.rel .i64 67 70 (.leaf (.goto 3 [(.sint .i64 61)])) (.rel .i64 70 67 (.leaf (.goto 3 [(.sint .i64 61)])) (.rel .i64 68 71 (.leaf (.goto 3 [(.sint .i64 61)])) (.rel .i64 71 68 (.leaf (.goto 3 [(.sint .i64 61)])) (.leaf (.goto 4 [(.sint .i64 61)])))))) (.leaf (.ret (.bool true))))
noncomputable def alc4 : CutP := ⟨some 1, (.nd (.nd (.nd (.nd vtxalx3 (some (.bool true)) vtxalx2) (some .any) vtxalx0) (some .any) (.nd (.nd vtxalx3 (some (.sint .i64 60)) vtxalx2) (some (.ptr (some ⟨(.loc 0), 0⟩))) vtxalx0)) (some .any) (.nd (.nd vtxalx0 (some (.bool false)) vtxalx0) (some .any) (.nd vtxalx0 (some (.ptr (some ⟨(.loc 1), 0⟩))) vtxalx0))), (.nd (.nd .lf (some (.cells [(.sint .i64 35), (.sint .i64 36), (.sint .i64 37), (.sint .i64 38), (.sint .i64 39), (.sint .i64 40), (.sym 41)] none 0 (some 25))) .lf) (some (.cells [(.sint .i64 5), (.sint .i64 6), (.sint .i64 7), (.sint .i64 8), (.sint .i64 9), (.sint .i64 10), (.sym 11)] none 0 (some 25))) .lf), 2, 60, [(.sint .i64 60)], aliv2, Eal, alt4⟩
noncomputable def alKT : List KE := []
noncomputable def alK2 : List KE2 := []
noncomputable def alC : List CutP := [alc0, alc1, alc2, alc3, alc4]
noncomputable def albody : Code := match Tryd.f14.body with | some c => c | none => .skip
noncomputable def allf (c : CutP) : Ivs → List Fact → Leaf → Bool := chkLf Tryd.prog (rcKA Tryd.prog alKT alK2 20000) Tryd.f14.ntmps [0, 1] 1000 Tryd.f14.results.toList albody alC c
theorem alk0 : chkX (allf alc0) alt0 aliv0 [] = true := by kernel_rfl
theorem alk1 : chkX (allf alc1) alt1 aliv0 [] = true := by kernel_rfl
theorem alk2 : chkX (allf alc2) alt2 aliv2 [] = true := by kernel_rfl
theorem alk3 : chkX (allf alc3) alt3 aliv0 [] = true := by kernel_rfl
theorem alk4 : chkX (allf alc4) alt4 aliv2 [] = true := by kernel_rfl
theorem alauto : @Auto (extKA Tryd.prog alKT alK2) Tryd.prog (rcKA Tryd.prog alKT alK2 20000) Tryd.f14 albody [0, 1] 1000 alC (fun _ => none) := auto_ofA noNG mixed (by kernel_rfl) ⟨alk0, alk1, alk2, alk3, alk4, trivial⟩ ⟨Eal_blk, Eal_blk, Eal_blk, Eal_blk, Eal_blk, trivial⟩
end
end Go.Proofs.YtjfbakhebdhbmaaDoor.event
