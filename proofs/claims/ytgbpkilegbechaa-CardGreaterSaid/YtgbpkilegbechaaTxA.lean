/-
  Which cards and codes may be: automata.
-/
import Derived.Test.YtgbpkilegbechaaTxKa
import Derived.Test.YtgbpkilegbechaaTxKb
import Derived.Test.YtgbpkilegbechaaTxKc
import Derived.Test.YtgbpkilegbechaaTxKd
import Derived.Test.YtgbpkilegbechaaEv4
namespace Go.Proofs.Ytgbpkilegbechaa.greater
open Go.Ev Go.RowKit
set_option linter.unusedVariables false
noncomputable section
theorem clk1 : Go.Ev.chkX (cllf clc1) clt1 cliv1 [] = true := Go.Ev.chkX_rel clk1L clk1R
theorem clauto : @Go.Ev.Auto (Go.Ev.extKT Try.prog clKT) Try.prog (Go.Ev.rcKT Try.prog clKT 20000) Try.f14 clbody [0] 1000 clC (fun _ => none) := Go.Ev.auto_of noNG mixed (by kernel_rfl) ⟨clk0, clk1, trivial⟩ ⟨(fun _ _ => rfl), (Eloop_blk []), trivial⟩
theorem cbk0RRR : Go.Ev.chkX (cblf cbc0) cbt0RRR (Go.Ev.ivLo (Go.Ev.ivLo (Go.Ev.ivLo cbiv0 1 (0 + 1)) 1 (1 + 1)) 1 (2 + 1)) [] = true := Go.Ev.chkX_cut cbk0RRRL cbk0RRRR
theorem cbk0RR : Go.Ev.chkX (cblf cbc0) cbt0RR (Go.Ev.ivLo (Go.Ev.ivLo cbiv0 1 (0 + 1)) 1 (1 + 1)) [] = true := Go.Ev.chkX_cut cbk0RRL cbk0RRR
theorem cbk0R : Go.Ev.chkX (cblf cbc0) cbt0R (Go.Ev.ivLo cbiv0 1 (0 + 1)) [] = true := Go.Ev.chkX_cut cbk0RL cbk0RR
theorem cbk0 : Go.Ev.chkX (cblf cbc0) cbt0 cbiv0 [] = true := Go.Ev.chkX_cut cbk0L cbk0R
theorem cbauto : @Go.Ev.Auto (Go.Ev.extKT Try.prog cbKT) Try.prog (Go.Ev.rcKT Try.prog cbKT 20000) Try.f15 cbbody [] 1000 cbC (fun _ => none) := Go.Ev.auto_of noNG mixed (by kernel_rfl) ⟨cbk0, trivial⟩ ⟨(fun _ _ => rfl), trivial⟩
theorem vaauto : @Go.Ev.Auto (Go.Ev.extKT Try.prog vaKT) Try.prog (Go.Ev.rcKT Try.prog vaKT 20000) Try.f8 vabody [0] 1000 vaC (fun _ => none) := Go.Ev.auto_of noNG mixed (by kernel_rfl) ⟨vak0, trivial⟩ ⟨(fun _ _ => rfl), trivial⟩
theorem vbauto : @Go.Ev.Auto (Go.Ev.extKT Try.prog vbKT) Try.prog (Go.Ev.rcKT Try.prog vbKT 20000) Try.f8 vbbody [0] 1000 vbC (fun _ => none) := Go.Ev.auto_of noNG mixed (by kernel_rfl) ⟨vbk0, trivial⟩ ⟨(fun _ _ => rfl), trivial⟩
theorem vcauto : @Go.Ev.Auto (Go.Ev.extKT Try.prog vcKT) Try.prog (Go.Ev.rcKT Try.prog vcKT 20000) Try.f8 vcbody [0] 1000 vcC (fun _ => none) := Go.Ev.auto_of noNG mixed (by kernel_rfl) ⟨vck0, trivial⟩ ⟨(fun _ _ => rfl), trivial⟩
theorem vdk0 : Go.Ev.chkX (vdlf vdc0) vdt0 vdiv0 [] = true := Go.Ev.chkX_cut vdk0L vdk0R
theorem vdk1LLLRLRRR : Go.Ev.chkX (vdlf vdc1) vdt1LLLRLRRR (Go.Ev.ivLo (Go.Ev.ivLo (Go.Ev.ivLo (Go.Ev.ivHi (Go.Ev.ivLo (Go.Ev.ivHi (Go.Ev.ivHi vdiv1 21 (0)) 22 (0)) 14 (0 + 1)) 14 (5)) 14 (1 + 1)) 14 (2 + 1)) 14 (3 + 1)) (.bin .lss (.sint .i64 12) (.sint .i64 11) (.bool true) :: []) = true := Go.Ev.chkX_cut vdk1LLLRLRRRL vdk1LLLRLRRRR
theorem vdk1LLLRLRR : Go.Ev.chkX (vdlf vdc1) vdt1LLLRLRR (Go.Ev.ivLo (Go.Ev.ivLo (Go.Ev.ivHi (Go.Ev.ivLo (Go.Ev.ivHi (Go.Ev.ivHi vdiv1 21 (0)) 22 (0)) 14 (0 + 1)) 14 (5)) 14 (1 + 1)) 14 (2 + 1)) (.bin .lss (.sint .i64 12) (.sint .i64 11) (.bool true) :: []) = true := Go.Ev.chkX_cut vdk1LLLRLRRL vdk1LLLRLRRR
theorem vdk1LLLRLR : Go.Ev.chkX (vdlf vdc1) vdt1LLLRLR (Go.Ev.ivLo (Go.Ev.ivHi (Go.Ev.ivLo (Go.Ev.ivHi (Go.Ev.ivHi vdiv1 21 (0)) 22 (0)) 14 (0 + 1)) 14 (5)) 14 (1 + 1)) (.bin .lss (.sint .i64 12) (.sint .i64 11) (.bool true) :: []) = true := Go.Ev.chkX_cut vdk1LLLRLRL vdk1LLLRLRR
theorem vdk1LLLRL : Go.Ev.chkX (vdlf vdc1) vdt1LLLRL (Go.Ev.ivHi (Go.Ev.ivLo (Go.Ev.ivHi (Go.Ev.ivHi vdiv1 21 (0)) 22 (0)) 14 (0 + 1)) 14 (5)) (.bin .lss (.sint .i64 12) (.sint .i64 11) (.bool true) :: []) = true := Go.Ev.chkX_cut vdk1LLLRLL vdk1LLLRLR
theorem vdk1LLLR : Go.Ev.chkX (vdlf vdc1) vdt1LLLR (Go.Ev.ivLo (Go.Ev.ivHi (Go.Ev.ivHi vdiv1 21 (0)) 22 (0)) 14 (0 + 1)) (.bin .lss (.sint .i64 12) (.sint .i64 11) (.bool true) :: []) = true := Go.Ev.chkX_cut vdk1LLLRL vdk1LLLRR
theorem vdk1LLL : Go.Ev.chkX (vdlf vdc1) vdt1LLL (Go.Ev.ivHi (Go.Ev.ivHi vdiv1 21 (0)) 22 (0)) (.bin .lss (.sint .i64 12) (.sint .i64 11) (.bool true) :: []) = true := Go.Ev.chkX_cut vdk1LLLL vdk1LLLR
theorem vdk1LLR : Go.Ev.chkX (vdlf vdc1) vdt1LLR (Go.Ev.ivLo (Go.Ev.ivHi vdiv1 21 (0)) 22 (0 + 1)) (.bin .lss (.sint .i64 12) (.sint .i64 11) (.bool true) :: []) = true := Go.Ev.chkX_cut vdk1LLRL vdk1LLRR
theorem vdk1LL : Go.Ev.chkX (vdlf vdc1) vdt1LL (Go.Ev.ivHi vdiv1 21 (0)) (.bin .lss (.sint .i64 12) (.sint .i64 11) (.bool true) :: []) = true := Go.Ev.chkX_cut vdk1LLL vdk1LLR
theorem vdk1LRR : Go.Ev.chkX (vdlf vdc1) vdt1LRR (Go.Ev.ivLo (Go.Ev.ivLo vdiv1 21 (0 + 1)) 22 (0 + 1)) (.bin .lss (.sint .i64 12) (.sint .i64 11) (.bool true) :: []) = true := Go.Ev.chkX_cut vdk1LRRL vdk1LRRR
theorem vdk1LR : Go.Ev.chkX (vdlf vdc1) vdt1LR (Go.Ev.ivLo vdiv1 21 (0 + 1)) (.bin .lss (.sint .i64 12) (.sint .i64 11) (.bool true) :: []) = true := Go.Ev.chkX_cut vdk1LRL vdk1LRR
theorem vdk1L : Go.Ev.chkX (vdlf vdc1) vdt1L vdiv1 (.bin .lss (.sint .i64 12) (.sint .i64 11) (.bool true) :: []) = true := Go.Ev.chkX_cut vdk1LL vdk1LR
theorem vdk1 : Go.Ev.chkX (vdlf vdc1) vdt1 vdiv1 [] = true := Go.Ev.chkX_rel vdk1L vdk1R
theorem vdk2 : Go.Ev.chkX (vdlf vdc2) vdt2 vdiv2 [] = true := Go.Ev.chkX_rel vdk2L vdk2R
theorem vdauto : @Go.Ev.Auto (Go.Ev.extKT Try.prog vdKT) Try.prog (Go.Ev.rcKT Try.prog vdKT 20000) Try.f8 vdbody [0] 1000 vdC (fun _ => none) := Go.Ev.auto_of noNG mixed (by kernel_rfl) ⟨vdk0, vdk1, vdk2, trivial⟩ ⟨(fun _ _ => rfl), (Eloop_blk (nameF false)), (Eloop_blk (nameF false)), trivial⟩
theorem cck0 : Go.Ev.chkX (cclf ccc0) cct0 cciv0 [] = true := Go.Ev.chkX_cut cck0L cck0R
theorem cck1LRLRRRRRRRRRRRRR : Go.Ev.chkX (cclf ccc1) cct1LRLRRRRRRRRRRRRR (Go.Ev.ivLo (Go.Ev.ivLo (Go.Ev.ivLo (Go.Ev.ivLo (Go.Ev.ivLo (Go.Ev.ivLo (Go.Ev.ivLo (Go.Ev.ivLo (Go.Ev.ivLo (Go.Ev.ivLo (Go.Ev.ivLo (Go.Ev.ivLo (Go.Ev.ivLo (Go.Ev.ivHi (Go.Ev.ivLo cciv1 6 (0 + 1)) 6 (24)) 6 (1 + 1)) 6 (2 + 1)) 6 (3 + 1)) 6 (4 + 1)) 6 (5 + 1)) 6 (6 + 1)) 6 (7 + 1)) 6 (8 + 1)) 6 (9 + 1)) 6 (10 + 1)) 6 (11 + 1)) 6 (12 + 1)) 6 (13 + 1)) (.bin .lss (.sint .i64 3) (.sint .i64 2) (.bool true) :: []) = true := Go.Ev.chkX_cut cck1LRLRRRRRRRRRRRRRL cck1LRLRRRRRRRRRRRRRR
theorem cck1LRLRRRRRRRRRRRR : Go.Ev.chkX (cclf ccc1) cct1LRLRRRRRRRRRRRR (Go.Ev.ivLo (Go.Ev.ivLo (Go.Ev.ivLo (Go.Ev.ivLo (Go.Ev.ivLo (Go.Ev.ivLo (Go.Ev.ivLo (Go.Ev.ivLo (Go.Ev.ivLo (Go.Ev.ivLo (Go.Ev.ivLo (Go.Ev.ivLo (Go.Ev.ivHi (Go.Ev.ivLo cciv1 6 (0 + 1)) 6 (24)) 6 (1 + 1)) 6 (2 + 1)) 6 (3 + 1)) 6 (4 + 1)) 6 (5 + 1)) 6 (6 + 1)) 6 (7 + 1)) 6 (8 + 1)) 6 (9 + 1)) 6 (10 + 1)) 6 (11 + 1)) 6 (12 + 1)) (.bin .lss (.sint .i64 3) (.sint .i64 2) (.bool true) :: []) = true := Go.Ev.chkX_cut cck1LRLRRRRRRRRRRRRL cck1LRLRRRRRRRRRRRRR
theorem cck1LRLRRRRRRRRRRR : Go.Ev.chkX (cclf ccc1) cct1LRLRRRRRRRRRRR (Go.Ev.ivLo (Go.Ev.ivLo (Go.Ev.ivLo (Go.Ev.ivLo (Go.Ev.ivLo (Go.Ev.ivLo (Go.Ev.ivLo (Go.Ev.ivLo (Go.Ev.ivLo (Go.Ev.ivLo (Go.Ev.ivLo (Go.Ev.ivHi (Go.Ev.ivLo cciv1 6 (0 + 1)) 6 (24)) 6 (1 + 1)) 6 (2 + 1)) 6 (3 + 1)) 6 (4 + 1)) 6 (5 + 1)) 6 (6 + 1)) 6 (7 + 1)) 6 (8 + 1)) 6 (9 + 1)) 6 (10 + 1)) 6 (11 + 1)) (.bin .lss (.sint .i64 3) (.sint .i64 2) (.bool true) :: []) = true := Go.Ev.chkX_cut cck1LRLRRRRRRRRRRRL cck1LRLRRRRRRRRRRRR
theorem cck1LRLRRRRRRRRRR : Go.Ev.chkX (cclf ccc1) cct1LRLRRRRRRRRRR (Go.Ev.ivLo (Go.Ev.ivLo (Go.Ev.ivLo (Go.Ev.ivLo (Go.Ev.ivLo (Go.Ev.ivLo (Go.Ev.ivLo (Go.Ev.ivLo (Go.Ev.ivLo (Go.Ev.ivLo (Go.Ev.ivHi (Go.Ev.ivLo cciv1 6 (0 + 1)) 6 (24)) 6 (1 + 1)) 6 (2 + 1)) 6 (3 + 1)) 6 (4 + 1)) 6 (5 + 1)) 6 (6 + 1)) 6 (7 + 1)) 6 (8 + 1)) 6 (9 + 1)) 6 (10 + 1)) (.bin .lss (.sint .i64 3) (.sint .i64 2) (.bool true) :: []) = true := Go.Ev.chkX_cut cck1LRLRRRRRRRRRRL cck1LRLRRRRRRRRRRR
theorem cck1LRLRRRRRRRRR : Go.Ev.chkX (cclf ccc1) cct1LRLRRRRRRRRR (Go.Ev.ivLo (Go.Ev.ivLo (Go.Ev.ivLo (Go.Ev.ivLo (Go.Ev.ivLo (Go.Ev.ivLo (Go.Ev.ivLo (Go.Ev.ivLo (Go.Ev.ivLo (Go.Ev.ivHi (Go.Ev.ivLo cciv1 6 (0 + 1)) 6 (24)) 6 (1 + 1)) 6 (2 + 1)) 6 (3 + 1)) 6 (4 + 1)) 6 (5 + 1)) 6 (6 + 1)) 6 (7 + 1)) 6 (8 + 1)) 6 (9 + 1)) (.bin .lss (.sint .i64 3) (.sint .i64 2) (.bool true) :: []) = true := Go.Ev.chkX_cut cck1LRLRRRRRRRRRL cck1LRLRRRRRRRRRR
theorem cck1LRLRRRRRRRR : Go.Ev.chkX (cclf ccc1) cct1LRLRRRRRRRR (Go.Ev.ivLo (Go.Ev.ivLo (Go.Ev.ivLo (Go.Ev.ivLo (Go.Ev.ivLo (Go.Ev.ivLo (Go.Ev.ivLo (Go.Ev.ivLo (Go.Ev.ivHi (Go.Ev.ivLo cciv1 6 (0 + 1)) 6 (24)) 6 (1 + 1)) 6 (2 + 1)) 6 (3 + 1)) 6 (4 + 1)) 6 (5 + 1)) 6 (6 + 1)) 6 (7 + 1)) 6 (8 + 1)) (.bin .lss (.sint .i64 3) (.sint .i64 2) (.bool true) :: []) = true := Go.Ev.chkX_cut cck1LRLRRRRRRRRL cck1LRLRRRRRRRRR
theorem cck1LRLRRRRRRR : Go.Ev.chkX (cclf ccc1) cct1LRLRRRRRRR (Go.Ev.ivLo (Go.Ev.ivLo (Go.Ev.ivLo (Go.Ev.ivLo (Go.Ev.ivLo (Go.Ev.ivLo (Go.Ev.ivLo (Go.Ev.ivHi (Go.Ev.ivLo cciv1 6 (0 + 1)) 6 (24)) 6 (1 + 1)) 6 (2 + 1)) 6 (3 + 1)) 6 (4 + 1)) 6 (5 + 1)) 6 (6 + 1)) 6 (7 + 1)) (.bin .lss (.sint .i64 3) (.sint .i64 2) (.bool true) :: []) = true := Go.Ev.chkX_cut cck1LRLRRRRRRRL cck1LRLRRRRRRRR
theorem cck1LRLRRRRRR : Go.Ev.chkX (cclf ccc1) cct1LRLRRRRRR (Go.Ev.ivLo (Go.Ev.ivLo (Go.Ev.ivLo (Go.Ev.ivLo (Go.Ev.ivLo (Go.Ev.ivLo (Go.Ev.ivHi (Go.Ev.ivLo cciv1 6 (0 + 1)) 6 (24)) 6 (1 + 1)) 6 (2 + 1)) 6 (3 + 1)) 6 (4 + 1)) 6 (5 + 1)) 6 (6 + 1)) (.bin .lss (.sint .i64 3) (.sint .i64 2) (.bool true) :: []) = true := Go.Ev.chkX_cut cck1LRLRRRRRRL cck1LRLRRRRRRR
theorem cck1LRLRRRRR : Go.Ev.chkX (cclf ccc1) cct1LRLRRRRR (Go.Ev.ivLo (Go.Ev.ivLo (Go.Ev.ivLo (Go.Ev.ivLo (Go.Ev.ivLo (Go.Ev.ivHi (Go.Ev.ivLo cciv1 6 (0 + 1)) 6 (24)) 6 (1 + 1)) 6 (2 + 1)) 6 (3 + 1)) 6 (4 + 1)) 6 (5 + 1)) (.bin .lss (.sint .i64 3) (.sint .i64 2) (.bool true) :: []) = true := Go.Ev.chkX_cut cck1LRLRRRRRL cck1LRLRRRRRR
theorem cck1LRLRRRR : Go.Ev.chkX (cclf ccc1) cct1LRLRRRR (Go.Ev.ivLo (Go.Ev.ivLo (Go.Ev.ivLo (Go.Ev.ivLo (Go.Ev.ivHi (Go.Ev.ivLo cciv1 6 (0 + 1)) 6 (24)) 6 (1 + 1)) 6 (2 + 1)) 6 (3 + 1)) 6 (4 + 1)) (.bin .lss (.sint .i64 3) (.sint .i64 2) (.bool true) :: []) = true := Go.Ev.chkX_cut cck1LRLRRRRL cck1LRLRRRRR
theorem cck1LRLRRR : Go.Ev.chkX (cclf ccc1) cct1LRLRRR (Go.Ev.ivLo (Go.Ev.ivLo (Go.Ev.ivLo (Go.Ev.ivHi (Go.Ev.ivLo cciv1 6 (0 + 1)) 6 (24)) 6 (1 + 1)) 6 (2 + 1)) 6 (3 + 1)) (.bin .lss (.sint .i64 3) (.sint .i64 2) (.bool true) :: []) = true := Go.Ev.chkX_cut cck1LRLRRRL cck1LRLRRRR
theorem cck1LRLRR : Go.Ev.chkX (cclf ccc1) cct1LRLRR (Go.Ev.ivLo (Go.Ev.ivLo (Go.Ev.ivHi (Go.Ev.ivLo cciv1 6 (0 + 1)) 6 (24)) 6 (1 + 1)) 6 (2 + 1)) (.bin .lss (.sint .i64 3) (.sint .i64 2) (.bool true) :: []) = true := Go.Ev.chkX_cut cck1LRLRRL cck1LRLRRR
theorem cck1LRLR : Go.Ev.chkX (cclf ccc1) cct1LRLR (Go.Ev.ivLo (Go.Ev.ivHi (Go.Ev.ivLo cciv1 6 (0 + 1)) 6 (24)) 6 (1 + 1)) (.bin .lss (.sint .i64 3) (.sint .i64 2) (.bool true) :: []) = true := Go.Ev.chkX_cut cck1LRLRL cck1LRLRR
theorem cck1LRL : Go.Ev.chkX (cclf ccc1) cct1LRL (Go.Ev.ivHi (Go.Ev.ivLo cciv1 6 (0 + 1)) 6 (24)) (.bin .lss (.sint .i64 3) (.sint .i64 2) (.bool true) :: []) = true := Go.Ev.chkX_cut cck1LRLL cck1LRLR
theorem cck1LR : Go.Ev.chkX (cclf ccc1) cct1LR (Go.Ev.ivLo cciv1 6 (0 + 1)) (.bin .lss (.sint .i64 3) (.sint .i64 2) (.bool true) :: []) = true := Go.Ev.chkX_cut cck1LRL cck1LRR
theorem cck1L : Go.Ev.chkX (cclf ccc1) cct1L cciv1 (.bin .lss (.sint .i64 3) (.sint .i64 2) (.bool true) :: []) = true := Go.Ev.chkX_cut cck1LL cck1LR
theorem cck1 : Go.Ev.chkX (cclf ccc1) cct1 cciv1 [] = true := Go.Ev.chkX_rel cck1L cck1R
theorem ccauto : @Go.Ev.Auto (Go.Ev.extKT Try.prog ccKT) Try.prog (Go.Ev.rcKT Try.prog ccKT 20000) Try.f38 ccbody [0] 1000 ccC (fun _ => none) := Go.Ev.auto_of noNG mixed (by kernel_rfl) ⟨cck0, cck1, trivial⟩ ⟨(fun _ _ => rfl), Kloop_blk, trivial⟩
end
end Go.Proofs.Ytgbpkilegbechaa.greater
namespace Go.Proofs.Ytgbpkilegbechaa.greater
open Go.Ev Go.RowKit
set_option linter.unusedVariables false
noncomputable section
abbrev Ins := Int × Int × Int
def I64 (x : Int) : Prop := -9223372036854775808 ≤ x ∧ x ≤ 9223372036854775807
theorem i64_0 : I64 0 := ⟨by decide, by decide⟩
theorem i64_n {n : Nat} (h : (n : Int) ≤ 9223372036854775807) : I64 (n : Int) := ⟨by omega, h⟩
/-- A slice that holds these instructions. -/
structure Lst (w : World) (oa : Option Addr) (B O : Nat) (xs : List Ins) : Prop where
  cells : ∀ (i : Nat) (x : Ins), xs[i]? = some x → oa = some ⟨B, O, none⟩ ∧ B < w.heap.size ∧ w.cell? ⟨B, O + i * 3, none⟩ = some (.int .i64 x.1) ∧ w.cell? ⟨B, O + i * 3 + 1, none⟩ = some (.int .i64 x.2.1) ∧ w.cell? ⟨B, O + i * 3 + 2, none⟩ = some (.int .i64 x.2.2)
  fits : ∀ x ∈ xs, I64 x.1 ∧ I64 x.2.1 ∧ I64 x.2.2
theorem at_of {α : Type} {xs : List α} {i : Nat} {d : α} (h : i < xs.length) : xs[i]? = some (xs.getD i d) := by
  simp [List.getD_eq_getElem?_getD, h]
theorem Lst.fit {w : World} {oa : Option Addr} {B O : Nat} {xs : List Ins} (h : Lst w oa B O xs) (i : Nat) : I64 (xs.getD i (0, 0, 0)).1 ∧ I64 (xs.getD i (0, 0, 0)).2.1 ∧ I64 (xs.getD i (0, 0, 0)).2.2 := by
  by_cases hi : i < xs.length
  · exact h.fits _ (List.mem_of_getElem? (at_of hi))
  · have e : xs.getD i (0, 0, 0) = (0, 0, 0) := by simp [List.getD_eq_getElem?_getD, List.getElem?_eq_none (by omega : xs.length ≤ i)]
    rw [e]
    exact ⟨i64_0, i64_0, i64_0⟩
/-! ### codes -/
def cval (t c : Int) (xs : List Ins) (i : Nat) : Nat → Int
  | 0 => t
  | 1 => c
  | 2 => xs.length
  | 3 => i
  | 4 => if i < xs.length then i + 1 else 1
  | 6 => (xs.getD i (0, 0, 0)).1
  | 7 => (xs.getD i (0, 0, 0)).2.1
  | 8 => (xs.getD i (0, 0, 0)).2.2
  | _ => 0
def crho (oa : Option Addr) (cap B O : Nat) (t c : Int) (xs : List Ins) (i : Nat) : Rho :=
  ⟨cval t c xs i, fun _ => .slice oa xs.length cap, fun _ => B, fun k => if k = 5 then O + i * 3 else 0, fun _ => rfl, fun _ => [], fun _ _ h => by cases h⟩
section
variable {w : World} {oa : Option Addr} {cap B O : Nat} {t c : Int} {xs : List Ins} {i : Nat}
theorem cval_fits (hL : Lst w oa B O xs) (ht : I64 t) (hc : I64 c) (hn : (xs.length : Int) ≤ 9223372036854775807) (hi : i ≤ xs.length) : ∀ k, I64 (cval t c xs i k) := fun k => by
  obtain ⟨f1, f2, f3⟩ := hL.fit i
  match k with
  | 0 => exact ht
  | 1 => exact hc
  | 2 => exact i64_n (by omega)
  | 3 => exact i64_n (by omega)
  | 4 => exact ⟨by show _ ≤ (if i < xs.length then (i : Int) + 1 else 1); split <;> omega, by show (if i < xs.length then (i : Int) + 1 else 1) ≤ _; split <;> omega⟩
  | 5 => exact i64_0
  | 6 => exact f1
  | 7 => exact f2
  | 8 => exact f3
  | k + 9 => exact i64_0
theorem civ0 (hL : Lst w oa B O xs) (ht : I64 t) (hc : I64 c) (hn : (xs.length : Int) ≤ 9223372036854775807) (hi : i ≤ xs.length) : IvOK [(-9223372036854775808, 9223372036854775807), (-9223372036854775808, 9223372036854775807), (0, 9223372036854775807)] (crho oa cap B O t c xs i) :=
  iv_all (f := cval t c xs i) ⟨ht, hc, ⟨by show (0 : Int) ≤ (xs.length : Int); omega, by show (xs.length : Int) ≤ _; omega⟩, trivial⟩ (cval_fits hL ht hc hn hi)
/-- Inside the bounds of the loops. -/
structure In4 (t c : Int) (xs : List Ins) : Prop where
  t0 : 0 ≤ t
  t2 : t ≤ 2
  c0 : 0 ≤ c
  c40 : c ≤ 40
  n32 : xs.length ≤ 32
theorem civ1 (hL : Lst w oa B O xs) (hin : In4 t c xs) (hi : i ≤ xs.length) : IvOK [(0, 2), (0, 40), (0, 32), (0, 32), (1, 33), (-9223372036854775808, 9223372036854775807), (-9223372036854775808, 9223372036854775807), (-9223372036854775808, 9223372036854775807), (-9223372036854775808, 9223372036854775807)] (crho oa cap B O t c xs i) := by
  obtain ⟨h1, h2, h3, h4, h5⟩ := hin
  have f := cval_fits hL (t := t) (c := c) ⟨by omega, by omega⟩ ⟨by omega, by omega⟩ (by omega) hi
  exact iv_all (f := cval t c xs i) ⟨⟨h1, h2⟩, ⟨h3, h4⟩, ⟨by show (0 : Int) ≤ (xs.length : Int); omega, by show (xs.length : Int) ≤ _; omega⟩, ⟨by show 0 ≤ (i : Int); omega, by show (i : Int) ≤ _; omega⟩, ⟨by show 1 ≤ (if i < xs.length then (i : Int) + 1 else 1); split <;> omega, by show (if i < xs.length then (i : Int) + 1 else 1) ≤ _; split <;> omega⟩, f 5, f 6, f 7, f 8, trivial⟩ f
theorem hasLss_lt (w : World) {fs : List Fact} {a b : Nat} {ρ : Rho} (h : hasLss fs a b = true) (k : FsOK fs ρ) : ρ.int a < ρ.int b := by
  unfold hasLss at h
  rw [List.any_eq_true] at h
  obtain ⟨f, hf, hh⟩ := h
  split at hh
  · rename_i k1 x k2 y
    simp only [Bool.and_eq_true] at hh
    have e1 := Nat.eq_of_beq_eq_true hh.1
    have e2 := Nat.eq_of_beq_eq_true hh.2
    subst e1 e2
    exact lss_of Try.prog w (k _ hf)
  · cases hh
theorem codeF_ok : FsOK codeF (crho oa cap B O t c xs i) := fs_cons (fact_len rfl rfl) fs_nil
theorem kent_ok {iv : Ivs} {fs : List Fact} (h1 : IvOK iv (crho oa cap B O t c xs i)) (h2 : FsOK fs (crho oa cap B O t c xs i)) (φ : Phi) (hφ : φ.ρ = crho oa cap B O t c xs i) : EnvP (Kent iv fs) φ w :=
  ⟨by rw [hφ]; exact h1, by rw [hφ]; exact fs_app h2 codeF_ok, fun k cs h => by cases h⟩
theorem kloop_ok (hL : Lst w oa B O xs) (hn : (xs.length : Int) ≤ 9223372036854775807) {iv : Ivs} {fs : List Fact} (h1 : IvOK iv (crho oa cap B O t c xs i)) (h2 : FsOK fs (crho oa cap B O t c xs i)) (φ : Phi) (hφ : φ.ρ = crho oa cap B O t c xs i) : EnvP (Kloop iv fs) φ w := by
  unfold Kloop
  split
  · rename_i hh
    have hi : (i : Int) < (xs.length : Int) := hasLss_lt w hh h2
    obtain ⟨g1, g2, g3, g4, g5⟩ := hL.cells i _ (at_of (d := (0, 0, 0)) (by omega))
    refine ⟨by rw [hφ]; exact h1, by
      rw [hφ]
      refine fs_app h2 (fs_app codeF_ok (fs_cons ?_ (fs_cons ?_ fs_nil)))
      · refine fact_at (n := i) (B := B) (O := O) (l := xs.length) (c := cap) ?_ rfl (by omega) rfl rfl
        show some (Value.slice oa xs.length cap) = _
        rw [g1]
      · have e4 : cval t c xs i 4 = (i : Int) + 1 := by show (if i < xs.length then (i : Int) + 1 else 1) = _; rw [if_pos (by omega)]
        exact fact_add e4 (show -9223372036854775808 ≤ cval t c xs i 4 by rw [e4]; omega) (show cval t c xs i 4 ≤ 9223372036854775807 by rw [e4]; omega), fun k cs h => ?_⟩
    have hk : k = 5 ∧ cs = [sv iv .i64 6, si 7, si 8] := by
      simp only at h
      split at h
      · rename_i hb
        exact ⟨Nat.eq_of_beq_eq_true hb, (Option.some.inj h).symm⟩
      · cases h
    obtain ⟨rfl, rfl⟩ := hk
    have eb : φ.ρ.blk 5 = B := by rw [hφ]; rfl
    have eo : φ.ρ.off 5 = O + i * 3 := by rw [hφ]; rfl
    have v6 : VR φ (sv iv .i64 6) (.int .i64 (xs.getD i (0, 0, 0)).1) := by have := VR_sv (φ := φ) (iv := iv) (by rw [hφ]; exact h1) .i64 6; rw [hφ] at this; exact this
    rw [eb, eo]
    refine ⟨g2, fun j x hx => ?_⟩
    match j with
    | 0 => cases hx; exact ⟨_, g3, v6⟩
    | 1 => cases hx; exact ⟨_, g4, by simp only [si, VR, hφ]; rfl⟩
    | 2 => cases hx; exact ⟨_, g5, by simp only [si, VR, hφ]; rfl⟩
    | j + 3 => simp at hx
  · exact kent_ok h1 h2 φ hφ
/-- May an instruction be? -/
def goodI (t c : Int) (xs : List Ins) (i : Nat) : Bool := isGo (valX cct1L (cval t c xs i))
/-- Which codes may be: an error's number. -/
def spec4 (t c : Int) (xs : List Ins) : Int := if t < 0 ∨ 2 < t ∨ c < 0 ∨ 40 < c then 2 else if 32 < xs.length then 3 else if allF (goodI t c xs) xs.length 0 = true then 0 else 9
theorem spec4_in : 0 ≤ spec4 t c xs ∧ spec4 t c xs ≤ 1000 := by
  unfold spec4
  repeat' split
  all_goals omega
theorem cct1L_leaf : allL (goOr 1 4 9) cct1L = true := by kernel_rfl
theorem ccShape : shapeC 2 3 2 4 0 ccC = true := by kernel_rfl
theorem entry4 (t0 : TrX Leaf) (h : t0 = .cut 0 (-1) (.leaf (.ret (.int .i64 (2)))) (.cut 0 (2) (.cut 1 (-1) (.leaf (.ret (.int .i64 (2)))) (.cut 1 (40) (.cut 2 (32) (.leaf (.goto 1 [(.int .i64 (0))])) (.leaf (.ret (.int .i64 (3))))) (.leaf (.ret (.int .i64 (2)))))) (.leaf (.ret (.int .i64 (2)))))) :
    valX t0 (cval t c xs 0) = if t < 0 ∨ 2 < t ∨ c < 0 ∨ 40 < c then .ret (.int .i64 2) else if 32 < xs.length then .ret (.int .i64 3) else .goto 1 [.int .i64 0] := by
  subst h
  simp only [valX, cval]
  by_cases h1 : t ≤ -1
  · rw [if_pos h1, if_pos (by omega)]
  · rw [if_neg h1]
    by_cases h2 : t ≤ 2
    · rw [if_pos h2]
      by_cases h3 : c ≤ -1
      · rw [if_pos h3, if_pos (by omega)]
      · rw [if_neg h3]
        by_cases h4 : c ≤ 40
        · rw [if_pos h4, if_neg (c := t < 0 ∨ 2 < t ∨ c < 0 ∨ 40 < c) (by omega)]
          by_cases h5 : (xs.length : Int) ≤ 32
          · rw [if_pos h5, if_neg (by omega)]
          · rw [if_neg h5, if_pos (by omega)]
        · rw [if_neg h4, if_pos (by omega)]
    · rw [if_neg h2, if_pos (by omega)]
/-- Both automata tell the specification. -/
theorem rd4 {C : List CutP} {c0 c1 : CutP} {L : TrX Leaf} (hC0 : lget C 0 = some c0) (hC1 : lget C 1 = some c1) (h0 : ∀ t c xs, valX c0.tr (cval t c xs 0) = if t < 0 ∨ 2 < t ∨ c < 0 ∨ 40 < c then .ret (.int .i64 2) else if 32 < xs.length then .ret (.int .i64 3) else .goto 1 [.int .i64 0]) (h1 : c1.tr = .rel .i64 3 2 L (.leaf (.ret (.int .i64 0))))
    (hL : allL (goOr 1 4 9) L = true) (hg : In4 t c xs → ∀ i, i < xs.length → isGo (valX L (cval t c xs i)) = goodI t c xs i) : Rd C (cval t c xs) (fun p _ => p = 0 ∨ In4 t c xs) 0 0 (.int .i64 (spec4 t c xs)) := by
  have e0 := h0 t c xs
  unfold spec4
  by_cases k1 : t < 0 ∨ 2 < t ∨ c < 0 ∨ 40 < c
  · rw [if_pos k1] at e0
    rw [if_pos k1]
    exact .ret hC0 (.inl rfl) e0
  · rw [if_neg k1] at e0
    rw [if_neg k1]
    by_cases k2 : 32 < xs.length
    · rw [if_pos k2] at e0
      rw [if_pos k2]
      exact .ret hC0 (.inl rfl) e0
    · rw [if_neg k2] at e0
      rw [if_neg k2]
      have hin : In4 t c xs := ⟨by omega, by omega, by omega, by omega, by omega⟩
      have s := rd_search (v := cval t c xs) (n := xs.length) (g := goodI t c xs) (rB := .int .i64 9) (rG := .int .i64 0) (I := fun p _ => p = 0 ∨ In4 t c xs) hC1 (j := 4) (k := .i64) (fun i _ => .inr hin) (fun i hi => by
        rw [h1]
        simp only [valX]
        rw [if_pos (show cval t c xs i 3 < cval t c xs i 2 by show (i : Int) < (xs.length : Int); omega)]
        rw [← hg hin i hi]
        exact goOr_ok (allL_ok hL)) (.ret hC1 (.inr hin) (by
        rw [h1]
        simp only [valX]
        rw [if_neg (show ¬ cval t c xs xs.length 3 < cval t c xs xs.length 2 by show ¬ (xs.length : Int) < (xs.length : Int); omega)])) xs.length 0 (by omega)
      refine .zero hC0 (.inl rfl) e0 ?_
      split <;> rename_i hs <;> simp only [hs] at s <;> exact s
theorem cagree (i j : Nat) : agree 3 (crho oa cap B O t c xs i) (crho oa cap B O t c xs j) := fun k hk => by
  match k, hk with
  | 0, _ => exact ⟨rfl, rfl, rfl, rfl, rfl⟩
  | 1, _ => exact ⟨rfl, rfl, rfl, rfl, rfl⟩
  | 2, _ => exact ⟨rfl, rfl, rfl, rfl, rfl⟩
theorem cargs : VRs ⟨fun _ => none, crho oa cap B O t c xs 0⟩ [.sym 0, si 0, si 1] [.slice oa xs.length cap, .int .i64 t, .int .i64 c] := by
  simp only [VRs, VR, si]
  exact ⟨_, _, rfl, rfl, _, _, rfl, rfl, _, _, rfl, rfl, rfl⟩
/-- The program's check of a code. -/
theorem codeC (hL : Lst w oa B O xs) (ht : I64 t) (hc : I64 c) (hn : (xs.length : Int) ≤ 9223372036854775807) :
    Calls Try.prog 38 #[.slice oa xs.length cap, .int .i64 t, .int .i64 c] w fun e w' => e = .returned (.int .i64 (spec4 t c xs)) ∧ Below w.heap.size w w' := by
  refine ix_calls (KT := ccKT) ccauto Try.func38 (by kernel_rfl) (args := [.sym 0, si 0, si 1]) (by kernel_rfl) (c0 := ccc0) rfl rfl (by kernel_rfl) rfl rfl (I := fun p _ => p = 0 ∨ In4 t c xs) (n := xs.length) (rho := crho oa cap B O t c xs) ccShape rfl (fun i => rfl) (fun i => rfl) (fun i hi => if_pos hi)
    (fun p c hp h0 i j => ?_) (fun i hi e he => by cases he) (fun p c hp i hi hI => ?_) (fun ρ => rfl) (rd4 (C := ccC) (c0 := ccc0) (c1 := ccc1) rfl rfl (fun t c xs => entry4 _ rfl) rfl cct1L_leaf (fun _ i _ => rfl)) cargs
  · match p, hp, h0 with
    | 1, hp, _ => cases hp; exact cagree i j
  · match p, hp with
    | 0, hp => cases hp; exact ⟨civ0 hL ht hc hn hi, fun iv fs => kent_ok⟩
    | 1, hp =>
      cases hp
      rcases hI with h | hin
      · cases h
      · exact ⟨civ1 hL hin hi, fun iv fs => kloop_ok hL hn⟩
end
end
end Go.Proofs.Ytgbpkilegbechaa.greater
namespace Go.Proofs.Ytgbpkilegbechaa.greater
open Go.Ev Go.RowKit
set_option linter.unusedVariables false
noncomputable section
structure Ab where
  kind : Int
  event : Int
  who : Int
  c0 : Int
  c1 : Int
  c2 : Int
  c3 : Int
  tap : Bool
  tg : List Int
  code : List Ins
  op : Int
  a : Int
  b : Int
def Ab.zero : Ab := ⟨0, 0, 0, 0, 0, 0, 0, false, [], [], 0, 0, 0⟩
structure Ab.Fits (x : Ab) : Prop where
  ints : ∀ z ∈ [x.kind, x.event, x.who, x.c0, x.c1, x.c2, x.c3, x.op, x.a, x.b], I64 z
  tg : ∀ z ∈ x.tg, I64 z
  tl : (x.tg.length : Int) ≤ 9223372036854775807
  cl : (x.code.length : Int) ≤ 9223372036854775807
/-- A card, and where it lies. -/
structure Cx where
  name : ByteArray
  kind : Int
  c0 : Int
  c1 : Int
  c2 : Int
  c3 : Int
  color : Int
  power : Int
  tough : Int
  keys : Int
  abs : List Ab
  oa : Option Addr
  cap : Nat
  B : Nat
  O : Nat
  ta : Nat → Option Addr
  tc : Nat → Nat
  tB : Nat → Nat
  tO : Nat → Nat
  ca : Nat → Option Addr
  cc : Nat → Nat
  cB : Nat → Nat
  cO : Nat → Nat
def Cx.ab (D : Cx) (i : Nat) : Ab := D.abs.getD i Ab.zero
def Cx.v (D : Cx) (n : Int) (i : Nat) : Nat → Int
  | 0 => n
  | 1 => D.kind
  | 2 => D.c0
  | 3 => D.c1
  | 4 => D.c2
  | 5 => D.c3
  | 6 => D.color
  | 7 => D.power
  | 8 => D.tough
  | 9 => D.keys
  | 10 => D.name.size
  | 11 => D.abs.length
  | 12 => i
  | 13 => if i < D.abs.length then i + 1 else 1
  | 14 => (D.ab i).kind
  | 15 => (D.ab i).event
  | 16 => (D.ab i).who
  | 17 => (D.ab i).c0
  | 18 => (D.ab i).c1
  | 19 => (D.ab i).c2
  | 20 => (D.ab i).c3
  | 21 => if (D.ab i).tap = true then 1 else 0
  | 22 => (D.ab i).tg.length
  | 23 => (D.ab i).code.length
  | 24 => (D.ab i).op
  | 25 => (D.ab i).a
  | 26 => (D.ab i).b
  | 27 => (D.ab i).tg.getD 0 0
  | 28 => (D.ab i).tg.getD 1 0
  | 29 => spec4 ((D.ab i).tg.length : Int) n (D.ab i).code
  | _ => 0
def Cx.vals (D : Cx) (i : Nat) : Nat → Value
  | 0 => .string D.name
  | 1 => .slice D.oa D.abs.length D.cap
  | 32 => .slice (D.ta i) (D.ab i).tg.length (D.tc i)
  | 33 => .slice (D.ca i) (D.ab i).code.length (D.cc i)
  | _ => .slice none 0 0
def Cx.rho (D : Cx) (n : Int) (i : Nat) : Rho :=
  ⟨D.v n i, D.vals i, fun k => if k = 30 then D.B else if k = 31 then D.tB i else 0, fun k => if k = 30 then D.O + i * 13 else if k = 31 then D.tO i else 0,
    fun k => by
      unfold Cx.vals
      split <;> rfl, fun _ => [], fun _ _ h => by cases h⟩
/-- What an ability's cells hold. -/
def Cx.cells (D : Cx) (i : Nat) : List Value := [.int .i64 (D.ab i).kind, .int .i64 (D.ab i).event, .int .i64 (D.ab i).who, .int .i64 (D.ab i).c0, .int .i64 (D.ab i).c1, .int .i64 (D.ab i).c2, .int .i64 (D.ab i).c3, .bool (D.ab i).tap,
  .slice (D.ta i) (D.ab i).tg.length (D.tc i), .slice (D.ca i) (D.ab i).code.length (D.cc i), .int .i64 (D.ab i).op, .int .i64 (D.ab i).a, .int .i64 (D.ab i).b]
structure Cx.OK (D : Cx) (w : World) : Prop where
  cells : ∀ i, i < D.abs.length → D.oa = some ⟨D.B, D.O, none⟩ ∧ D.B < w.heap.size ∧ ∀ j v, (D.cells i)[j]? = some v → w.cell? ⟨D.B, D.O + i * 13 + j, none⟩ = some v
  tgs : ∀ i j, i < D.abs.length → j < (D.ab i).tg.length → D.ta i = some ⟨D.tB i, D.tO i, none⟩ ∧ D.tB i < w.heap.size ∧ w.cell? ⟨D.tB i, D.tO i + j, none⟩ = some (.int .i64 ((D.ab i).tg.getD j 0))
  codes : ∀ i, i < D.abs.length → Lst w (D.ca i) (D.cB i) (D.cO i) (D.ab i).code
  ints : ∀ z ∈ [D.kind, D.c0, D.c1, D.c2, D.c3, D.color, D.power, D.tough, D.keys], I64 z
  nm : (D.name.size : Int) ≤ 9223372036854775807
  len : (D.abs.length : Int) ≤ 9223372036854775807
  abf : ∀ x ∈ D.abs, x.Fits
/-- The card as a value. -/
def Cx.val (D : Cx) : Value := .agg ⟨[.string D.name, .int .i64 D.kind, .int .i64 D.c0, .int .i64 D.c1, .int .i64 D.c2, .int .i64 D.c3, .int .i64 D.color, .int .i64 D.power, .int .i64 D.tough, .int .i64 D.keys, .slice D.oa D.abs.length D.cap]⟩
theorem zero_fits : Ab.zero.Fits := ⟨by intro z hz; simp [Ab.zero] at hz; subst hz; exact i64_0, (fun z hz => by cases hz), by decide, by decide⟩
theorem Lst.later {w w' : World} {oa : Option Addr} {B O : Nat} {xs : List Ins} (h : Lst w oa B O xs) (hs : w.heap.size ≤ w'.heap.size) (ho : ∀ k, k < w.heap.size → w'.heap[k]? = w.heap[k]?) : Lst w' oa B O xs := by
  refine ⟨fun i x hi => ?_, h.fits⟩
  obtain ⟨g1, g2, g3, g4, g5⟩ := h.cells i x hi
  have e : ∀ o, w'.cell? ⟨B, o, none⟩ = w.cell? ⟨B, o, none⟩ := fun o => by simp only [World.cell?, ho B g2]
  exact ⟨g1, Nat.lt_of_lt_of_le g2 hs, by rw [e]; exact g3, by rw [e]; exact g4, by rw [e]; exact g5⟩
section
variable {D : Cx} {w : World} {n : Int} {i : Nat}
theorem Cx.OK.later {w' : World} (h : D.OK w) (hs : w.heap.size ≤ w'.heap.size) (ho : ∀ k, k < w.heap.size → w'.heap[k]? = w.heap[k]?) : D.OK w' := by
  refine ⟨fun i hi => ?_, fun i j hi hj => ?_, fun i hi => (h.codes i hi).later hs ho, h.ints, h.nm, h.len, h.abf⟩
  · obtain ⟨g1, g2, g3⟩ := h.cells i hi
    have e : ∀ o, w'.cell? ⟨D.B, o, none⟩ = w.cell? ⟨D.B, o, none⟩ := fun o => by simp only [World.cell?, ho D.B g2]
    exact ⟨g1, Nat.lt_of_lt_of_le g2 hs, fun j v hv => by rw [e]; exact g3 j v hv⟩
  · obtain ⟨g1, g2, g3⟩ := h.tgs i j hi hj
    have e : ∀ o, w'.cell? ⟨D.tB i, o, none⟩ = w.cell? ⟨D.tB i, o, none⟩ := fun o => by simp only [World.cell?, ho _ g2]
    exact ⟨g1, Nat.lt_of_lt_of_le g2 hs, by rw [e]; exact g3⟩
theorem Cx.OK.fit (h : D.OK w) (i : Nat) : (D.ab i).Fits := by
  unfold Cx.ab
  by_cases hi : i < D.abs.length
  · exact h.abf _ (List.mem_of_getElem? (at_of hi))
  · have e : D.abs.getD i Ab.zero = Ab.zero := by simp [List.getD_eq_getElem?_getD, List.getElem?_eq_none (by omega : D.abs.length ≤ i)]
    rw [e]
    exact zero_fits
theorem Cx.OK.code (h : D.OK w) (i : Nat) : Lst w (D.ca i) (D.cB i) (D.cO i) (D.ab i).code := by
  by_cases hi : i < D.abs.length
  · exact h.codes i hi
  · have e : (D.ab i).code = [] := by
      unfold Cx.ab
      simp [List.getD_eq_getElem?_getD, List.getElem?_eq_none (by omega : D.abs.length ≤ i), Ab.zero]
    rw [e]
    exact ⟨fun i x hx => by simp at hx, fun x hx => by cases hx⟩
theorem getD_fits {l : List Int} (h : ∀ z ∈ l, I64 z) (j : Nat) : I64 (l.getD j 0) := by
  by_cases hj : j < l.length
  · exact h _ (List.mem_of_getElem? (at_of hj))
  · rw [show l.getD j 0 = 0 by simp [List.getD_eq_getElem?_getD, List.getElem?_eq_none (by omega : l.length ≤ j)]]
    exact i64_0
theorem v_fits (h : D.OK w) (hn : I64 n) (hi : i ≤ D.abs.length) : ∀ k, I64 (D.v n i k) := fun k => by
  have f := h.fit i
  have hl := h.len
  have h1 := h.ints
  have h2 := f.ints
  match k with
  | 0 => exact hn
  | 1 => exact h1 D.kind (by simp)
  | 2 => exact h1 D.c0 (by simp)
  | 3 => exact h1 D.c1 (by simp)
  | 4 => exact h1 D.c2 (by simp)
  | 5 => exact h1 D.c3 (by simp)
  | 6 => exact h1 D.color (by simp)
  | 7 => exact h1 D.power (by simp)
  | 8 => exact h1 D.tough (by simp)
  | 9 => exact h1 D.keys (by simp)
  | 10 => exact i64_n h.nm
  | 11 => exact i64_n (by omega)
  | 12 => exact i64_n (by omega)
  | 13 => exact ⟨by show _ ≤ (if i < D.abs.length then (i : Int) + 1 else 1); split <;> omega, by show (if i < D.abs.length then (i : Int) + 1 else 1) ≤ _; split <;> omega⟩
  | 14 => exact h2 (D.ab i).kind (by simp)
  | 15 => exact h2 (D.ab i).event (by simp)
  | 16 => exact h2 (D.ab i).who (by simp)
  | 17 => exact h2 (D.ab i).c0 (by simp)
  | 18 => exact h2 (D.ab i).c1 (by simp)
  | 19 => exact h2 (D.ab i).c2 (by simp)
  | 20 => exact h2 (D.ab i).c3 (by simp)
  | 21 => show I64 (if (D.ab i).tap = true then 1 else 0); split <;> exact ⟨by decide, by decide⟩
  | 22 => exact i64_n (by have := f.tl; omega)
  | 23 => exact i64_n (by have := f.cl; omega)
  | 24 => exact h2 (D.ab i).op (by simp)
  | 25 => exact h2 (D.ab i).a (by simp)
  | 26 => exact h2 (D.ab i).b (by simp)
  | 27 => exact getD_fits f.tg 0
  | 28 => exact getD_fits f.tg 1
  | 29 => have := @spec4_in ((D.ab i).tg.length : Int) n (D.ab i).code; exact ⟨by show _ ≤ spec4 _ _ _; omega, by show spec4 _ _ _ ≤ _; omega⟩
  | k + 30 => exact i64_0
theorem ivE_ok (h : D.OK w) (hn : I64 n) (hi : i ≤ D.abs.length) : IvOK vdiv0 (D.rho n i) := by
  have f := v_fits h hn hi
  have h10 := h.nm
  exact iv_all (f := D.v n i) ⟨f 0, f 1, f 2, f 3, f 4, f 5, f 6, f 7, f 8, f 9, ⟨by show (0 : Int) ≤ (D.name.size : Int); omega, (f 10).2⟩, ⟨by show (0 : Int) ≤ (D.abs.length : Int); omega, (f 11).2⟩, trivial⟩ f
theorem tap_in : (0 : Int) ≤ (if (D.ab i).tap = true then 1 else 0) ∧ (if (D.ab i).tap = true then (1 : Int) else 0) ≤ 1 := by split <;> decide
theorem ivW_ok (h : D.OK w) (hn : I64 n) (hi : i ≤ D.abs.length) : IvOK cliv1 (D.rho n i) := by
  have f := v_fits h hn hi
  have h29 := @spec4_in ((D.ab i).tg.length : Int) n (D.ab i).code
  exact iv_all (f := D.v n i) ⟨f 0, f 1, f 2, f 3, f 4, f 5, f 6, f 7, f 8, f 9, ⟨by show (0 : Int) ≤ (D.name.size : Int); omega, (f 10).2⟩, ⟨by show (0 : Int) ≤ (D.abs.length : Int); omega, (f 11).2⟩, ⟨by show (0 : Int) ≤ (i : Int); omega, (f 12).2⟩, f 13, f 14, f 15, f 16, f 17, f 18, f 19, f 20, tap_in,
    ⟨by show (0 : Int) ≤ ((D.ab i).tg.length : Int); omega, (f 22).2⟩, ⟨by show (0 : Int) ≤ ((D.ab i).code.length : Int); omega, (f 23).2⟩, f 24, f 25, f 26, f 27, f 28, h29, trivial⟩ f
theorem ivN_ok (h : D.OK w) (hn : I64 n) (hi : i ≤ D.abs.length) (ht : (D.ab i).tg.length ≤ 2) (hc : (D.ab i).code.length ≤ 32) : IvOK vdiv1 (D.rho n i) := by
  have f := v_fits h hn hi
  have h29 := @spec4_in ((D.ab i).tg.length : Int) n (D.ab i).code
  exact iv_all (f := D.v n i) ⟨f 0, f 1, f 2, f 3, f 4, f 5, f 6, f 7, f 8, f 9, ⟨by show (0 : Int) ≤ (D.name.size : Int); omega, (f 10).2⟩, ⟨by show (0 : Int) ≤ (D.abs.length : Int); omega, (f 11).2⟩, ⟨by show (0 : Int) ≤ (i : Int); omega, (f 12).2⟩, f 13, f 14, f 15, f 16, f 17, f 18, f 19, f 20, tap_in,
    ⟨by show (0 : Int) ≤ ((D.ab i).tg.length : Int); omega, by show ((D.ab i).tg.length : Int) ≤ 2; omega⟩, ⟨by show (0 : Int) ≤ ((D.ab i).code.length : Int); omega, by show ((D.ab i).code.length : Int) ≤ 32; omega⟩, f 24, f 25, f 26, f 27, f 28, h29, trivial⟩ f
theorem baseF_ok : FsOK baseF (D.rho n i) := fs_cons ⟨.string D.name, D.name.size, rfl, ⟨_, rfl, rfl⟩, rfl⟩ (fs_cons (fact_len rfl rfl) fs_nil)
theorem eent_ok {x : List Fact} (hx : FsOK x (D.rho n i)) {iv : Ivs} {fs : List Fact} (h1 : IvOK iv (D.rho n i)) (h2 : FsOK fs (D.rho n i)) (φ : Phi) (hφ : φ.ρ = D.rho n i) : EnvP (Eent x iv fs) φ w :=
  ⟨by rw [hφ]; exact h1, by rw [hφ]; exact fs_app h2 (fs_app hx baseF_ok), fun k cs h => by cases h⟩
theorem isAt_le {iv : Ivs} {k : Nat} {z : Int} {ρ : Rho} (h : isAt iv k z = true) (h1 : IvOK iv ρ) : z ≤ ρ.int k := by
  have := of_decide_eq_true h
  have := (h1 k).1
  omega
theorem tgF_ok (h : D.OK w) (hi : i < D.abs.length) {iv : Ivs} (h1 : IvOK iv (D.rho n i)) : FsOK (tgF iv) (D.rho n i) := by
  have at_ : ∀ j : Nat, (j : Int) + 1 ≤ ((D.ab i).tg.length : Int) → FactOK (D.rho n i) (.at 1 (.sym 32) (.int .i64 (j : Int)) ⟨.sym 31, j⟩) := fun j hj => by
    obtain ⟨g1, g2, g3⟩ := h.tgs i j hi (by omega)
    refine ⟨⟨D.tB i, D.tO i, none⟩, (D.ab i).tg.length, D.tc i, .i64, j, 31, ?_, rfl, rfl, by omega, by omega, rfl, rfl, ?_⟩
    · show some (Value.slice (D.ta i) _ _) = _
      rw [g1]
    · show D.tO i + j = D.tO i + (j : Int).toNat * 1
      simp
  unfold tgF
  refine fs_app ?_ ?_
  · split
    · rename_i hh
      have := isAt_le hh h1
      exact fs_cons (at_ 0 (by show (0 : Int) + 1 ≤ _; exact this)) fs_nil
    · exact fs_nil
  · split
    · rename_i hh
      have := isAt_le hh h1
      exact fs_cons (at_ 1 (by show (1 : Int) + 1 ≤ _; exact this)) fs_nil
    · exact fs_nil
theorem tapV_ok {iv : Ivs} {φ : Phi} (hφ : φ.ρ = D.rho n i) (h1 : IvOK iv (D.rho n i)) : VR φ (tapV iv) (.bool (D.ab i).tap) := by
  have e : (D.rho n i).int 21 = if (D.ab i).tap = true then 1 else 0 := rfl
  have h21 := h1 21
  rw [e] at h21
  unfold tapV
  cases e1 : isAt iv 21 1 with
  | true =>
    have := isAt_le e1 h1
    rw [e] at this
    cases ht : (D.ab i).tap with
    | true => simp only [VR]
    | false => rw [ht] at this; simp at this
  | false => cases e2 : decide ((ivAt iv 21).2 ≤ 0) with
    | true =>
      have := of_decide_eq_true e2
      cases ht : (D.ab i).tap with
      | true => rw [ht] at h21; simp at h21; omega
      | false => simp only [VR]
    | false =>
      simp only [VR]
      rfl
theorem eloop_ok (h : D.OK w) {x : List Fact} (hx : FsOK x (D.rho n i)) {iv : Ivs} {fs : List Fact} (h1 : IvOK iv (D.rho n i)) (h2 : FsOK fs (D.rho n i)) (φ : Phi) (hφ : φ.ρ = D.rho n i) : EnvP (Eloop x iv fs) φ w := by
  unfold Eloop
  split
  · rename_i hh
    have hi : (i : Int) < (D.abs.length : Int) := hasLss_lt w hh h2
    have hl := h.len
    obtain ⟨g1, g2, g3⟩ := h.cells i (by omega)
    refine ⟨by rw [hφ]; exact h1, by
      rw [hφ]
      refine fs_app h2 (fs_app hx (fs_app baseF_ok (fs_app (fs_cons ?_ (fs_cons ?_ (fs_cons (fact_len rfl rfl) (fs_cons (fact_len rfl rfl) fs_nil)))) (tgF_ok h (by omega) h1))))
      · refine fact_at (n := i) (B := D.B) (O := D.O) (l := D.abs.length) (c := D.cap) ?_ rfl (by omega) rfl rfl
        show some (Value.slice D.oa D.abs.length D.cap) = _
        rw [g1]
      · have e13 : D.v n i 13 = (i : Int) + 1 := by show (if i < D.abs.length then (i : Int) + 1 else 1) = _; rw [if_pos (by omega)]
        exact fact_add e13 (show -9223372036854775808 ≤ D.v n i 13 by rw [e13]; omega) (show D.v n i 13 ≤ 9223372036854775807 by rw [e13]; omega), fun k cs hk => ?_⟩
    simp only at hk
    split at hk
    · rename_i hb
      have e := Nat.eq_of_beq_eq_true hb
      subst e
      obtain rfl := (Option.some.inj hk).symm
      have eb : φ.ρ.blk 30 = D.B := by rw [hφ]; rfl
      have eo : φ.ρ.off 30 = D.O + i * 13 := by rw [hφ]; rfl
      rw [eb, eo]
      refine ⟨g2, fun j x hx => ?_⟩
      have v14 : VR φ (sv iv .i64 14) (.int .i64 (D.ab i).kind) := by have := VR_sv (φ := φ) (iv := iv) (by rw [hφ]; exact h1) .i64 14; rw [hφ] at this; exact this
      have c := g3 j
      match j with
      | 0 => cases hx; exact ⟨_, c _ rfl, v14⟩
      | 1 => cases hx; exact ⟨_, c _ rfl, by simp only [si, VR, hφ]; rfl⟩
      | 2 => cases hx; exact ⟨_, c _ rfl, by simp only [si, VR, hφ]; rfl⟩
      | 3 => cases hx; exact ⟨_, c _ rfl, by simp only [si, VR, hφ]; rfl⟩
      | 4 => cases hx; exact ⟨_, c _ rfl, by simp only [si, VR, hφ]; rfl⟩
      | 5 => cases hx; exact ⟨_, c _ rfl, by simp only [si, VR, hφ]; rfl⟩
      | 6 => cases hx; exact ⟨_, c _ rfl, by simp only [si, VR, hφ]; rfl⟩
      | 7 => cases hx; exact ⟨_, c _ rfl, tapV_ok hφ h1⟩
      | 8 => cases hx; exact ⟨_, c _ rfl, by simp only [VR, hφ]; rfl⟩
      | 9 => cases hx; exact ⟨_, c _ rfl, by simp only [VR, hφ]; rfl⟩
      | 10 => cases hx; exact ⟨_, c _ rfl, by simp only [si, VR, hφ]; rfl⟩
      | 11 => cases hx; exact ⟨_, c _ rfl, by simp only [si, VR, hφ]; rfl⟩
      | 12 => cases hx; exact ⟨_, c _ rfl, by simp only [si, VR, hφ]; rfl⟩
      | j + 13 => simp [cellsA] at hx
    · split at hk
      · rename_i hb h22
        have e := Nat.eq_of_beq_eq_true hb
        subst e
        obtain rfl := (Option.some.inj hk).symm
        have eb : φ.ρ.blk 31 = D.tB i := by rw [hφ]; rfl
        have eo : φ.ρ.off 31 = D.tO i := by rw [hφ]; rfl
        rw [eb, eo]
        have l1 : (1 : Int) ≤ ((D.ab i).tg.length : Int) := isAt_le h22 h1
        obtain ⟨t1, t2, t3⟩ := h.tgs i 0 (by omega) (by omega)
        refine ⟨t2, fun j x hx => ?_⟩
        match j with
        | 0 =>
          have : x = si 27 := by
            split at hx <;> cases hx <;> rfl
          subst this
          exact ⟨_, t3, by simp only [si, VR, hφ]; rfl⟩
        | 1 =>
          split at hx
          · rename_i h2
            cases hx
            have l2 : (2 : Int) ≤ ((D.ab i).tg.length : Int) := isAt_le h2 h1
            obtain ⟨_, _, u3⟩ := h.tgs i 1 (by omega) (by omega)
            exact ⟨_, u3, by simp only [si, VR, hφ]; rfl⟩
          · simp at hx
        | j + 2 => split at hx <;> simp at hx
      · cases hk
  · exact eent_ok hx h1 h2 φ hφ
end
end
end Go.Proofs.Ytgbpkilegbechaa.greater
namespace Go.Proofs.Ytgbpkilegbechaa.greater
open Go.Ev Go.RowKit
set_option linter.unusedVariables false
noncomputable section
section
variable {D : Cx} {w : World} {n : Int} {i : Nat}
theorem dagree (i j : Nat) : agree 12 (D.rho n i) (D.rho n j) := fun k hk => by
  match k, hk with
  | 0, _ => exact ⟨rfl, rfl, rfl, rfl, rfl⟩
  | 1, _ => exact ⟨rfl, rfl, rfl, rfl, rfl⟩
  | 2, _ => exact ⟨rfl, rfl, rfl, rfl, rfl⟩
  | 3, _ => exact ⟨rfl, rfl, rfl, rfl, rfl⟩
  | 4, _ => exact ⟨rfl, rfl, rfl, rfl, rfl⟩
  | 5, _ => exact ⟨rfl, rfl, rfl, rfl, rfl⟩
  | 6, _ => exact ⟨rfl, rfl, rfl, rfl, rfl⟩
  | 7, _ => exact ⟨rfl, rfl, rfl, rfl, rfl⟩
  | 8, _ => exact ⟨rfl, rfl, rfl, rfl, rfl⟩
  | 9, _ => exact ⟨rfl, rfl, rfl, rfl, rfl⟩
  | 10, _ => exact ⟨rfl, rfl, rfl, rfl, rfl⟩
  | 11, _ => exact ⟨rfl, rfl, rfl, rfl, rfl⟩
theorem dargs1 {φ : Phi} (hφ : φ.ρ = D.rho n i) : VRs φ [cardV] [D.val] := by
  simp only [VRs, VR, cardV, si, Cx.val, hφ]
  exact ⟨_, _, rfl, ⟨_, ⟨_, _, rfl, rfl, _, _, rfl, rfl, _, _, rfl, rfl, _, _, rfl, rfl, _, _, rfl, rfl, _, _, rfl, rfl, _, _, rfl, rfl, _, _, rfl, rfl, _, _, rfl, rfl, _, _, rfl, rfl, _, _, rfl, rfl, rfl⟩, rfl⟩, rfl⟩
theorem dargs1_inv {φ : Phi} (hφ : φ.ρ = D.rho n i) {vs : List Value} (h : VRs φ [cardV] vs) : vs = [D.val] := by
  simp only [VRs, VR, cardV, si, hφ] at h
  obtain ⟨_, _, rfl, ⟨_, ⟨_, _, rfl, rfl, _, _, rfl, rfl, _, _, rfl, rfl, _, _, rfl, rfl, _, _, rfl, rfl, _, _, rfl, rfl, _, _, rfl, rfl, _, _, rfl, rfl, _, _, rfl, rfl, _, _, rfl, rfl, _, _, rfl, rfl, rfl⟩, rfl⟩, rfl⟩ := h
  rfl
/-! ### is something long? -/
def Cx.fine (D : Cx) (i : Nat) : Bool := decide ((D.ab i).tg.length ≤ 2) && decide ((D.ab i).code.length ≤ 32)
def Cx.isLong (D : Cx) : Bool := !(allF D.fine D.abs.length 0 && (decide (D.name.size ≤ 16) && decide (D.abs.length ≤ 4)))
theorem clShape : shapeC 2 12 11 13 0 clC = true := by kernel_rfl
theorem fine_iff : D.fine i = true ↔ ((D.ab i).tg.length : Int) ≤ 2 ∧ ((D.ab i).code.length : Int) ≤ 32 := by
  simp only [Cx.fine, Bool.and_eq_true, decide_eq_true_eq]
  omega
theorem long_step (t : TrX Leaf) (a b : Leaf) (ht : t = .cut 22 (2) (.cut 23 (32) (.leaf a) (.leaf b)) (.leaf b)) : valX t (D.v n i) = if D.fine i = true then a else b := by
  subst ht
  simp only [valX]
  have e22 : D.v n i 22 = ((D.ab i).tg.length : Int) := rfl
  have e23 : D.v n i 23 = ((D.ab i).code.length : Int) := rfl
  rw [e22, e23]
  by_cases h : D.fine i = true
  · obtain ⟨h1, h2⟩ := fine_iff.1 h
    rw [if_pos h, if_pos h1, if_pos h2]
  · rw [if_neg h]
    have := mt fine_iff.2 h
    by_cases h1 : ((D.ab i).tg.length : Int) ≤ 2
    · rw [if_pos h1, if_neg (fun h2 => this ⟨h1, h2⟩)]
    · rw [if_neg h1]
theorem rel_in {L R : TrX Leaf} {k : IntKind} (hi : i < D.abs.length) : valX (.rel k 12 11 L R) (D.v n i) = valX L (D.v n i) := by
  simp only [valX]
  rw [if_pos (show D.v n i 12 < D.v n i 11 by show (i : Int) < (D.abs.length : Int); omega)]
theorem rel_out {L R : TrX Leaf} {k : IntKind} : valX (.rel k 12 11 L R) (D.v n D.abs.length) = valX R (D.v n D.abs.length) := by
  simp only [valX]
  rw [if_neg (show ¬ D.v n D.abs.length 12 < D.v n D.abs.length 11 by show ¬ (D.abs.length : Int) < (D.abs.length : Int); omega)]
theorem small_iff : (decide (D.name.size ≤ 16) && decide (D.abs.length ≤ 4)) = true ↔ (D.name.size : Int) ≤ 16 ∧ (D.abs.length : Int) ≤ 4 := by
  simp only [Bool.and_eq_true, decide_eq_true_eq]
  omega
theorem long_end (t : TrX Leaf) (a b : Leaf) (ht : t = .cut 10 (16) (.cut 11 (4) (.leaf a) (.leaf b)) (.leaf b)) : valX t (D.v n i) = if (decide (D.name.size ≤ 16) && decide (D.abs.length ≤ 4)) = true then a else b := by
  subst ht
  simp only [valX]
  have e10 : D.v n i 10 = (D.name.size : Int) := rfl
  have e11 : D.v n i 11 = (D.abs.length : Int) := rfl
  rw [e10, e11]
  by_cases h : (decide (D.name.size ≤ 16) && decide (D.abs.length ≤ 4)) = true
  · obtain ⟨h1, h2⟩ := small_iff.1 h
    rw [if_pos h, if_pos h1, if_pos h2]
  · rw [if_neg h]
    have := mt small_iff.2 h
    by_cases h1 : (D.name.size : Int) ≤ 16
    · rw [if_pos h1, if_neg (fun h2 => this ⟨h1, h2⟩)]
    · rw [if_neg h1]
theorem longC (h : D.OK w) : Calls Try.prog 14 #[D.val] w fun e w' => e = .returned (.bool D.isLong) ∧ Below w.heap.size w w' := by
  have hr : Rd clC (D.v 0) (fun _ _ => True) 0 0 (.bool D.isLong) := by
    refine .zero (c := clc0) (q := 1) (k := .i64) (z := 0) rfl trivial rfl ?_
    have s := rd_search (C := clC) (v := D.v 0) (I := fun _ _ => True) (p := 1) (n := D.abs.length) (j := 13) (k := .i64) (c := clc1) (g := D.fine) (rB := .bool true) (rG := .bool !(decide (D.name.size ≤ 16) && decide (D.abs.length ≤ 4))) rfl (fun _ _ => trivial)
      (fun i hi => (rel_in hi).trans (long_step _ _ _ rfl)) (.ret (c := clc1) rfl trivial ((rel_out).trans ((long_end _ _ _ rfl).trans (by split <;> rename_i hs <;> simp only [hs] <;> rfl)))) D.abs.length 0 (by omega)
    unfold Cx.isLong
    cases ha : allF D.fine D.abs.length 0 with
    | true => rw [ha] at s; simpa using s
    | false => rw [ha] at s; simpa using s
  refine ix_calls (KT := clKT) clauto Try.func14 (by kernel_rfl) (args := [cardV]) (by kernel_rfl) (c0 := clc0) rfl rfl (by kernel_rfl) rfl rfl (I := fun _ _ => True) (n := D.abs.length) (rho := D.rho 0) clShape rfl (fun i => rfl) (fun i => rfl) (fun i hi => if_pos hi)
    (fun p c hp h0 i j => ?_) (fun i hi e he => by cases he) (fun p c hp i hi _ => ?_) (fun ρ => rfl) hr (dargs1 rfl)
  · match p, hp, h0 with
    | 1, hp, _ => cases hp; exact dagree i j
  · match p, hp with
    | 0, hp => cases hp; exact ⟨ivE_ok h i64_0 hi, fun iv fs => eent_ok fs_nil⟩
    | 1, hp => cases hp; exact ⟨ivW_ok h i64_0 hi, fun iv fs => eloop_ok h fs_nil⟩
/-! ### all but the abilities -/
def leafB : Leaf → Bool
  | .ret r => match r with
    | .bool b => b
    | _ => false
  | _ => false
def isB : Leaf → Bool
  | .ret r => match r with
    | .bool _ => true
    | _ => false
  | _ => false
theorem isB_ok {o : Leaf} (h : isB o = true) : o = .ret (.bool (leafB o)) := by
  cases o with
  | goto _ _ => simp [isB] at h
  | ret r => cases r <;> simp [isB] at h; rfl
def Cx.body (D : Cx) : Bool := leafB (valX cbt0 (D.v 0 0))
theorem cbLeaf : allL isB cbt0 = true := by kernel_rfl
theorem cbShape : shapeC 1 12 11 13 0 cbC = true := by kernel_rfl
theorem bodyC (h : D.OK w) : Calls Try.prog 15 #[D.val] w fun e w' => e = .returned (.bool D.body) ∧ Below w.heap.size w w' := by
  have hr : Rd cbC (D.v 0) (fun _ _ => True) 0 0 (.bool D.body) := .ret (c := cbc0) rfl trivial (isB_ok (allL_ok cbLeaf))
  refine ix_calls (KT := cbKT) cbauto Try.func15 (by kernel_rfl) (args := [cardV]) (by kernel_rfl) (c0 := cbc0) rfl rfl (by kernel_rfl) rfl rfl (I := fun _ _ => True) (n := D.abs.length) (rho := D.rho 0) cbShape rfl (fun i => rfl) (fun i => rfl) (fun i hi => if_pos hi)
    (fun p c hp h0 i j => ?_) (fun i hi e he => by cases he) (fun p c hp i hi _ => ?_) (fun ρ => rfl) hr (dargs1 rfl)
  · match p, hp, h0 with
    | p + 1, hp, _ => cases hp
  · match p, hp with
    | 0, hp => cases hp; exact ⟨ivE_ok h i64_0 hi, fun iv fs => eent_ok fs_nil⟩
end
end
end Go.Proofs.Ytgbpkilegbechaa.greater
namespace Go.Proofs.Ytgbpkilegbechaa.greater
open Go.Ev Go.RowKit
set_option linter.unusedVariables false
noncomputable section
section
variable {D : Cx} {w : World} {n : Int} {i : Nat}
def Cx.good (D : Cx) (n : Int) (i : Nat) : Bool := isGo (valX (match decide (D.kind = 3) with | true => vdt2L | false => vdt1L) (D.v n i))
/-- Which cards may be: an error's number. -/
def Cx.spec (D : Cx) (n : Int) : Int := if n < 0 ∨ 40 < n then 2 else if D.isLong = true then 3 else if D.name.size = 0 ∨ D.body = false then 10 else if allF (D.good n) D.abs.length 0 = true ∧ (D.kind = 3 → D.abs.length = 1) then 0 else 10
theorem spec_in : 0 ≤ D.spec n ∧ D.spec n ≤ 1000 := by
  unfold Cx.spec
  repeat' split
  all_goals omega
theorem not_long (h : D.isLong = false) : (D.name.size ≤ 16 ∧ D.abs.length ≤ 4) ∧ ∀ i, (D.ab i).tg.length ≤ 2 ∧ (D.ab i).code.length ≤ 32 := by
  unfold Cx.isLong at h
  simp only [Bool.not_eq_false', Bool.and_eq_true, decide_eq_true_eq] at h
  obtain ⟨h1, h2⟩ := h
  refine ⟨h2, fun i => ?_⟩
  by_cases hi : i < D.abs.length
  · have := allF_iff.1 h1 i (Nat.zero_le _) (by omega)
    simpa [Cx.fine] using this
  · have e : D.ab i = Ab.zero := by
      unfold Cx.ab
      simp [List.getD_eq_getElem?_getD, List.getElem?_eq_none (by omega : D.abs.length ≤ i)]
    rw [e]
    simp [Ab.zero]
/-! ### facts and known calls -/
theorem str_eq (nm : ByteArray) {b : Bool} (hb : decide (nm.size = 0) = b) (P : Program) (t : TypeId) (w : World) : (binOp .eql t (.string nm) (.string .empty)).run P w = .ok (.bool b) w ∧ (binOp .neq t (.string nm) (.string .empty)).run P w = .ok (.bool (!b)) w := by
  obtain ⟨⟨l⟩⟩ := nm
  cases l with
  | nil =>
    subst hb
    have e : (⟨⟨[]⟩⟩ : ByteArray) = .empty := rfl
    rw [e]
    exact ⟨by simp [binOp, Op.stringOp], by simp [binOp, Op.stringOp]⟩
  | cons x l =>
    have : b = false := by rw [← hb]; simp [ByteArray.size]
    subst this
    have e : (⟨⟨x :: l⟩⟩ : ByteArray) ≠ .empty := fun h => by
      have := congrArg ByteArray.size h
      simp [ByteArray.size] at this
    exact ⟨by simp [binOp, Op.stringOp], by simp [binOp, Op.stringOp]⟩
theorem nameF_ok {b : Bool} (hb : decide (D.name.size = 0) = b) : FsOK (nameF b) (D.rho n i) :=
  fs_cons ⟨.string D.name, .string .empty, .bool b, rfl, rfl, rfl, by simp, by simp, fun P t w => (str_eq D.name hb P t w).1⟩
    (fs_cons ⟨.string D.name, .string .empty, .bool (!b), rfl, rfl, rfl, by simp, by simp, fun P t w => (str_eq D.name hb P t w).2⟩ fs_nil)
theorem ke14 (h : D.OK w) {b : Bool} (hb : D.isLong = b) : KEok Try.prog (D.rho n i) w ⟨14, [cardV], [], .bool b⟩ := fun φ vs w' hφ hs ho hv _ => by
  rw [dargs1_inv hφ hv]
  refine (longC (h.later hs fun k hk => ho k hk (fun x => x))).mono ?_
  rintro e w'' ⟨rfl, hbl⟩
  exact ⟨_, rfl, by simp only [VR, hb], hbl⟩
theorem ke15 (h : D.OK w) {b : Bool} (hb : D.body = b) : KEok Try.prog (D.rho n i) w ⟨15, [cardV], [], .bool b⟩ := fun φ vs w' hφ hs ho hv _ => by
  rw [dargs1_inv hφ hv]
  refine (bodyC (h.later hs fun k hk => ho k hk (fun x => x))).mono ?_
  rintro e w'' ⟨rfl, hbl⟩
  exact ⟨_, rfl, by simp only [VR, hb], hbl⟩
theorem cinv {φ : Phi} (hφ : φ.ρ = D.rho n i) {vs : List Value} (h : VRs φ [.sym 33, si 22, si 0] vs) : vs = [.slice (D.ca i) (D.ab i).code.length (D.cc i), .int .i64 ((D.ab i).tg.length : Int), .int .i64 n] := by
  simp only [VRs, VR, si, hφ] at h
  obtain ⟨_, _, rfl, rfl, _, _, rfl, rfl, _, _, rfl, rfl, rfl⟩ := h
  rfl
theorem ke38 (h : D.OK w) (hn : I64 n) : KEok Try.prog (D.rho n i) w ⟨38, [.sym 33, si 22, si 0], [], si 29⟩ := fun φ vs w' hφ hs ho hv _ => by
  rw [cinv hφ hv]
  have f := h.fit i
  refine (codeC ((h.later hs fun k hk => ho k hk (fun x => x)).code i) (i64_n (by have := f.tl; omega)) hn f.cl).mono ?_
  rintro e w'' ⟨rfl, hbl⟩
  exact ⟨_, rfl, by simp only [VR, si, hφ]; rfl, hbl⟩
theorem dargs2 : VRs ⟨fun _ => none, D.rho n 0⟩ [cardV, si 0] [D.val, .int .i64 n] := by
  have h := dargs1 (D := D) (n := n) (i := 0) (φ := ⟨fun _ => none, D.rho n 0⟩) rfl
  simp only [VRs] at h ⊢
  obtain ⟨y, ys, e, h1, h2⟩ := h
  simp only [List.cons.injEq] at e
  obtain ⟨rfl, rfl⟩ := e
  exact ⟨_, _, rfl, h1, _, _, rfl, by simp only [si, VR]; rfl, rfl⟩
/-! ### the program's check -/
theorem vaShape : shapeC 1 12 11 13 0 vaC = true := by kernel_rfl
theorem vbShape : shapeC 1 12 11 13 0 vbC = true := by kernel_rfl
theorem vcShape : shapeC 1 12 11 13 0 vcC = true := by kernel_rfl
theorem vdShape : shapeC 3 12 11 13 0 vdC = true := by kernel_rfl
theorem vd1leaf : allL (goOr 1 13 10) vdt1L = true := by kernel_rfl
theorem vd2leaf : allL (goOr 2 13 10) vdt2L = true := by kernel_rfl
theorem e0 : D.v n i 0 = n := rfl
theorem e1 : D.v n i 1 = D.kind := rfl
theorem e11 : D.v n i 11 = (D.abs.length : Int) := rfl
theorem out3 (t : TrX Leaf) (z : Int) (ht : t = .cut 0 (-1) (.leaf (.ret (.int .i64 2))) (.cut 0 (40) (.leaf (.ret (.int .i64 z))) (.leaf (.ret (.int .i64 2))))) : valX t (D.v n i) = .ret (.int .i64 (if n < 0 ∨ 40 < n then 2 else z)) := by
  subst ht
  simp only [valX]
  rw [e0]
  by_cases h1 : n ≤ -1
  · rw [if_pos h1, if_pos (by omega)]
  · rw [if_neg h1]
    by_cases h2 : n ≤ 40
    · rw [if_pos h2, if_neg (by omega)]
    · rw [if_neg h2, if_pos (by omega)]
theorem checkC (h : D.OK w) (hn : I64 n) : Calls Try.prog 8 #[D.val, .int .i64 n] w fun e w' => e = .returned (.int .i64 (D.spec n)) ∧ Below w.heap.size w w' := by
  cases hl : D.isLong with
  | true =>
    have e : D.spec n = if n < 0 ∨ 40 < n then 2 else 3 := by unfold Cx.spec; rw [if_pos hl]
    rw [e]
    refine ix_calls (KT := vaKT) vaauto Try.func8 (by kernel_rfl) (args := [cardV, si 0]) (by kernel_rfl) (c0 := vac0) rfl rfl (by kernel_rfl) rfl rfl (I := fun _ _ => True) (n := D.abs.length) (rho := D.rho n) vaShape rfl (fun i => rfl) (fun i => rfl) (fun i hi => if_pos hi)
      (fun p c hp h0 i j => ?_) (fun i hi e he => ?_) (fun p c hp i hi _ => ?_) (fun ρ => rfl) (.ret (c := vac0) rfl trivial (out3 _ 3 rfl)) dargs2
    · match p, hp, h0 with
      | p + 1, hp, _ => cases hp
    · simp only [vaKT, List.mem_singleton] at he
      subst he
      exact ke14 h hl
    · match p, hp with
      | 0, hp => cases hp; exact ⟨ivE_ok h hn hi, fun iv fs => eent_ok fs_nil⟩
  | false =>
    obtain ⟨hs, hf⟩ := not_long hl
    cases hm : decide (D.name.size = 0) with
    | true =>
      have e : D.spec n = if n < 0 ∨ 40 < n then 2 else 10 := by unfold Cx.spec; rw [if_neg (c := D.isLong = true) (by rw [hl]; simp), if_pos (c := D.name.size = 0 ∨ D.body = false) (.inl (of_decide_eq_true hm))]
      rw [e]
      refine ix_calls (KT := vbKT) vbauto Try.func8 (by kernel_rfl) (args := [cardV, si 0]) (by kernel_rfl) (c0 := vbc0) rfl rfl (by kernel_rfl) rfl rfl (I := fun _ _ => True) (n := D.abs.length) (rho := D.rho n) vbShape rfl (fun i => rfl) (fun i => rfl) (fun i hi => if_pos hi)
        (fun p c hp h0 i j => ?_) (fun i hi e he => ?_) (fun p c hp i hi _ => ?_) (fun ρ => rfl) (.ret (c := vbc0) rfl trivial (out3 _ 10 rfl)) dargs2
      · match p, hp, h0 with
        | p + 1, hp, _ => cases hp
      · simp only [vbKT, List.mem_singleton] at he
        subst he
        exact ke14 h hl
      · match p, hp with
        | 0, hp => cases hp; exact ⟨ivE_ok h hn hi, fun iv fs => eent_ok (nameF_ok hm)⟩
    | false =>
      have hm' := of_decide_eq_false hm
      cases hb : D.body with
      | false =>
        have e : D.spec n = if n < 0 ∨ 40 < n then 2 else 10 := by unfold Cx.spec; rw [if_neg (c := D.isLong = true) (by rw [hl]; simp), if_pos (c := D.name.size = 0 ∨ D.body = false) (.inr hb)]
        rw [e]
        refine ix_calls (KT := vcKT) vcauto Try.func8 (by kernel_rfl) (args := [cardV, si 0]) (by kernel_rfl) (c0 := vcc0) rfl rfl (by kernel_rfl) rfl rfl (I := fun _ _ => True) (n := D.abs.length) (rho := D.rho n) vcShape rfl (fun i => rfl) (fun i => rfl) (fun i hi => if_pos hi)
          (fun p c hp h0 i j => ?_) (fun i hi e he => ?_) (fun p c hp i hi _ => ?_) (fun ρ => rfl) (.ret (c := vcc0) rfl trivial (out3 _ 10 rfl)) dargs2
        · match p, hp, h0 with
          | p + 1, hp, _ => cases hp
        · simp only [vcKT, List.mem_cons, List.not_mem_nil, or_false] at he
          rcases he with rfl | rfl
          · exact ke14 h hl
          · exact ke15 h hb
        · match p, hp with
          | 0, hp => cases hp; exact ⟨ivE_ok h hn hi, fun iv fs => eent_ok (nameF_ok hm)⟩
      | true =>
        have e : D.spec n = if n < 0 ∨ 40 < n then 2 else if allF (D.good n) D.abs.length 0 = true ∧ (D.kind = 3 → D.abs.length = 1) then 0 else 10 := by unfold Cx.spec; rw [if_neg (c := D.isLong = true) (by rw [hl]; simp), if_neg (c := D.name.size = 0 ∨ D.body = false) (by rw [hb]; rintro (h | h); exact hm' h; cases h)]
        rw [e]
        have hr : Rd vdC (D.v n) (fun _ _ => True) 0 0 (.int .i64 (if n < 0 ∨ 40 < n then 2 else if allF (D.good n) D.abs.length 0 = true ∧ (D.kind = 3 → D.abs.length = 1) then 0 else 10)) := by
          have ent : valX vdt0 (D.v n 0) = if n < 0 ∨ 40 < n then .ret (.int .i64 2) else if D.kind = 3 then .goto 2 [.int .i64 0] else .goto 1 [.int .i64 0] := by
            simp only [vdt0, vdt0L, vdt0R, valX]
            rw [e0, e1]
            by_cases h1 : n ≤ -1
            · rw [if_pos h1, if_pos (by omega)]
            · rw [if_neg h1]
              by_cases h2 : n ≤ 40
              · rw [if_pos h2, if_neg (c := n < 0 ∨ 40 < n) (by omega)]
                by_cases h3 : D.kind ≤ 2
                · rw [if_pos h3, if_neg (by omega)]
                · rw [if_neg h3]
                  by_cases h4 : D.kind ≤ 3
                  · rw [if_pos h4, if_pos (by omega)]
                  · rw [if_neg h4, if_neg (by omega)]
              · rw [if_neg h2, if_pos (by omega)]
          by_cases k1 : n < 0 ∨ 40 < n
          · rw [if_pos k1] at ent ⊢
            exact .ret (c := vdc0) rfl trivial ent
          · rw [if_neg k1] at ent ⊢
            by_cases k3 : D.kind = 3
            · rw [if_pos k3] at ent
              refine .zero (c := vdc0) rfl trivial ent ?_
              have s := rd_search (C := vdC) (v := D.v n) (I := fun _ _ => True) (p := 2) (n := D.abs.length) (j := 13) (k := .i64) (c := vdc2) (g := D.good n) (rB := .int .i64 10) (rG := .int .i64 (if D.abs.length = 1 then 0 else 10)) rfl (fun _ _ => trivial)
                (fun i hi => (rel_in hi).trans (by
                  have := goOr_ok (allL_ok vd2leaf (v := D.v n i))
                  unfold Cx.good
                  rw [decide_eq_true k3]
                  exact this)) (.ret (c := vdc2) rfl trivial ((rel_out).trans (by
                  simp only [vdt2R, valX]
                  rw [e11]
                  by_cases g1 : (D.abs.length : Int) ≤ 0
                  · rw [if_pos g1, if_neg (by omega)]
                  · rw [if_neg g1]
                    by_cases g2 : (D.abs.length : Int) ≤ 1
                    · rw [if_pos g2, if_pos (by omega)]
                    · rw [if_neg g2, if_neg (by omega)]))) D.abs.length 0 (by omega)
              cases ha : allF (D.good n) D.abs.length 0 with
              | true =>
                rw [ha] at s
                simp only [if_true] at s
                simp only [k3, true_and, forall_const]
                exact s
              | false => rw [ha] at s; simpa using s
            · rw [if_neg k3] at ent
              refine .zero (c := vdc0) rfl trivial ent ?_
              have s := rd_search (C := vdC) (v := D.v n) (I := fun _ _ => True) (p := 1) (n := D.abs.length) (j := 13) (k := .i64) (c := vdc1) (g := D.good n) (rB := .int .i64 10) (rG := .int .i64 0) rfl (fun _ _ => trivial)
                (fun i hi => (rel_in hi).trans (by
                  have := goOr_ok (allL_ok vd1leaf (v := D.v n i))
                  unfold Cx.good
                  rw [decide_eq_false k3]
                  exact this)) (.ret (c := vdc1) rfl trivial rel_out) D.abs.length 0 (by omega)
              cases ha : allF (D.good n) D.abs.length 0 with
              | true =>
                rw [ha] at s
                simp only [if_true] at s
                simp only [k3, false_implies, and_true, if_true]
                exact s
              | false => rw [ha] at s; simpa using s
        refine ix_calls (KT := vdKT) vdauto Try.func8 (by kernel_rfl) (args := [cardV, si 0]) (by kernel_rfl) (c0 := vdc0) rfl rfl (by kernel_rfl) rfl rfl (I := fun _ _ => True) (n := D.abs.length) (rho := D.rho n) vdShape rfl (fun i => rfl) (fun i => rfl) (fun i hi => if_pos hi)
          (fun p c hp h0 i j => ?_) (fun i hi e he => ?_) (fun p c hp i hi _ => ?_) (fun ρ => rfl) hr dargs2
        · match p, hp, h0 with
          | 1, hp, _ => cases hp; exact dagree i j
          | 2, hp, _ => cases hp; exact dagree i j
        · simp only [vdKT, List.mem_cons, List.not_mem_nil, or_false] at he
          rcases he with rfl | rfl | rfl
          · exact ke14 h hl
          · exact ke15 h hb
          · exact ke38 h hn
        · match p, hp with
          | 0, hp => cases hp; exact ⟨ivE_ok h hn hi, fun iv fs => eent_ok (nameF_ok hm)⟩
          | 1, hp => cases hp; exact ⟨ivN_ok h hn hi (hf i).1 (hf i).2, fun iv fs => eloop_ok h (nameF_ok hm)⟩
          | 2, hp => cases hp; exact ⟨ivN_ok h hn hi (hf i).1 (hf i).2, fun iv fs => eloop_ok h (nameF_ok hm)⟩
end
end
end Go.Proofs.Ytgbpkilegbechaa.greater
namespace Go.Proofs.Ytgbpkilegbechaa.greater
open Go.Ev Go.RowKit
set_option linter.unusedVariables false
noncomputable section
/-! ### trees: which symbols they ask; what may only help -/
def usesB (p : Nat → Bool) : TrX Leaf → Bool
  | .leaf _ => true
  | .cut i _ l r => match p i with
    | true => match usesB p l with
      | true => usesB p r
      | false => false
    | false => false
  | .rel _ i j l r => match p i, p j with
    | true, true => match usesB p l with
      | true => usesB p r
      | false => false
    | _, _ => false
theorem valX_congr {p : Nat → Bool} {v v' : Nat → Int} (h : ∀ i, p i = true → v i = v' i) : ∀ {t : TrX Leaf}, usesB p t = true → valX t v = valX t v'
  | .leaf _, _ => rfl
  | .cut i c l r, hu => by
    simp only [usesB] at hu
    split at hu
    · rename_i h1
      split at hu
      · rename_i h2
        simp only [valX]
        rw [h i h1, valX_congr h h2, valX_congr h hu]
      · cases hu
    · cases hu
  | .rel _ i j l r, hu => by
    simp only [usesB] at hu
    split at hu
    · rename_i h1 h2
      split at hu
      · rename_i h3
        simp only [valX]
        rw [h i h1, h j h2, valX_congr h h3, valX_congr h hu]
      · cases hu
    · cases hu
def noGo : TrX Leaf → Bool
  | .leaf o => match isGo o with
    | true => false
    | false => true
  | .cut _ _ l r => match noGo l with
    | true => noGo r
    | false => false
  | .rel _ _ _ l r => match noGo l with
    | true => noGo r
    | false => false
theorem noGo_ok {v : Nat → Int} : ∀ {t : TrX Leaf}, noGo t = true → isGo (valX t v) = false
  | .leaf o, h => by
    simp only [noGo] at h
    split at h
    · cases h
    · rename_i h1
      exact h1
  | .cut i c l r, h => by
    simp only [noGo] at h
    split at h
    · rename_i h1
      simp only [valX]
      split
      · exact noGo_ok h1
      · exact noGo_ok h
    · cases h
  | .rel _ i j l r, h => by
    simp only [noGo] at h
    split at h
    · rename_i h1
      simp only [valX]
      split
      · exact noGo_ok h1
      · exact noGo_ok h
    · cases h
/-- A symbol that is asked only so: is another one below it? If not: no. -/
def upB (q : Nat) : TrX Leaf → Bool
  | .leaf _ => true
  | .cut i _ l r => match Nat.beq i q with
    | true => false
    | false => match upB q l with
      | true => upB q r
      | false => false
  | .rel _ i j l r => match Nat.beq i q, Nat.beq j q with
    | true, _ => false
    | false, true => match noGo r with
      | true => upB q l
      | false => false
    | false, false => match upB q l with
      | true => upB q r
      | false => false
theorem upB_ok {q : Nat} {v v' : Nat → Int} (h : ∀ i, i ≠ q → v i = v' i) (hq : v q ≤ v' q) : ∀ {t : TrX Leaf}, upB q t = true → isGo (valX t v) = true → isGo (valX t v') = true
  | .leaf _, _, hg => hg
  | .cut i c l r, hu, hg => by
    simp only [upB] at hu
    split at hu
    · cases hu
    · rename_i h0
      have hi : i ≠ q := fun e => by rw [e] at h0; simp at h0
      split at hu
      · rename_i h2
        simp only [valX] at hg ⊢
        rw [← h i hi]
        split at hg
        · rename_i hc; rw [if_pos hc]; exact upB_ok h hq h2 hg
        · rename_i hc; rw [if_neg hc]; exact upB_ok h hq hu hg
      · cases hu
  | .rel k i j l r, hu, hg => by
    simp only [upB] at hu
    split at hu
    · cases hu
    · rename_i h0 h1
      have hi : i ≠ q := fun e => by rw [e] at h0; simp at h0
      have hj := Nat.eq_of_beq_eq_true h1
      subst hj
      split at hu
      · rename_i h2
        simp only [valX] at hg ⊢
        rw [← h i hi]
        split at hg
        · rename_i hc
          rw [if_pos (by omega)]
          exact upB_ok h hq hu hg
        · rw [noGo_ok h2] at hg
          cases hg
      · cases hu
    · rename_i h0 h1
      have hi : i ≠ q := fun e => by rw [e] at h0; simp at h0
      have hj : j ≠ q := fun e => by rw [e] at h1; simp at h1
      split at hu
      · rename_i h2
        simp only [valX] at hg ⊢
        rw [← h i hi, ← h j hj]
        split at hg
        · rename_i hc; rw [if_pos hc]; exact upB_ok h hq h2 hg
        · rename_i hc; rw [if_neg hc]; exact upB_ok h hq hu hg
      · cases hu
/-- A symbol that is asked only so: is it 0? If it is 9: no. -/
def okB (q : Nat) : TrX Leaf → Bool
  | .leaf _ => true
  | .cut i c l r => match Nat.beq i q with
    | true => match decide (c < 9), decide (0 ≤ c) with
      | true, true => noGo r
      | true, false => okB q r
      | _, _ => false
    | false => match okB q l with
      | true => okB q r
      | false => false
  | .rel _ i j l r => match Nat.beq i q, Nat.beq j q with
    | false, false => match okB q l with
      | true => okB q r
      | false => false
    | _, _ => false
theorem okB_ok {q : Nat} {v v' : Nat → Int} (h : ∀ i, i ≠ q → v i = v' i) (h9 : v q = 9) (h0 : v' q = 0) : ∀ {t : TrX Leaf}, okB q t = true → isGo (valX t v) = true → isGo (valX t v') = true
  | .leaf _, _, hg => hg
  | .cut i c l r, hu, hg => by
    simp only [okB] at hu
    split at hu
    · rename_i hb
      have hi := Nat.eq_of_beq_eq_true hb
      subst hi
      split at hu
      · rename_i h1 h2
        simp only [valX] at hg
        rw [if_neg (by have := of_decide_eq_true h1; omega), noGo_ok hu] at hg
        cases hg
      · rename_i h1 h2
        have h1 := of_decide_eq_true h1
        have h2 := of_decide_eq_false h2
        simp only [valX] at hg ⊢
        rw [if_neg (by omega)] at hg
        rw [if_neg (by omega)]
        exact okB_ok h h9 h0 hu hg
      · cases hu
    · rename_i h1
      have hi : i ≠ q := fun e => by rw [e] at h1; simp at h1
      split at hu
      · rename_i h2
        simp only [valX] at hg ⊢
        rw [← h i hi]
        split at hg
        · rename_i hc; rw [if_pos hc]; exact okB_ok h h9 h0 h2 hg
        · rename_i hc; rw [if_neg hc]; exact okB_ok h h9 h0 hu hg
      · cases hu
  | .rel k i j l r, hu, hg => by
    simp only [okB] at hu
    split at hu
    · rename_i h1 h2
      have hi : i ≠ q := fun e => by rw [e] at h1; simp at h1
      have hj : j ≠ q := fun e => by rw [e] at h2; simp at h2
      split at hu
      · rename_i h3
        simp only [valX] at hg ⊢
        rw [← h i hi, ← h j hj]
        split at hg
        · rename_i hc; rw [if_pos hc]; exact okB_ok h h9 h0 h3 hg
        · rename_i hc; rw [if_neg hc]; exact okB_ok h h9 h0 hu hg
      · cases hu
    · cases hu
/-! ### codes: more cards never hurt -/
theorem ccUp : upB 1 cct1L = true := by kernel_rfl
theorem good_mono {t c c' : Int} {xs : List Ins} {i : Nat} (hc : c ≤ c') (h : goodI t c xs i = true) : goodI t c' xs i = true := by
  unfold goodI at h ⊢
  refine upB_ok (q := 1) (v := cval t c xs i) (v' := cval t c' xs i) (fun k hk => ?_) hc ccUp h
  unfold cval
  split <;> first | rfl | exact absurd rfl hk
theorem spec4_mono {t : Int} {xs : List Ins} {k : Int} (h1 : 1 ≤ k) (h2 : k ≤ 40) : spec4 t k xs = spec4 t 1 xs ∨ (spec4 t 1 xs = 9 ∧ spec4 t k xs = 0) := by
  unfold spec4
  by_cases ht : t < 0 ∨ 2 < t
  · rw [if_pos (c := t < 0 ∨ 2 < t ∨ k < 0 ∨ 40 < k) (by omega), if_pos (c := t < 0 ∨ 2 < t ∨ (1 : Int) < 0 ∨ 40 < (1 : Int)) (by omega)]
    exact .inl rfl
  rw [if_neg (c := t < 0 ∨ 2 < t ∨ k < 0 ∨ 40 < k) (by omega), if_neg (c := t < 0 ∨ 2 < t ∨ (1 : Int) < 0 ∨ 40 < (1 : Int)) (by omega)]
  by_cases hl : 32 < xs.length
  · rw [if_pos hl, if_pos hl]
    exact .inl rfl
  rw [if_neg hl, if_neg hl]
  by_cases g1 : allF (goodI t 1 xs) xs.length 0 = true
  · have gk : allF (goodI t k xs) xs.length 0 = true := allF_iff.2 fun l a b => good_mono h1 (allF_iff.1 g1 l a b)
    rw [if_pos g1, if_pos gk]
    exact .inl rfl
  · rw [if_neg g1]
    split
    · exact .inr ⟨rfl, rfl⟩
    · exact .inl rfl
/-! ### cards -/
section
variable {D D' : Cx} {n : Int} {i : Nat}
def abS (i : Nat) : Bool := match Nat.ble 14 i with
  | true => Nat.ble i 29
  | false => false
def hdS (i : Nat) : Bool := match Nat.ble 1 i with
  | true => Nat.ble i 9
  | false => false
theorem vd1S : usesB abS vdt1L = true := by kernel_rfl
theorem vd2S : usesB abS vdt2L = true := by kernel_rfl
theorem cbS : usesB hdS cbt0 = true := by kernel_rfl
theorem vd1O : okB 29 vdt1L = true := by kernel_rfl
theorem vd2O : okB 29 vdt2L = true := by kernel_rfl
theorem abS_in {i : Nat} (h : abS i = true) : 14 ≤ i ∧ i ≤ 29 := by
  unfold abS at h
  split at h
  · rename_i h1
    exact ⟨Nat.le_of_ble_eq_true h1, Nat.le_of_ble_eq_true h⟩
  · cases h
theorem hdS_in {i : Nat} (h : hdS i = true) : 1 ≤ i ∧ i ≤ 9 := by
  unfold hdS at h
  split at h
  · rename_i h1
    exact ⟨Nat.le_of_ble_eq_true h1, Nat.le_of_ble_eq_true h⟩
  · cases h
/-- An ability's answer hangs on the kind and on the ability alone. -/
theorem good_same {j : Nat} (hk : (D.kind = 3) ↔ (D'.kind = 3)) (hab : D'.ab j = D.ab i) : D'.good n j = D.good n i := by
  unfold Cx.good
  have hk' : decide (D'.kind = 3) = decide (D.kind = 3) := by
    by_cases h : D.kind = 3
    · rw [decide_eq_true h, decide_eq_true (hk.1 h)]
    · rw [decide_eq_false h, decide_eq_false fun h' => h (hk.2 h')]
  rw [hk']
  have hv : ∀ k, abS k = true → D'.v n j k = D.v n i k := fun k hk => by
    obtain ⟨k1, k2⟩ := abS_in hk
    obtain rfl | rfl | rfl | rfl | rfl | rfl | rfl | rfl | rfl | rfl | rfl | rfl | rfl | rfl | rfl | rfl : k = 14 ∨ k = 15 ∨ k = 16 ∨ k = 17 ∨ k = 18 ∨ k = 19 ∨ k = 20 ∨ k = 21 ∨ k = 22 ∨ k = 23 ∨ k = 24 ∨ k = 25 ∨ k = 26 ∨ k = 27 ∨ k = 28 ∨ k = 29 := by omega
    all_goals (simp only [Cx.v, hab])
  split
  · rw [valX_congr hv vd2S]
  · rw [valX_congr hv vd1S]
theorem good_up {k : Int} (h1 : 1 ≤ k) (h2 : k ≤ 40) (h : D.good 1 i = true) : D.good k i = true := by
  have key : ∀ t : TrX Leaf, usesB abS t = true → okB 29 t = true → isGo (valX t (D.v 1 i)) = true → isGo (valX t (D.v k i)) = true := fun t hu ho hg => by
    have same : ∀ j, j ≠ 0 → j ≠ 29 → D.v 1 i j = D.v k i j := fun j h0 h29 => by
      unfold Cx.v
      split <;> first | rfl | exact absurd rfl h0 | exact absurd rfl h29
    let u : Nat → Int := fun j => if j = 0 then D.v 1 i 0 else D.v k i j
    have hu' : valX t u = valX t (D.v k i) := valX_congr (p := abS) (fun j hj => by
      have := abS_in hj
      show (if j = 0 then _ else D.v k i j) = _
      rw [if_neg (by omega)]) hu
    rw [← hu']
    rcases spec4_mono (t := ((D.ab i).tg.length : Int)) (xs := (D.ab i).code) h1 h2 with e | ⟨e1, e2⟩
    · have : valX t (D.v 1 i) = valX t u := valX_congr (p := abS) (fun j hj => by
        have := abS_in hj
        show _ = (if j = 0 then _ else D.v k i j)
        rw [if_neg (by omega)]
        by_cases h29 : j = 29
        · subst h29
          exact e.symm
        · exact same j (by omega) h29) hu
      rw [← this]
      exact hg
    · refine okB_ok (q := 29) (v := D.v 1 i) (v' := u) (fun j hj => ?_) e1 e2 ho hg
      show _ = (if j = 0 then _ else D.v k i j)
      by_cases h0 : j = 0
      · rw [if_pos h0, h0]
      · rw [if_neg h0]
        exact same j h0 hj
  unfold Cx.good at h ⊢
  split at h
  · rename_i hd
    exact key _ vd2S vd2O h
  · rename_i hd
    exact key _ vd1S vd1O h
theorem spec_1 : D.spec 1 = 0 ∨ D.spec 1 = 3 ∨ D.spec 1 = 10 := by
  unfold Cx.spec
  rw [if_neg (by omega)]
  split
  · exact .inr (.inl rfl)
  split
  · exact .inr (.inr rfl)
  split
  · exact .inl rfl
  · exact .inr (.inr rfl)
theorem spec_ok : D.spec 1 = 0 ↔ D.isLong = false ∧ D.name.size ≠ 0 ∧ D.body = true ∧ (∀ i, i < D.abs.length → D.good 1 i = true) ∧ (D.kind = 3 → D.abs.length = 1) := by
  unfold Cx.spec
  rw [if_neg (by omega)]
  cases hl : D.isLong with
  | true => simp
  | false =>
    rw [if_neg (by simp)]
    cases hb : D.body with
    | false => simp
    | true =>
      by_cases hn : D.name.size = 0
      · rw [if_pos (.inl hn)]
        simp [hn]
      · rw [if_neg (fun h => h.elim hn (fun h => by cases h))]
        constructor
        · intro h
          split at h
          · rename_i h1
            exact ⟨rfl, hn, rfl, fun i hi => allF_iff.1 h1.1 i (Nat.zero_le _) (by omega), h1.2⟩
          · cases h
        · rintro ⟨_, _, _, h1, h2⟩
          rw [if_pos ⟨allF_iff.2 fun l _ hl => h1 l (by omega), h2⟩]
/-- A card that may be may be where there are more cards. -/
theorem spec_up {k : Int} (h1 : 1 ≤ k) (h2 : k ≤ 40) (h : D.spec 1 = 0) : D.spec k = 0 := by
  obtain ⟨a, b, c, d, e⟩ := spec_ok.1 h
  unfold Cx.spec
  rw [if_neg (by omega), if_neg (by rw [a]; simp), if_neg (fun h => h.elim b (fun h => by rw [c] at h; cases h)), if_pos ⟨allF_iff.2 fun l _ hl => good_up h1 h2 (d l (by omega)), e⟩]
theorem spec_long {k : Int} (h1 : 1 ≤ k) (h2 : k ≤ 40) (h : D.spec 1 = 3) : D.spec k = 3 := by
  have hl : D.isLong = true := by
    unfold Cx.spec at h
    rw [if_neg (by omega)] at h
    cases hl : D.isLong with
    | true => rfl
    | false =>
      rw [hl, if_neg (by simp)] at h
      split at h
      · cases h
      split at h <;> cases h
  unfold Cx.spec
  rw [if_neg (by omega), if_pos hl]
/-- Likewise a card with the same head, and some of its abilities. -/
theorem spec_part (h : D.spec 1 = 0) (h3 : D.kind ≠ 3) (hn : D'.name = D.name) (hv : ∀ k, 1 ≤ k → k ≤ 9 → D'.v 0 0 k = D.v 0 0 k) (hl : D'.abs.length ≤ 4) (hab : ∀ j, j < D'.abs.length → ∃ i, i < D.abs.length ∧ D'.ab j = D.ab i) : D'.spec 1 = 0 := by
  obtain ⟨a, b, c, d, e⟩ := spec_ok.1 h
  have hk : D'.kind = D.kind := hv 1 (by omega) (by omega)
  obtain ⟨s1, s2⟩ := not_long a
  refine spec_ok.2 ⟨?_, by rw [hn]; exact b, ?_, fun j hj => ?_, fun h => absurd (hk ▸ h) h3⟩
  · unfold Cx.isLong
    have f : allF D'.fine D'.abs.length 0 = true := allF_iff.2 fun l _ hl => by
      obtain ⟨i, hi, he⟩ := hab l (by omega)
      unfold Cx.fine
      rw [he, decide_eq_true (s2 i).1, decide_eq_true (s2 i).2]
      rfl
    rw [f, hn, decide_eq_true s1.1, decide_eq_true hl]
    rfl
  · unfold Cx.body at c ⊢
    rw [valX_congr (p := hdS) (fun k hk => by obtain ⟨k1, k2⟩ := hdS_in hk; exact hv k k1 k2) cbS]
    exact c
  · obtain ⟨i, hi, he⟩ := hab j hj
    rw [good_same (D := D) (D' := D') (i := i) (j := j) (by rw [hk]) he]
    exact d i hi
end
end
end Go.Proofs.Ytgbpkilegbechaa.greater
