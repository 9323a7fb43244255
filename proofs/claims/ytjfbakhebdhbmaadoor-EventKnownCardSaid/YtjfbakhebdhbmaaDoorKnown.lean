/-
  'EventKnown' answers true. It takes no argument. The kernel runs the evaluator of the texts before (Go.Ev), which is proved sound for the model. The condition: the listed tables hold what the row lists; the card ties that to the program's text.
-/
import Derived.Test.YtjfbakhebdhbmaaDoorRows
import Derived.Test.YtjfbakhebdhbmaaDoorTie
import Derived.Test.YtjfbakhebdhbmaaDoorCards
import Derived.Test.YtjfbakhebdhbmaaDoorEvW
import Derived.WalkKit
import Derived.ProofKit
import Derived.OpenShut
import Derived.Lay
import Derived.MakeChecks
import Derived.SevenTiedAt
import Derived.Test.YtjfbakhebdhbmaaDoorKnownP1
import Derived.Test.YtjfbakhebdhbmaaDoorKnownP2
import Derived.Test.YtjfbakhebdhbmaaDoorKnownP3
import Derived.Test.YtjfbakhebdhbmaaDoorKnownP4
import Derived.Test.YtjfbakhebdhbmaaDoorKnownP5
namespace Go.Proofs.YtjfbakhebdhbmaaDoor.eventKnown
open Go.ChangeShapes Go.WideShapes Go.ChangeAt Go.RowKit
set_option linter.unusedVariables false
theorem cs : Go.Ev.CS Tryd.prog Tryd.f7.ntmps body .lf ⟨env, .lf, 0⟩ .ret a11 H11 :=
  Go.Ev.CS.spine (Go.Ev.noNG_of noNG) mixed known part1 rfl (Go.Ev.CS.seqAt (by kernel_rfl) (Go.Ev.CS.spine (Go.Ev.noNG_of noNG) mixed known part2 rfl (Go.Ev.CS.blockAt (id := 0) (by kernel_rfl) (Go.Ev.CS.loopAt (by kernel_rfl) (Go.Ev.LS.rounds (Go.Ev.noNG_of noNG) mixed known part3 rfl (Go.Ev.LS.rounds (Go.Ev.noNG_of noNG) mixed known part4 rfl (Go.Ev.LS.of_chk (Go.Ev.noNG_of noNG) mixed known part5 rfl)))))) (Go.Ev.CS.spine (Go.Ev.noNG_of noNG) mixed known part6 rfl (Go.Ev.CS.seqAt (by kernel_rfl) (Go.Ev.CS.spine (Go.Ev.noNG_of noNG) mixed known part7 rfl (Go.Ev.CS.blockAt (id := 2) (by kernel_rfl) (Go.Ev.CS.loopAt (by kernel_rfl) (Go.Ev.LS.rounds (Go.Ev.noNG_of noNG) mixed known part8 rfl (Go.Ev.LS.rounds (Go.Ev.noNG_of noNG) mixed known part9 rfl (Go.Ev.LS.of_chk (Go.Ev.noNG_of noNG) mixed known part10 rfl)))))) (Go.Ev.CS.of_chk (Go.Ev.noNG_of noNG) mixed known part11 rfl))))
theorem walk (w : World) (h : Go.Ev.TabsOK tabs w) : Calls Tryd.prog 7 #[] w fun e w' => e = .returned (.bool true) ∧ Below w.heap.size w w' :=
  Go.Ev.cs_callsT Tryd.func7 (c := body) (by kernel_rfl) (by kernel_rfl) cs (fun _ h => by cases h) (by kernel_rfl) w h h
theorem laid_met (W : World) (hL : laidMet Tryd.prog Rows.eventKnownRow.laid W) : Go.Ev.TabsOK tabs W :=
  Go.Ev.tabsOK_cons (Go.Ev.tab_of_reads (k := .u8) (zs := nums0) (Go.Lib.laidMet.reads hL (n := "math/bits.deBruijn32tab") (d := Rows.laid_math_bits_deBruijn32tab) (.head _)) (g := 1) (t := 110) (e := 5) (m := 32) (by kernel_rfl) (by kernel_rfl) (by kernel_rfl) (by kernel_rfl) (by kernel_rfl) (by kernel_rfl))
    (Go.Ev.tabsOK_cons (Go.Ev.tab_of_reads (k := .u8) (zs := nums1) (Go.Lib.laidMet.reads hL (n := "math/bits.deBruijn64tab") (d := Rows.laid_math_bits_deBruijn64tab) (.tail _ (.head _))) (g := 2) (t := 111) (e := 5) (m := 64) (by kernel_rfl) (by kernel_rfl) (by kernel_rfl) (by kernel_rfl) (by kernel_rfl) (by kernel_rfl))
    (Go.Ev.tabsOK_cons (Go.Ev.tab_of_reads (k := .u64) (zs := nums2) (Go.Lib.laidMet.reads hL (n := "internal/strconv.uint64pow10") (d := Rows.laid_internal_strconv_uint64pow10) (.tail _ (.tail _ (.head _)))) (g := 0) (t := 104) (e := 97) (m := 20) (by kernel_rfl) (by kernel_rfl) (by kernel_rfl) (by kernel_rfl) (by kernel_rfl) (by kernel_rfl))
    (Go.Ev.tabsOK_nil W)))
set_option maxRecDepth 100000 in
theorem lifted (os : Os) (started : os.Started) (H : Type) (enc : TypeId × Value → H) :
    ReturnsInHanded {} Tryd.checked os 7 .any (fun w args => (Rows.eventKnownSpec.pre enc Tryd.prog Tryd.f7 [] false w args ∧ laidMetH Tryd.prog Rows.eventKnownRow.laid w) ∧ sizedMet enc Tryd.prog Tryd.f7 (OpenSpec.ofChange Rows.eventKnownSpec) false w args)
      (Rows.eventKnownSpec.post enc Tryd.prog Tryd.f7 false true false false) := by
  refine returnsInHanded_of_change_and (C := Tryd.checked) (X := fun w _ => laidMetH Tryd.prog Rows.eventKnownRow.laid w) (fun _ _ _ hh h => h.of_heap hh) own started (by kernel_rfl) Tryd.func7
    (ChangeSpec.witness_shaped (enc := enc) (C := Tryd.checked) (os := os) (X := fun w _ => laidMetH Tryd.prog Rows.eventKnownRow.laid w) false (World.laidAll Tryd.prog os Rows.eventKnownRow.laid) #[] 8 (World.laidAll_os _ _ _)
      (World.shaped_of_ZipB (by kernel_rfl) (by kernel_rfl)) (by kernel_rfl) (by kernel_rfl) (by kernel_rfl)
      (by rw [MakeChecks.laidMetH_plain _ _ _ (by kernel_rfl)]; exact laidMet_laidAll _ (by kernel_rfl) (by kernel_rfl))) ?_
  intro W base args ds gs before hval0 hW _ _ hL _
  have hW' := hW
  obtain ⟨p, q, hA0, hV, rfl, _, _⟩ := hW
  have hA : DataW.TrodAll enc Tryd.prog W 0 (fun _ => true) true Tryd.f7.params.toList args.toList ds p := hA0
  rw [Tryd.params7] at hA
  obtain ⟨rfl, rfl, rfl⟩ := trodAll_none hA
  obtain ⟨rfl, rfl⟩ := trodVars_none hV
  simp only [List.append_nil] at hW'
  rw [MakeChecks.laidMetH_plain _ _ _ (by kernel_rfl)] at hL
  refine (walk W (laid_met W hL)).mono fun e W' ⟨he, hg⟩ => ?_
  subst he
  exact ⟨_, rfl, Go.Ev.post_of_below hW' (fun _ _ _ => (trodAll_cons_mk (shut_bool Tryd.underlying4 _) trodAll_mk0)) (fun sp => rfl) (fun _ => rfl)
    hg (ok_one (by kernel_rfl) rfl (okWide_bool_mk Tryd.underlying4 _))⟩
theorem over : Rows.eventKnownRow.holds Tryd.pinned (OpenSpec.ofChange Rows.eventKnownSpec) :=
  OpenClaim.holds_of_wide 7 Tryd.f7 rfl rfl rfl rfl rfl rfl rfl ⟨rfl, rfl, rfl, rfl, rfl⟩ rfl rfl rfl rfl rfl (by kernel_rfl) Tryd.func7 (by kernel_rfl)
    (of_decide_eq_true (by kernel_rfl)) (by unfold Func.isWrapper; first | (rw [if_pos (by decide +kernel)]; kernel_rfl) | (rw [if_neg (by decide +kernel)]; exact ⟨rfl, rfl⟩))
    (fun os started H enc _ => lifted os started H enc)
theorem proved : Rows.EventKnownCardSaid :=
  Claim7.holds_tied_plain_at .later [] [.data, .data, .data] true (true, "829b81921f811046a2d3dc589098947028bc2beeac30a3839e75934f612c0189") false over (fun _ h => by cases h) (by kernel_rfl) (fun _ h => by cases h) eventKnown_row_tie rfl ⟨rfl, rfl⟩ (by kernel_rfl) rfl
    (fun f fn hf hfn => by
      obtain rfl : f = 7 := Option.some.inj ((show Tryd.prog.funcNamed "trefoil/trefoillaw11.EventKnown" = some 7 by kernel_rfl).symm.trans hf) |>.symm
      obtain rfl : fn = Tryd.f7 := (Option.some.inj (Tryd.func7.symm.trans hfn)).symm
      exact ⟨by kernel_rfl, fun j t ht => by
        rw [Tryd.params7] at ht
        simp at ht⟩)
    (by kernel_rfl)
end Go.Proofs.YtjfbakhebdhbmaaDoor.eventKnown
