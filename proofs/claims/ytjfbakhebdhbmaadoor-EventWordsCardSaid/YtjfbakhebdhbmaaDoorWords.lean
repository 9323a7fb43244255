/-
  'EventWords': a text has no two blanks in a row, no line feed, and begins with a word of letters, the same one for each event of a kind (of any two events: their first 260 numbers, their first four targets). The condition: the listed tables hold what the row lists (the chapter's rows, that each statement asks, and the library's decimals look at them); the card ties that to the text.
-/
import Derived.Test.YtjfbakhebdhbmaaDoorTxO
import Derived.Test.YtjfbakhebdhbmaaDoorTxJ
import Derived.Test.YtjfbakhebdhbmaaDoorRows
import Derived.Test.YtjfbakhebdhbmaaDoorTie
import Derived.Test.YtjfbakhebdhbmaaDoorCards
import Derived.Carry
import Derived.Lay
import Derived.MakeChecks
import Derived.SevenTiedAt
namespace Go.Proofs.YtjfbakhebdhbmaaDoor.event
open Go.ChangeShapes Go.WideShapes Go.ChangeAt Go.RowKit Go.Proofs.YtjfbakhebdhbmaaDoor
set_option linter.unusedVariables false
theorem ownW : ownKnob Tryd.prog.godebug = none := by kernel_rfl
theorem laid_metW (W : World) (hL : laidMet Tryd.prog Rows.eventWordsRow.laid W) : Go.Ev.TabsOK tabs W :=
  Go.Ev.tabsOK_cons (Go.Ev.tab_of_reads (k := .u8) (zs := nums0) (Go.Lib.laidMet.reads hL (n := "math/bits.deBruijn32tab") (d := Rows.laid_math_bits_deBruijn32tab) (.head _)) (g := 1) (t := 110) (e := 5) (m := 32) (by kernel_rfl) (by kernel_rfl) (by kernel_rfl) (by kernel_rfl) (by kernel_rfl) (by kernel_rfl))
    (Go.Ev.tabsOK_cons (Go.Ev.tab_of_reads (k := .u8) (zs := nums1) (Go.Lib.laidMet.reads hL (n := "math/bits.deBruijn64tab") (d := Rows.laid_math_bits_deBruijn64tab) (.tail _ (.head _))) (g := 2) (t := 111) (e := 5) (m := 64) (by kernel_rfl) (by kernel_rfl) (by kernel_rfl) (by kernel_rfl) (by kernel_rfl) (by kernel_rfl))
    (Go.Ev.tabsOK_cons (Go.Ev.tab_of_reads (k := .u64) (zs := nums2) (Go.Lib.laidMet.reads hL (n := "internal/strconv.uint64pow10") (d := Rows.laid_internal_strconv_uint64pow10) (.tail _ (.tail _ (.head _)))) (g := 0) (t := 104) (e := 97) (m := 20) (by kernel_rfl) (by kernel_rfl) (by kernel_rfl) (by kernel_rfl) (by kernel_rfl) (by kernel_rfl))
    (Go.Ev.tabsOK_nil W)))
set_option maxRecDepth 100000 in
theorem liftedW (os : Os) (started : os.Started) (H : Type) (enc : TypeId × Value → H) :
    ReturnsInHanded {} Tryd.checked os 6 .any (fun w args => (Rows.eventWordsSpec.pre enc Tryd.prog Tryd.f6 [] false w args ∧ laidMetH Tryd.prog Rows.eventWordsRow.laid w) ∧ sizedMet enc Tryd.prog Tryd.f6 (OpenSpec.ofChange Rows.eventWordsSpec) false w args)
      (Rows.eventWordsSpec.post enc Tryd.prog Tryd.f6 false true false false) := by
  refine returnsInHanded_of_change_and (C := Tryd.checked) (X := fun w _ => laidMetH Tryd.prog Rows.eventWordsRow.laid w) (fun _ _ _ hh h => h.of_heap hh) ownW started (by kernel_rfl) Tryd.func6
    (ChangeSpec.witness_shaped (enc := enc) (C := Tryd.checked) (os := os) (X := fun w _ => laidMetH Tryd.prog Rows.eventWordsRow.laid w) false (World.laidAll Tryd.prog os Rows.eventWordsRow.laid) #[.agg #[.int .i64 0, .int .i64 0, .int .i64 0, .int .i64 0, .int .i64 0, .slice none 0 0, .int .i64 0, .int .i64 0, .int .i64 0, .int .i64 0, .int .i64 0, .int .i64 0, .slice none 0 0], .agg #[.int .i64 0, .int .i64 0, .int .i64 0, .int .i64 0, .int .i64 0, .slice none 0 0, .int .i64 0, .int .i64 0, .int .i64 0, .int .i64 0, .int .i64 0, .int .i64 0, .slice none 0 0]] 8 (World.laidAll_os _ _ _)
      (World.shaped_of_ZipB (by kernel_rfl) (by kernel_rfl)) (by kernel_rfl) (by kernel_rfl) (by kernel_rfl)
      (by rw [MakeChecks.laidMetH_plain _ _ _ (by kernel_rfl)]; exact laidMet_laidAll _ (by kernel_rfl) (by kernel_rfl))) ?_
  intro W base args ds gs before hval0 hW _ _ hL _
  have hval : ∀ (j : Nat) t v, Tryd.f6.params[j]? = some t → args[j]? = some v → Value.okWide Tryd.prog W .any base t v := hval0
  have hW' := hW
  obtain ⟨p, q, hA0, hV, rfl, _, _⟩ := hW
  have hA : DataW.TrodAll enc Tryd.prog W 0 (fun _ => true) true Tryd.f6.params.toList args.toList ds p := hA0
  rw [Tryd.params6] at hA hval
  obtain ⟨v0, v1, d0, d1, p0, p1, rfl, rfl, rfl, h0, h1⟩ := trodAll_two hA
  obtain ⟨rfl, rfl⟩ := trodVars_none hV
  obtain ⟨cs0, rfl, _⟩ := okWide_struct Tryd.underlying27 (hval 0 27 v0 rfl rfl)
  obtain ⟨cs1, rfl, _⟩ := okWide_struct Tryd.underlying27 (hval 1 27 v1 rfl rfl)
  clear hA0 hval0
  have hlt : ∀ x ∈ p0, x.block < W.heap.size := fun x hx => by simpa using hW'.lt x (by simp [hx])
  have hlt1 : ∀ x ∈ p1, x.block < W.heap.size := fun x hx => by simpa using hW'.lt x (by simp [hx])
  simp only [List.append_nil] at hW'
  rw [MakeChecks.laidMetH_plain _ _ _ (by kernel_rfl)] at hL
  obtain ⟨f0, hf0⟩ := h0
  obtain ⟨f1, hf1⟩ := h1
  obtain ⟨ga, la, lt, hga, hra, hca⟩ := event_of (cs := cs0.toList) hf0
  obtain ⟨gb, ma, mt, hgb, hrb, hcb⟩ := event_of (cs := cs1.toList) hf1
  have hl := lawW (g := ⟨ga, gb, la, lt, ma, mt⟩) (laid_metW W hL) ⟨hga, hgb, hra, hrb⟩
  rw [← hca, ← hcb] at hl
  refine hl.mono fun e W' ⟨he, hb⟩ => ?_
  subst he
  have hargs := Below.trod (by kernel_rfl) (by kernel_rfl) (of_decide_eq_true (by kernel_rfl)) (⟨f0, hf0⟩ : DataW.Trod enc Tryd.prog W 0 (fun _ => true) true 27 (.agg cs0) d0 p0) hb hlt
  have hargs1 := Below.trod (by kernel_rfl) (by kernel_rfl) (of_decide_eq_true (by kernel_rfl)) (⟨f1, hf1⟩ : DataW.Trod enc Tryd.prog W 0 (fun _ => true) true 27 (.agg cs1) d1 p1) hb hlt1
  exact ⟨_, rfl, _, _, _, [], p0 ++ p1, [], hW', trodAll_mk1 (shut_bool Tryd.underlying4 _), trodAll_mk2 hargs hargs1, rfl, hb.frame _, fun h => by cases h⟩
theorem overW : Rows.eventWordsRow.holds Tryd.pinned (OpenSpec.ofChange Rows.eventWordsSpec) :=
  OpenClaim.holds_of_wide 6 Tryd.f6 rfl rfl rfl rfl rfl rfl rfl ⟨rfl, rfl, rfl, rfl, rfl⟩ rfl rfl rfl rfl rfl (by kernel_rfl) Tryd.func6 (by kernel_rfl)
    (of_decide_eq_true (by kernel_rfl)) (by unfold Func.isWrapper; first | (rw [if_pos (by decide +kernel)]; kernel_rfl) | (rw [if_neg (by decide +kernel)]; exact ⟨rfl, rfl⟩))
    (fun os started H enc _ => liftedW os started H enc)
theorem provedWords : Rows.EventWordsCardSaid :=
  Claim7.holds_tied_plain_at .later [] [.data, .data, .data] true (true, "829b81921f811046a2d3dc589098947028bc2beeac30a3839e75934f612c0189") false overW (fun _ h => by cases h) (by kernel_rfl) (fun _ h => by cases h) eventWords_row_tie rfl ⟨rfl, rfl⟩ (by kernel_rfl) rfl
    (fun f fn hf hfn => by
      obtain rfl : f = 6 := Option.some.inj ((show Tryd.prog.funcNamed "trefoil/trefoillaw11.EventWords" = some 6 by kernel_rfl).symm.trans hf) |>.symm
      obtain rfl : fn = Tryd.f6 := (Option.some.inj (Tryd.func6.symm.trans hfn)).symm
      exact ⟨by kernel_rfl, fun j t ht => by
        rw [Tryd.params6] at ht
        have hm : t ∈ [27, 27] := by simpa using Array.mem_of_getElem? ht
        have hall : ([27, 27].all fun u => !Tryd.prog.wantsStandIn u) = true := by kernel_rfl
        exact (show Tryd.prog.wantsStandIn t = false by simpa using List.all_eq_true.1 hall t hm)⟩)
    (by kernel_rfl)
end Go.Proofs.YtjfbakhebdhbmaaDoor.event
