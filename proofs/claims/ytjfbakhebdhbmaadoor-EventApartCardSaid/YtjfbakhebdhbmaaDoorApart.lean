/-
  'EventApart': two events that may be have one text just if they are alike (of any two events: their first 260 numbers, their first four targets; and of the first one, of which a field is another number). The condition: the listed tables hold what the row lists (the chapter's rows, that each statement asks, and the library's decimals look at them); the card ties that to the text.
-/
import Derived.Test.YtjfbakhebdhbmaaDoorTxO
import Derived.Test.YtjfbakhebdhbmaaDoorTxAo
import Derived.Test.YtjfbakhebdhbmaaDoorRows
import Derived.Test.YtjfbakhebdhbmaaDoorTie
import Derived.Test.YtjfbakhebdhbmaaDoorCards
import Derived.Carry
import Derived.Lay
import Derived.MakeChecks
import Derived.SevenTiedAt
namespace Go.Proofs.YtjfbakhebdhbmaaDoor.event
open Go.ChangeShapes Go.WideShapes Go.ChangeAt Go.RowKit Go.Proofs.YtjfbakhebdhbmaaDoor
set_option linter.unusedVariables false
theorem ownY : ownKnob Tryd.prog.godebug = none := by kernel_rfl
theorem laid_metY (W : World) (hL : laidMet Tryd.prog Rows.eventApartRow.laid W) : Go.Ev.TabsOK tabs W :=
  Go.Ev.tabsOK_cons (Go.Ev.tab_of_reads (k := .u8) (zs := nums0) (Go.Lib.laidMet.reads hL (n := "math/bits.deBruijn32tab") (d := Rows.laid_math_bits_deBruijn32tab) (.head _)) (g := 1) (t := 110) (e := 5) (m := 32) (by kernel_rfl) (by kernel_rfl) (by kernel_rfl) (by kernel_rfl) (by kernel_rfl) (by kernel_rfl))
    (Go.Ev.tabsOK_cons (Go.Ev.tab_of_reads (k := .u8) (zs := nums1) (Go.Lib.laidMet.reads hL (n := "math/bits.deBruijn64tab") (d := Rows.laid_math_bits_deBruijn64tab) (.tail _ (.head _))) (g := 2) (t := 111) (e := 5) (m := 64) (by kernel_rfl) (by kernel_rfl) (by kernel_rfl) (by kernel_rfl) (by kernel_rfl) (by kernel_rfl))
    (Go.Ev.tabsOK_cons (Go.Ev.tab_of_reads (k := .u64) (zs := nums2) (Go.Lib.laidMet.reads hL (n := "internal/strconv.uint64pow10") (d := Rows.laid_internal_strconv_uint64pow10) (.tail _ (.tail _ (.head _)))) (g := 0) (t := 104) (e := 97) (m := 20) (by kernel_rfl) (by kernel_rfl) (by kernel_rfl) (by kernel_rfl) (by kernel_rfl) (by kernel_rfl))
    (Go.Ev.tabsOK_nil W)))
theorem flat36 : Go.Ev.flatT Tryd.prog 9 36 = some [3, 3] := by kernel_rfl
section
variable {H : Type} {enc : TypeId × Value → H} {w : World} {base : Nat} {sp : Nat → Bool} {held : Bool}
theorem two_of {n : Nat} {cs : List Value} {y : DataW H × List MemPlace} (h : DataW.trod enc Tryd.prog w base sp held n 36 cs = some y) : ∃ a b : Int, cs = [.int .i64 a, .int .i64 b] ∧ I64 a ∧ I64 b := by
  have hL := Go.Ev.leaves_ok flat36 h
  obtain ⟨z0, e0, w0⟩ := leaf_int hL (j := 0) rfl
  obtain ⟨z1, e1, w1⟩ := leaf_int hL (j := 1) rfl
  have hlen := hL.1
  match cs, hlen with
  | [a0, a1], _ =>
    simp only [List.getElem?_cons_zero, List.getElem?_cons_succ, Option.some.injEq] at e0 e1
    subst e0 e1
    exact ⟨z0, z1, rfl, w0, w1⟩
end
theorem okWide_array {P : Program} {t e : TypeId} {n : Nat} {w : World} {r : Reach} {b0 : Nat} {v : Value} (ht : P.underlying t = some (.array n e)) (h : Value.okWide P w r b0 t v) : ∃ cs, v = .agg cs := by
  simp only [Value.okWide, ht] at h
  obtain ⟨cs, h1, _⟩ := h
  exact ⟨cs, h1⟩
set_option maxRecDepth 100000 in
theorem liftedY (os : Os) (started : os.Started) (H : Type) (enc : TypeId × Value → H) :
    ReturnsInHanded {} Tryd.checked os 5 .any (fun w args => (Rows.eventApartSpec.pre enc Tryd.prog Tryd.f5 [] false w args ∧ laidMetH Tryd.prog Rows.eventApartRow.laid w) ∧ sizedMet enc Tryd.prog Tryd.f5 (OpenSpec.ofChange Rows.eventApartSpec) false w args)
      (Rows.eventApartSpec.post enc Tryd.prog Tryd.f5 false true false false) := by
  refine returnsInHanded_of_change_and (C := Tryd.checked) (X := fun w _ => laidMetH Tryd.prog Rows.eventApartRow.laid w) (fun _ _ _ hh h => h.of_heap hh) ownY started (by kernel_rfl) Tryd.func5
    (ChangeSpec.witness_shaped (enc := enc) (C := Tryd.checked) (os := os) (X := fun w _ => laidMetH Tryd.prog Rows.eventApartRow.laid w) false (World.laidAll Tryd.prog os Rows.eventApartRow.laid) #[.agg #[.int .i64 0, .int .i64 0, .int .i64 0, .int .i64 0, .int .i64 0, .slice none 0 0, .int .i64 0, .int .i64 0, .int .i64 0, .int .i64 0, .int .i64 0, .int .i64 0, .slice none 0 0], .agg #[.int .i64 0, .int .i64 0, .int .i64 0, .int .i64 0, .int .i64 0, .slice none 0 0, .int .i64 0, .int .i64 0, .int .i64 0, .int .i64 0, .int .i64 0, .int .i64 0, .slice none 0 0], .agg #[.int .i64 0, .int .i64 0]] 8 (World.laidAll_os _ _ _)
      (World.shaped_of_ZipB (by kernel_rfl) (by kernel_rfl)) (by kernel_rfl) (by kernel_rfl) (by kernel_rfl)
      (by rw [MakeChecks.laidMetH_plain _ _ _ (by kernel_rfl)]; exact laidMet_laidAll _ (by kernel_rfl) (by kernel_rfl))) ?_
  intro W base args ds gs before hval0 hW _ _ hL _
  have hval : ∀ (j : Nat) t v, Tryd.f5.params[j]? = some t → args[j]? = some v → Value.okWide Tryd.prog W .any base t v := hval0
  have hW' := hW
  obtain ⟨p, q, hA0, hV, rfl, _, _⟩ := hW
  have hA : DataW.TrodAll enc Tryd.prog W 0 (fun _ => true) true Tryd.f5.params.toList args.toList ds p := hA0
  rw [Tryd.params5] at hA hval
  obtain ⟨v0, v1, v2, d0, d1, d2, p0, p1, p2, rfl, rfl, rfl, h0, h1, h2⟩ := trodAll_three hA
  obtain ⟨rfl, rfl⟩ := trodVars_none hV
  obtain ⟨cs0, rfl, _⟩ := okWide_struct Tryd.underlying27 (hval 0 27 v0 rfl rfl)
  obtain ⟨cs1, rfl, _⟩ := okWide_struct Tryd.underlying27 (hval 1 27 v1 rfl rfl)
  obtain ⟨cs2, rfl⟩ := okWide_array Tryd.underlying36 (hval 2 36 v2 rfl rfl)
  clear hA0 hval0
  simp only [List.append_nil] at hW'
  have hlt : ∀ x ∈ p0, x.block < W.heap.size := fun x hx => by simpa using hW'.lt x (by simp [hx])
  have hlt1 : ∀ x ∈ p1, x.block < W.heap.size := fun x hx => by simpa using hW'.lt x (by simp [hx])
  have hlt2 : ∀ x ∈ p2, x.block < W.heap.size := fun x hx => by simpa using hW'.lt x (by simp [hx])
  rw [MakeChecks.laidMetH_plain _ _ _ (by kernel_rfl)] at hL
  obtain ⟨f0, hf0⟩ := h0
  obtain ⟨f1, hf1⟩ := h1
  obtain ⟨f2, hf2⟩ := h2
  obtain ⟨ga, la, lt, hga, hra, hca⟩ := event_of (cs := cs0.toList) hf0
  obtain ⟨gb, ma, mt, hgb, hrb, hcb⟩ := event_of (cs := cs1.toList) hf1
  obtain ⟨a, b, hc2, wa, wb⟩ := two_of (cs := cs2.toList) hf2
  have e2 : cs2 = #[.int .i64 a, .int .i64 b] := Array.toList_inj.1 hc2
  have hl := lawY (x := ⟨ga, gb, la, lt, ma, mt, a, b⟩) (laid_metY W hL) ⟨hga, hgb, hra, hrb, wa, wb⟩
  rw [← hca, ← hcb, ← e2] at hl
  refine hl.mono fun e W' ⟨he, hb⟩ => ?_
  subst he
  have hargs := Below.trod (by kernel_rfl) (by kernel_rfl) (of_decide_eq_true (by kernel_rfl)) (⟨f0, hf0⟩ : DataW.Trod enc Tryd.prog W 0 (fun _ => true) true 27 (.agg cs0) d0 p0) hb hlt
  have hargs1 := Below.trod (by kernel_rfl) (by kernel_rfl) (of_decide_eq_true (by kernel_rfl)) (⟨f1, hf1⟩ : DataW.Trod enc Tryd.prog W 0 (fun _ => true) true 27 (.agg cs1) d1 p1) hb hlt1
  have hargs2 := Below.trod (by kernel_rfl) (by kernel_rfl) (of_decide_eq_true (by kernel_rfl)) (⟨f2, hf2⟩ : DataW.Trod enc Tryd.prog W 0 (fun _ => true) true 36 (.agg cs2) d2 p2) hb hlt2
  exact ⟨_, rfl, _, _, _, [], p0 ++ (p1 ++ p2), [], hW', trodAll_mk1 (shut_bool Tryd.underlying4 _), trodAll_mk3 hargs hargs1 hargs2, rfl, hb.frame _, fun h => by cases h⟩
theorem overY : Rows.eventApartRow.holds Tryd.pinned (OpenSpec.ofChange Rows.eventApartSpec) :=
  OpenClaim.holds_of_wide 5 Tryd.f5 rfl rfl rfl rfl rfl rfl rfl ⟨rfl, rfl, rfl, rfl, rfl⟩ rfl rfl rfl rfl rfl (by kernel_rfl) Tryd.func5 (by kernel_rfl)
    (of_decide_eq_true (by kernel_rfl)) (by unfold Func.isWrapper; first | (rw [if_pos (by decide +kernel)]; kernel_rfl) | (rw [if_neg (by decide +kernel)]; exact ⟨rfl, rfl⟩))
    (fun os started H enc _ => liftedY os started H enc)
theorem provedApart : Rows.EventApartCardSaid :=
  Claim7.holds_tied_plain_at .later [] [.data, .data, .data] true (true, "829b81921f811046a2d3dc589098947028bc2beeac30a3839e75934f612c0189") false overY (fun _ h => by cases h) (by kernel_rfl) (fun _ h => by cases h) eventApart_row_tie rfl ⟨rfl, rfl⟩ (by kernel_rfl) rfl
    (fun f fn hf hfn => by
      obtain rfl : f = 5 := Option.some.inj ((show Tryd.prog.funcNamed "trefoil/trefoillaw11.EventApart" = some 5 by kernel_rfl).symm.trans hf) |>.symm
      obtain rfl : fn = Tryd.f5 := (Option.some.inj (Tryd.func5.symm.trans hfn)).symm
      exact ⟨by kernel_rfl, fun j t ht => by
        rw [Tryd.params5] at ht
        have hm : t ∈ [27, 27, 36] := by simpa using Array.mem_of_getElem? ht
        have hall : ([27, 27, 36].all fun u => !Tryd.prog.wantsStandIn u) = true := by kernel_rfl
        exact (show Tryd.prog.wantsStandIn t = false by simpa using List.all_eq_true.1 hall t hm)⟩)
    (by kernel_rfl)
end Go.Proofs.YtjfbakhebdhbmaaDoor.event
