/-
  'EventFields': which events may be, and how they are told, is as the document says, of each kind with any numbers. The condition: the listed tables hold what the row lists (the chapter's rows, that each statement asks, and the library's decimals look at them); the card ties that to the text.
-/
import Derived.Test.YtjfbakhebdhbmaaDoorTxO
import Derived.Test.YtjfbakhebdhbmaaDoorTxG
import Derived.Test.YtjfbakhebdhbmaaDoorRows
import Derived.Test.YtjfbakhebdhbmaaDoorTie
import Derived.Test.YtjfbakhebdhbmaaDoorCards
import Derived.Carry
import Derived.Lay
import Derived.MakeChecks
import Derived.SevenTiedAt
namespace Go.Proofs.YtjfbakhebdhbmaaDoor.event
open Go.ChangeShapes Go.WideShapes Go.ChangeAt Go.RowKit Go.Proofs.YtjfbakhebdhbmaaDoor
set_option linter.unusedVariables false
theorem ownF : ownKnob Tryd.prog.godebug = none := by kernel_rfl
theorem laid_metF (W : World) (hL : laidMet Tryd.prog Rows.eventFieldsRow.laid W) : Go.Ev.TabsOK tabs W :=
  Go.Ev.tabsOK_cons (Go.Ev.tab_of_reads (k := .u8) (zs := nums0) (Go.Lib.laidMet.reads hL (n := "math/bits.deBruijn32tab") (d := Rows.laid_math_bits_deBruijn32tab) (.head _)) (g := 1) (t := 110) (e := 5) (m := 32) (by kernel_rfl) (by kernel_rfl) (by kernel_rfl) (by kernel_rfl) (by kernel_rfl) (by kernel_rfl))
    (Go.Ev.tabsOK_cons (Go.Ev.tab_of_reads (k := .u8) (zs := nums1) (Go.Lib.laidMet.reads hL (n := "math/bits.deBruijn64tab") (d := Rows.laid_math_bits_deBruijn64tab) (.tail _ (.head _))) (g := 2) (t := 111) (e := 5) (m := 64) (by kernel_rfl) (by kernel_rfl) (by kernel_rfl) (by kernel_rfl) (by kernel_rfl) (by kernel_rfl))
    (Go.Ev.tabsOK_cons (Go.Ev.tab_of_reads (k := .u64) (zs := nums2) (Go.Lib.laidMet.reads hL (n := "internal/strconv.uint64pow10") (d := Rows.laid_internal_strconv_uint64pow10) (.tail _ (.tail _ (.head _)))) (g := 0) (t := 104) (e := 97) (m := 20) (by kernel_rfl) (by kernel_rfl) (by kernel_rfl) (by kernel_rfl) (by kernel_rfl) (by kernel_rfl))
    (Go.Ev.tabsOK_nil W)))
theorem flat34 : Go.Ev.flatT Tryd.prog 9 34 = some [3, 3, 3, 3, 3] := by kernel_rfl
theorem flat25 : Go.Ev.flatT Tryd.prog 9 25 = some [3, 3, 3, 3, 3, 3, 23] := by kernel_rfl
section
variable {H : Type} {enc : TypeId × Value → H} {w : World} {base : Nat} {sp : Nat → Bool} {held : Bool}
theorem five_of {n : Nat} {cs : List Value} {y : DataW H × List MemPlace} (h : DataW.trod enc Tryd.prog w base sp held n 34 cs = some y) :
    ∃ a b c d e : Int, cs = [.int .i64 a, .int .i64 b, .int .i64 c, .int .i64 d, .int .i64 e] ∧ I64 a ∧ I64 b ∧ I64 c ∧ I64 d ∧ I64 e := by
  have hL := Go.Ev.leaves_ok flat34 h
  obtain ⟨z0, e0, w0⟩ := leaf_int hL (j := 0) rfl
  obtain ⟨z1, e1, w1⟩ := leaf_int hL (j := 1) rfl
  obtain ⟨z2, e2, w2⟩ := leaf_int hL (j := 2) rfl
  obtain ⟨z3, e3, w3⟩ := leaf_int hL (j := 3) rfl
  obtain ⟨z4, e4, w4⟩ := leaf_int hL (j := 4) rfl
  have hlen := hL.1
  match cs, hlen with
  | [a0, a1, a2, a3, a4], _ =>
    simp only [List.getElem?_cons_zero, List.getElem?_cons_succ, Option.some.injEq] at e0 e1 e2 e3 e4
    subst e0 e1 e2 e3 e4
    exact ⟨z0, z1, z2, z3, z4, rfl, w0, w1, w2, w3, w4⟩
theorem item_of {n : Nat} {cs : List Value} {y : DataW H × List MemPlace} {kv a b c d e : Int} (h : DataW.trod enc Tryd.prog w base sp held n 25 cs = some y) (k0 : 0 ≤ kv) (k1 : kv ≤ 255) (ha : I64 a) (hb : I64 b) (hc : I64 c) (hd : I64 d) (he : I64 e) :
    ∃ (g : EvG) (lt : Nat), g.OK w ∧ Fld g kv e lt ∧ [Value.int .u8 kv, .agg #[.int .i64 a, .int .i64 b, .int .i64 c, .int .i64 d, .int .i64 e], .agg ⟨cs⟩] = fVals g kv e lt := by
  have hL := Go.Ev.leaves_ok flat25 h
  obtain ⟨z6, e6, w6⟩ := leaf_int hL (j := 0) rfl
  obtain ⟨z7, e7, w7⟩ := leaf_int hL (j := 1) rfl
  obtain ⟨z8, e8, w8⟩ := leaf_int hL (j := 2) rfl
  obtain ⟨z9, e9, w9⟩ := leaf_int hL (j := 3) rfl
  obtain ⟨z10, e10, w10⟩ := leaf_int hL (j := 4) rfl
  obtain ⟨z11, e11, w11⟩ := leaf_int hL (j := 5) rfl
  obtain ⟨v12, n12, y12, e12, h12⟩ := hL.2 6 23 rfl
  obtain ⟨ob, cb, Bb, Ob, t, rfl, t1, t2, t3, t4⟩ := tgs_of h12
  have hlen := hL.1
  have hm := Int.tmod_lt_of_pos kv (show (0 : Int) < 32 by decide)
  have hm0 := Int.tmod_nonneg 32 k0
  match cs, hlen with
  | [a6, a7, a8, a9, a10, a11, a12], _ =>
    simp only [List.getElem?_cons_zero, List.getElem?_cons_succ, Option.some.injEq] at e6 e7 e8 e9 e10 e11 e12
    subst e6 e7 e8 e9 e10 e11 e12
    refine ⟨⟨kv.tmod 32, a, b, c, d, [], none, 0, 0, 0, z6, z7, z8, z9, z10, z11, t.take 4, ob, cb, Bb, Ob⟩, t.length,
      { cl := (fun i x hi => by simp at hi), ct := fun i x hi => t4 i x (take_at hi), wl := (fun x hx => by cases hx), wt := fun x hx => t3 x (List.mem_of_mem_take hx),
        nl := Nat.zero_le _, nt := by show (t.take 4).length ≤ 4; rw [List.length_take]; omega,
        fk := ⟨by show _ ≤ kv.tmod 32; omega, by show kv.tmod 32 ≤ _; omega⟩, fa := ha, fb := hb, fn := hc, fm := hd, f5 := w6, f6 := w7, f7 := w8, f8 := w9, f9 := w10, f10 := w11 },
      { k0 := k0, k1 := k1, hk := rfl, nl := rfl, oa := rfl, ca := rfl, n4 := he, ht := by show (t.take 4).length = _; rw [List.length_take]; omega, cb := t1, bb := by omega }, rfl⟩
end
theorem okWide_array {P : Program} {t e : TypeId} {n : Nat} {w : World} {r : Reach} {b0 : Nat} {v : Value} (ht : P.underlying t = some (.array n e)) (h : Value.okWide P w r b0 t v) : ∃ cs, v = .agg cs := by
  simp only [Value.okWide, ht] at h
  obtain ⟨cs, h1, _⟩ := h
  exact ⟨cs, h1⟩
theorem lit8 {x : Int} (h : (Lit.int .u8 x).wf = true) : 0 ≤ x ∧ x ≤ 255 := by
  have h' : 0 ≤ x ∧ x ≤ 255 := by simpa [Lit.wf, IntKind.min, IntKind.max, IntKind.signed, IntKind.bits] using h
  exact h'
set_option maxRecDepth 100000 in
theorem liftedF (os : Os) (started : os.Started) (H : Type) (enc : TypeId × Value → H) :
    ReturnsInHanded {} Tryd.checked os 4 .any (fun w args => (Rows.eventFieldsSpec.pre enc Tryd.prog Tryd.f4 [] false w args ∧ laidMetH Tryd.prog Rows.eventFieldsRow.laid w) ∧ sizedMet enc Tryd.prog Tryd.f4 (OpenSpec.ofChange Rows.eventFieldsSpec) false w args)
      (Rows.eventFieldsSpec.post enc Tryd.prog Tryd.f4 false true false false) := by
  refine returnsInHanded_of_change_and (C := Tryd.checked) (X := fun w _ => laidMetH Tryd.prog Rows.eventFieldsRow.laid w) (fun _ _ _ hh h => h.of_heap hh) ownF started (by kernel_rfl) Tryd.func4
    (ChangeSpec.witness_shaped (enc := enc) (C := Tryd.checked) (os := os) (X := fun w _ => laidMetH Tryd.prog Rows.eventFieldsRow.laid w) false (World.laidAll Tryd.prog os Rows.eventFieldsRow.laid) #[.int .u8 0, .agg #[.int .i64 0, .int .i64 0, .int .i64 0, .int .i64 0, .int .i64 0], .agg #[.int .i64 0, .int .i64 0, .int .i64 0, .int .i64 0, .int .i64 0, .int .i64 0, .slice none 0 0]] 8 (World.laidAll_os _ _ _)
      (World.shaped_of_ZipB (by kernel_rfl) (by kernel_rfl)) (by kernel_rfl) (by kernel_rfl) (by kernel_rfl)
      (by rw [MakeChecks.laidMetH_plain _ _ _ (by kernel_rfl)]; exact laidMet_laidAll _ (by kernel_rfl) (by kernel_rfl))) ?_
  intro W base args ds gs before hval0 hW _ _ hL _
  have hval : ∀ (j : Nat) t v, Tryd.f4.params[j]? = some t → args[j]? = some v → Value.okWide Tryd.prog W .any base t v := hval0
  have hW' := hW
  obtain ⟨p, q, hA0, hV, rfl, _, _⟩ := hW
  have hA : DataW.TrodAll enc Tryd.prog W 0 (fun _ => true) true Tryd.f4.params.toList args.toList ds p := hA0
  rw [Tryd.params4] at hA hval
  obtain ⟨v0, v1, v2, d0, d1, d2, p0, p1, p2, rfl, rfl, rfl, h0, h1, h2⟩ := trodAll_three hA
  obtain ⟨rfl, rfl⟩ := trodVars_none hV
  obtain ⟨kv, rfl, rfl, rfl, wk⟩ := open_int Tryd.underlying5 (hval 0 5 v0 rfl rfl) h0
  obtain ⟨c1, rfl⟩ := okWide_array Tryd.underlying34 (hval 1 34 v1 rfl rfl)
  obtain ⟨c2, rfl, _⟩ := okWide_struct Tryd.underlying25 (hval 2 25 v2 rfl rfl)
  clear hA0 hval0
  simp only [List.append_nil, List.nil_append] at hW'
  have hlt1 : ∀ x ∈ p1, x.block < W.heap.size := fun x hx => by simpa using hW'.lt x (by simp [hx])
  have hlt2 : ∀ x ∈ p2, x.block < W.heap.size := fun x hx => by simpa using hW'.lt x (by simp [hx])
  rw [MakeChecks.laidMetH_plain _ _ _ (by kernel_rfl)] at hL
  obtain ⟨fuel1, hf1⟩ := h1
  have hf1' : DataW.trod enc Tryd.prog W 0 (fun _ => true) true fuel1 34 c1.toList = some (d1, p1) := hf1
  obtain ⟨fuel2, hf2⟩ := h2
  have hf2' : DataW.trod enc Tryd.prog W 0 (fun _ => true) true fuel2 25 c2.toList = some (d2, p2) := hf2
  obtain ⟨a, b, c, d, e, hc1, wa, wb, wc, wd, we⟩ := five_of hf1'
  obtain ⟨g, lt, hg, F, hvals⟩ := item_of hf2' (lit8 wk).1 (lit8 wk).2 wa wb wc wd we
  have e1 : c1 = #[.int .i64 a, .int .i64 b, .int .i64 c, .int .i64 d, .int .i64 e] := Array.toList_inj.1 hc1
  have hl := lawF (laid_metF W hL) hg F
  have e2 : (⟨fVals g kv e lt⟩ : Array Value) = #[.int .u8 kv, .agg c1, .agg c2] := by
    rw [← hvals, e1]
  rw [FldC, e2] at hl
  refine hl.mono fun e W' ⟨he, hb⟩ => ?_
  subst he
  have hargs1 := Below.trod (by kernel_rfl) (by kernel_rfl) (of_decide_eq_true (by kernel_rfl)) (⟨fuel1, hf1⟩ : DataW.Trod enc Tryd.prog W 0 (fun _ => true) true 34 (.agg c1) d1 p1) hb hlt1
  have hargs2 := Below.trod (by kernel_rfl) (by kernel_rfl) (of_decide_eq_true (by kernel_rfl)) (⟨fuel2, hf2⟩ : DataW.Trod enc Tryd.prog W 0 (fun _ => true) true 25 (.agg c2) d2 p2) hb hlt2
  exact ⟨_, rfl, _, _, _, [], p1 ++ p2, [], hW', trodAll_mk1 (shut_bool Tryd.underlying4 _), trodAll_mk3 (shut_int Tryd.underlying5 wk) hargs1 hargs2, rfl, hb.frame _, fun h => by cases h⟩
theorem overF : Rows.eventFieldsRow.holds Tryd.pinned (OpenSpec.ofChange Rows.eventFieldsSpec) :=
  OpenClaim.holds_of_wide 4 Tryd.f4 rfl rfl rfl rfl rfl rfl rfl ⟨rfl, rfl, rfl, rfl, rfl⟩ rfl rfl rfl rfl rfl (by kernel_rfl) Tryd.func4 (by kernel_rfl)
    (of_decide_eq_true (by kernel_rfl)) (by unfold Func.isWrapper; first | (rw [if_pos (by decide +kernel)]; kernel_rfl) | (rw [if_neg (by decide +kernel)]; exact ⟨rfl, rfl⟩))
    (fun os started H enc _ => liftedF os started H enc)
theorem provedFields : Rows.EventFieldsCardSaid :=
  Claim7.holds_tied_plain_at .later [] [.data, .data, .data] true (true, "829b81921f811046a2d3dc589098947028bc2beeac30a3839e75934f612c0189") false overF (fun _ h => by cases h) (by kernel_rfl) (fun _ h => by cases h) eventFields_row_tie rfl ⟨rfl, rfl⟩ (by kernel_rfl) rfl
    (fun f fn hf hfn => by
      obtain rfl : f = 4 := Option.some.inj ((show Tryd.prog.funcNamed "trefoil/trefoillaw11.EventFields" = some 4 by kernel_rfl).symm.trans hf) |>.symm
      obtain rfl : fn = Tryd.f4 := (Option.some.inj (Tryd.func4.symm.trans hfn)).symm
      exact ⟨by kernel_rfl, fun j t ht => by
        rw [Tryd.params4] at ht
        have hm : t ∈ [5, 34, 25] := by simpa using Array.mem_of_getElem? ht
        have hall : ([5, 34, 25].all fun u => !Tryd.prog.wantsStandIn u) = true := by kernel_rfl
        exact (show Tryd.prog.wantsStandIn t = false by simpa using List.all_eq_true.1 hall t hm)⟩)
    (by kernel_rfl)
end Go.Proofs.YtjfbakhebdhbmaaDoor.event
