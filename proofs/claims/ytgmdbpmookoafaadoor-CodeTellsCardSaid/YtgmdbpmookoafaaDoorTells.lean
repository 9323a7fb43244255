/-
  'CodeTells': of any code (its first forty instructions), at any place: where it may go on, and its text, are as the document says. The condition: the listed tables hold what the row lists (the chapter's rows, that each statement asks, and the library's decimals look into them); the card ties that to the program's text.
-/
import Derived.Test.YtgmdbpmookoafaaDoorTxY
import Derived.Test.YtgmdbpmookoafaaDoorRows
import Derived.Test.YtgmdbpmookoafaaDoorTie
import Derived.Test.YtgmdbpmookoafaaDoorCards
import Derived.WalkKit
import Derived.ProofKit
import Derived.OpenShut
import Derived.Carry
import Derived.Deep.Slices
import Derived.Lay
import Derived.MakeChecks
import Derived.SevenTiedAt
namespace Go.Proofs.YtgmdbpmookoafaaDoor.tells
open Go.ChangeShapes Go.WideShapes Go.ChangeAt Go.RowKit Go.Proofs.YtgmdbpmookoafaaDoor.text
set_option linter.unusedVariables false
theorem own : ownKnob Tryd.prog.godebug = none := by kernel_rfl
theorem lstTake {w : World} {oa : Option Addr} {B O : Nat} {xs : List Ins} (h : Lst w oa B O xs) (m : Nat) : Lst w oa B O (xs.take m) := by
  refine ⟨fun i x hi => h.cells i x ?_, fun x hx => h.fits x (List.mem_of_mem_take hx)⟩
  rw [List.getElem?_take] at hi
  split at hi
  · exact hi
  · cases hi
theorem law {w : World} (hT : Go.Ev.TabsOK tabs w) {oa : Option Addr} {ca Ba Oa : Nat} {xs : List Ins} {p : Int} (ha : Lst w oa Ba Oa xs) (na : (xs.length : Int) ≤ 9223372036854775807) (ka : xs.length ≤ ca) (hp : I64 p) :
    Calls Tryd.prog 4 #[.slice oa xs.length ca, .int .i64 p] w fun e w' => e = .returned (.bool true) ∧ Below w.heap.size w w' :=
  lawW (g := ⟨oa, ca, xs.length, Ba, Oa, xs.take 40, p⟩) hT ⟨lstTake ha 40, by show (xs.take 40).length = _; rw [List.length_take, Nat.min_comm], na, ka, hp⟩
/-! ### what an argument holds -/
theorem lit64 {x : Int} (h : (Lit.int .i64 x).wf = true) : I64 x := by
  have h' : -9223372036854775808 ≤ x ∧ x ≤ 9223372036854775807 := by simpa [Lit.wf, IntKind.min, IntKind.max, IntKind.signed, IntKind.bits] using h
  exact h'
set_option maxRecDepth 100000 in
theorem ins_of {H : Type} {enc : TypeId × Value → H} {w : World} {base : Nat} {sp : Nat → Bool} {held : Bool} {fuel : Nat} {cs : List Value} {y : DataW H × List MemPlace} (h : DataW.trod enc Tryd.prog w base sp held fuel 34 cs = some y) :
    ∃ x : Ins, cs = [.int .i64 x.1, .int .i64 x.2.1, .int .i64 x.2.2] ∧ I64 x.1 ∧ I64 x.2.1 ∧ I64 x.2.2 := by
  obtain ⟨xs, n, rfl, hx, hl, hxl, hall⟩ := DataW.trod_struct Tryd.underlying34 h
  have hc3 : Tryd.prog.cellsOf 3 = 1 := by kernel_rfl
  have hc34 : Tryd.prog.cellsOf 34 = 3 := by kernel_rfl
  rw [hc34] at hl
  match cs, hl with
  | [a, b, c], _ =>
    have h0 : DataW.trod enc Tryd.prog w base sp held n 3 (([a, b, c].drop 0).take (Tryd.prog.cellsOf 3)) = xs[0]? := hall 0 _ rfl
    have h1 : DataW.trod enc Tryd.prog w base sp held n 3 (([a, b, c].drop 1).take (Tryd.prog.cellsOf 3)) = xs[1]? := hall 1 _ rfl
    have h2 : DataW.trod enc Tryd.prog w base sp held n 3 (([a, b, c].drop 2).take (Tryd.prog.cellsOf 3)) = xs[2]? := hall 2 _ rfl
    rw [hc3] at h0 h1 h2
    simp only [List.take_succ_cons, List.take_zero, List.drop_succ_cons, List.drop_zero] at h0 h1 h2
    have hlen : xs.length = 3 := hxl
    match xs, hlen with
    | [x0, x1, x2], _ =>
      simp only [List.getElem?_cons_zero, List.getElem?_cons_succ] at h0 h1 h2
      obtain ⟨a', e0, _, w0⟩ := DataW.trod_int Tryd.underlying3 h0
      obtain ⟨b', e1, _, w1⟩ := DataW.trod_int Tryd.underlying3 h1
      obtain ⟨c', e2, _, w2⟩ := DataW.trod_int Tryd.underlying3 h2
      simp only [List.cons.injEq, and_true] at e0 e1 e2
      subst e0 e1 e2
      exact ⟨(a', b', c'), rfl, lit64 w0, lit64 w1, lit64 w2⟩
theorem choose_ins {p : Nat → Ins → Prop} : ∀ {n : Nat}, (∀ i, i < n → ∃ x, p i x) → ∃ xs : List Ins, xs.length = n ∧ ∀ i x, xs[i]? = some x → p i x
  | 0, _ => ⟨[], rfl, fun i x h => by simp at h⟩
  | n + 1, h => by
    obtain ⟨xs, h1, h2⟩ := choose_ins (n := n) fun i hi => h i (by omega)
    obtain ⟨x, hx⟩ := h n (by omega)
    refine ⟨xs ++ [x], by simp [h1], fun i y hy => ?_⟩
    rw [List.getElem?_append] at hy
    split at hy
    · exact h2 i y hy
    · rename_i hi
      have : i = n := by
        have := (List.getElem?_eq_some_iff.1 hy).1
        simp at this
        omega
      subst this
      rw [h1] at hy
      simp at hy
      subst hy
      exact hx
set_option maxRecDepth 100000 in
theorem lst_of {H : Type} {enc : TypeId × Value → H} {w : World} {sp : Nat → Bool} {held : Bool} {r : Reach} {b0 : Nat} {v : Value} {d : DataW H} {ps : List MemPlace} (hval : Value.okWide Tryd.prog w r b0 22 v) (h : DataW.Trod enc Tryd.prog w 0 sp held 22 v d ps) :
    ∃ oa cap B O, ∃ xs : List Ins, v = .slice oa xs.length cap ∧ Lst w oa B O xs ∧ xs.length ≤ cap ∧ (xs.length : Int) ≤ 9223372036854775807 := by
  obtain ⟨a0, len, cap, rfl⟩ := okWide_slice Tryd.underlying22 hval
  obtain ⟨fuel, hf⟩ := h
  have hc34 : Tryd.prog.cellsOf 34 = 3 := by kernel_rfl
  rcases Go.Deep.open_slice Tryd.underlying22 hf with ⟨hcs, _⟩ | ⟨a, len', cap', m, n, D, Pl, hcs, _, hl, hm, hmm, _, hall⟩
  · simp only [Value.cells, List.cons.injEq, Value.slice.injEq, and_true] at hcs
    obtain ⟨rfl, rfl, rfl⟩ := hcs
    exact ⟨none, 0, 0, 0, [], rfl, ⟨fun i x hi => by simp at hi, fun x hx => by cases hx⟩, Nat.le_refl _, by simp⟩
  · simp only [Value.cells, List.cons.injEq, Value.slice.injEq, and_true] at hcs
    obtain ⟨rfl, rfl, rfl⟩ := hcs
    have hlm : len ≤ m := by rw [hmm]; split <;> omega
    rw [hc34] at hall
    have each : ∀ i, i < len → ∃ x : Ins, (w.cell? (a.add (i * 3)) = some (.int .i64 x.1) ∧ w.cell? ((a.add (i * 3)).add 1) = some (.int .i64 x.2.1) ∧ w.cell? ((a.add (i * 3)).add 2) = some (.int .i64 x.2.2)) ∧ I64 x.1 ∧ I64 x.2.1 ∧ I64 x.2.2 := by
      intro i hi
      obtain ⟨cs', h1, h2⟩ := hall i (by omega)
      obtain ⟨x, rfl, hx⟩ := ins_of h2
      obtain ⟨_, _, hcell⟩ := World.cells?_some h1
      refine ⟨x, ⟨?_, hcell 1 (by omega), hcell 2 (by omega)⟩, hx⟩
      have := hcell 0 (by omega)
      simpa [Addr.add] using this
    obtain ⟨xs, hx1, hx2⟩ := choose_ins each
    have hbig : (xs.length : Int) ≤ 9223372036854775807 := by
      have : cap ≤ maxLen := hm
      have e : maxLen ≤ 9223372036854775807 := by decide
      omega
    cases xs with
    | nil =>
      have : len = 0 := by simpa using hx1.symm
      subst this
      exact ⟨some a, cap, 0, 0, [], rfl, ⟨fun i x hi => by simp at hi, fun x hx => by cases hx⟩, hl, hbig⟩
    | cons x0 xs' =>
      have h00 := (hx2 0 x0 rfl).1.1
      obtain ⟨B, O, spot⟩ := a
      have hspot : spot = none := by simpa [Addr.add] using World.cell?_spot h00
      subst hspot
      refine ⟨some ⟨B, O, none⟩, cap, B, O, x0 :: xs', by rw [hx1], ⟨fun i x hi => ?_, fun x hx => ?_⟩, by omega, hbig⟩
      · obtain ⟨⟨g1, g2, g3⟩, _⟩ := hx2 i x hi
        rw [Addr.add_lit] at g1 g2 g3
        rw [Addr.add_lit] at g2 g3
        refine ⟨rfl, ?_, g1, g2, g3⟩
        unfold World.cell? at g1
        split at g1
        · rename_i he
          exact (Array.getElem?_eq_some_iff.1 he).1
        · cases g1
      · obtain ⟨i, hi⟩ := List.getElem?_of_mem hx
        exact (hx2 i x hi).2
theorem laid_met (W : World) (hL : laidMet Tryd.prog Rows.codeTellsRow.laid W) : Go.Ev.TabsOK tabs W :=
  Go.Ev.tabsOK_cons (Go.Ev.tab_of_reads (k := .u8) (zs := nums0) (Go.Lib.laidMet.reads hL (n := "math/bits.deBruijn32tab") (d := Rows.laid_math_bits_deBruijn32tab) (.head _)) (g := 1) (t := 109) (e := 5) (m := 32) (by kernel_rfl) (by kernel_rfl) (by kernel_rfl) (by kernel_rfl) (by kernel_rfl) (by kernel_rfl))
    (Go.Ev.tabsOK_cons (Go.Ev.tab_of_reads (k := .u8) (zs := nums1) (Go.Lib.laidMet.reads hL (n := "math/bits.deBruijn64tab") (d := Rows.laid_math_bits_deBruijn64tab) (.tail _ (.head _))) (g := 2) (t := 110) (e := 5) (m := 64) (by kernel_rfl) (by kernel_rfl) (by kernel_rfl) (by kernel_rfl) (by kernel_rfl) (by kernel_rfl))
    (Go.Ev.tabsOK_cons (Go.Ev.tab_of_reads (k := .u64) (zs := nums2) (Go.Lib.laidMet.reads hL (n := "internal/strconv.uint64pow10") (d := Rows.laid_internal_strconv_uint64pow10) (.tail _ (.tail _ (.head _)))) (g := 0) (t := 107) (e := 87) (m := 20) (by kernel_rfl) (by kernel_rfl) (by kernel_rfl) (by kernel_rfl) (by kernel_rfl) (by kernel_rfl))
    (Go.Ev.tabsOK_nil W)))
set_option maxRecDepth 100000 in
theorem lifted (os : Os) (started : os.Started) (H : Type) (enc : TypeId × Value → H) :
    ReturnsInHanded {} Tryd.checked os 4 .any (fun w args => (Rows.codeTellsSpec.pre enc Tryd.prog Tryd.f4 [] false w args ∧ laidMetH Tryd.prog Rows.codeTellsRow.laid w) ∧ sizedMet enc Tryd.prog Tryd.f4 (OpenSpec.ofChange Rows.codeTellsSpec) false w args)
      (Rows.codeTellsSpec.post enc Tryd.prog Tryd.f4 false true false false) := by
  refine returnsInHanded_of_change_and (C := Tryd.checked) (X := fun w _ => laidMetH Tryd.prog Rows.codeTellsRow.laid w) (fun _ _ _ hh h => h.of_heap hh) own started (by kernel_rfl) Tryd.func4
    (ChangeSpec.witness_shaped (enc := enc) (C := Tryd.checked) (os := os) (X := fun w _ => laidMetH Tryd.prog Rows.codeTellsRow.laid w) false (World.laidAll Tryd.prog os Rows.codeTellsRow.laid) #[.slice none 0 0, .int .i64 0] 8 (World.laidAll_os _ _ _)
      (World.shaped_of_ZipB (by kernel_rfl) (by kernel_rfl)) (by kernel_rfl) (by kernel_rfl) (by kernel_rfl)
      (by rw [MakeChecks.laidMetH_plain _ _ _ (by kernel_rfl)]; exact laidMet_laidAll _ (by kernel_rfl) (by kernel_rfl))) ?_
  intro W base args ds gs before hval0 hW _ _ hL _
  have hval : ∀ (j : Nat) t v, Tryd.f4.params[j]? = some t → args[j]? = some v → Value.okWide Tryd.prog W .any base t v := hval0
  have hW' := hW
  obtain ⟨p, q, hA0, hV, rfl, _, _⟩ := hW
  have hA : DataW.TrodAll enc Tryd.prog W 0 (fun _ => true) true Tryd.f4.params.toList args.toList ds p := hA0
  rw [Tryd.params4] at hA hval
  obtain ⟨v0, v1, d0, d1, p0, p1, rfl, rfl, rfl, h0, h1⟩ := trodAll_two hA
  obtain ⟨rfl, rfl⟩ := trodVars_none hV
  obtain ⟨oa, ca, Ba, Oa, xs, rfl, hxs, hca, hna⟩ := lst_of (hval 0 22 v0 rfl rfl) h0
  obtain ⟨p, rfl, rfl, rfl, wp⟩ := open_int Tryd.underlying3 (hval 1 3 v1 rfl rfl) h1
  have hlt : ∀ x ∈ p0, x.block < W.heap.size := fun x hx => by simpa using hW'.lt x (by simp [hx])
  simp only [List.append_nil] at hW'
  rw [MakeChecks.laidMetH_plain _ _ _ (by kernel_rfl)] at hL
  refine (law (laid_met W hL) hxs hna hca (lit64 wp)).mono fun e W' ⟨he, hb⟩ => ?_
  subst he
  have hargs := Below.trod (by kernel_rfl) (by kernel_rfl) (of_decide_eq_true (by kernel_rfl)) h0 hb hlt
  exact ⟨_, rfl, _, _, _, [], p0 ++ [], [], hW', trodAll_mk1 (shut_bool Tryd.underlying4 _), trodAll_mk2 hargs (shut_int Tryd.underlying3 wp), rfl, hb.frame _, fun h => by cases h⟩
theorem over : Rows.codeTellsRow.holds Tryd.pinned (OpenSpec.ofChange Rows.codeTellsSpec) :=
  OpenClaim.holds_of_wide 4 Tryd.f4 rfl rfl rfl rfl rfl rfl rfl ⟨rfl, rfl, rfl, rfl, rfl⟩ rfl rfl rfl rfl rfl (by kernel_rfl) Tryd.func4 (by kernel_rfl)
    (of_decide_eq_true (by kernel_rfl)) (by unfold Func.isWrapper; first | (rw [if_pos (by decide +kernel)]; kernel_rfl) | (rw [if_neg (by decide +kernel)]; exact ⟨rfl, rfl⟩))
    (fun os started H enc _ => lifted os started H enc)
theorem proved : Rows.CodeTellsCardSaid :=
  Claim7.holds_tied_plain_at .later [] [.data, .data, .data] true (true, "7abd0002bc4a667ec958eb1064d949b687c8540c000e41d455896065a9830dfe") false over (fun _ h => by cases h) (by kernel_rfl) (fun _ h => by cases h) codeTells_row_tie rfl ⟨rfl, rfl⟩ (by kernel_rfl) rfl
    (fun f fn hf hfn => by
      obtain rfl : f = 4 := Option.some.inj ((show Tryd.prog.funcNamed "trefoil/trefoillaw04.CodeTells" = some 4 by kernel_rfl).symm.trans hf) |>.symm
      obtain rfl : fn = Tryd.f4 := (Option.some.inj (Tryd.func4.symm.trans hfn)).symm
      exact ⟨by kernel_rfl, fun j t ht => by
        rw [Tryd.params4] at ht
        have hm : t ∈ [22, 3] := by simpa using Array.mem_of_getElem? ht
        have hall : ([22, 3].all fun u => !Tryd.prog.wantsStandIn u) = true := by kernel_rfl
        exact (show Tryd.prog.wantsStandIn t = false by simpa using List.all_eq_true.1 hall t hm)⟩)
    (by kernel_rfl)
end Go.Proofs.YtgmdbpmookoafaaDoor.tells
