/-
  'CharsSplit': of any effects of small numbers (the first twenty of the list that comes in), and of any place where they are parted: folded in two parts, one behind the other, they come to the same. No condition.
-/
import Derived.Test.YtgbhmkdldfhamaaRows
import Derived.Test.YtgbhmkdldfhamaaTxD
import Derived.WalkKit
import Derived.ProofKit
import Derived.OpenShut
import Derived.Deep.Slices
namespace Go.Proofs.Ytgbhmkdldfhamaa.split
open Go.Ev Go.RowKit Go.ChangeShapes Go.WideShapes Go.ChangeAt
set_option linter.unusedVariables false
noncomputable section
theorem own : ownKnob Try.prog.godebug = none := by kernel_rfl
section
variable {H : Type} {enc : TypeId × Value → H} {w : World} {base : Nat} {sp : Nat → Bool} {held : Bool}
theorem cell_lt {a : Addr} {v : Value} (h : w.cell? a = some v) : a.block < w.heap.size ∧ a.spot = none := by
  refine ⟨?_, World.cell?_spot h⟩
  unfold World.cell? at h
  split at h
  · rename_i he
    exact (Array.getElem?_eq_some_iff.1 he).1
  · cases h
theorem litu16 {x : Int} (h : (Lit.int .u16 x).wf = true) : 0 ≤ x ∧ x ≤ 65535 := by
  simpa [Lit.wf, IntKind.min, IntKind.max, IntKind.signed, IntKind.bits] using h
theorem litu8 {x : Int} (h : (Lit.int .u8 x).wf = true) : 0 ≤ x ∧ x ≤ 255 := by
  simpa [Lit.wf, IntKind.min, IntKind.max, IntKind.signed, IntKind.bits] using h
theorem max_len : maxLen ≤ 9223372036854775807 := by decide
/-- A slice of numbers that came in. -/
theorem nums_of {n : Nat} {v : Value} {y : DataW H × List MemPlace} (h : DataW.trod enc Try.prog w base sp held n 61 [v] = some y) (at_ : Int) (h0 : 0 ≤ at_ ∧ at_ ≤ 255) :
    ∃ g : LaIn, g.OK w ∧ v = .slice g.oa g.L.length g.ca ∧ g.at_ = at_ := by
  have hm := max_len
  rcases Go.Deep.open_slice1 Try.underlying61 (by kernel_rfl) h with ⟨hcs, _⟩ | ⟨a, len, cap, m, n', V, D, Pl, hcs, _, hl, hc, hmm, _, hall⟩
  · simp only [List.cons.injEq, and_true] at hcs
    subst hcs
    exact ⟨⟨[], none, 0, 0, 0, at_⟩, ⟨by simp, (fun z hz => by cases hz), (fun i x hi => by simp at hi), h0.1, h0.2⟩, rfl, rfl⟩
  · simp only [List.cons.injEq, and_true] at hcs
    subst hcs
    have hlm : len ≤ m := by rw [hmm]; split <;> omega
    have each : ∀ j, ∃ z : Int, j < len → w.cell? (a.add j) = some (.int .u16 z) ∧ 0 ≤ z ∧ z ≤ 65535 := fun j => by
      by_cases hj : j < len
      · obtain ⟨h1, h2⟩ := hall j (by omega)
        obtain ⟨z, e, _, hw⟩ := DataW.trod_int Try.underlying62 h2
        simp only [List.cons.injEq, and_true] at e
        rw [e] at h1
        exact ⟨z, fun _ => ⟨h1, litu16 hw⟩⟩
      · exact ⟨0, fun h => absurd h hj⟩
    obtain ⟨f, hf⟩ := Classical.skolem.1 each
    refine ⟨⟨(List.range len).map f, some a, cap, a.block, a.off, at_⟩, ⟨by simp; omega, fun z hz => ?_, fun j x hx => ?_, h0.1, h0.2⟩, by simp, rfl⟩
    · simp only [List.mem_map, List.mem_range] at hz
      obtain ⟨j, hj, rfl⟩ := hz
      exact (hf j hj).2
    · have hx' : ((List.range len).map f)[j]? = some x := hx
      have hj : j < len := by
        have := (List.getElem?_eq_some_iff.1 hx').1
        simpa using this
      have ex : x = f j := by
        rw [List.getElem?_map, List.getElem?_range hj] at hx'
        exact (Option.some.inj hx').symm
      obtain ⟨g1, g2⟩ := hf j hj
      obtain ⟨k1, k2⟩ := cell_lt (hf 0 (by omega)).1
      obtain ⟨B, O, spot⟩ := a
      have hspot : spot = none := by simpa [Addr.add] using k2
      subst hspot
      refine ⟨rfl, by simpa [Addr.add] using k1, ?_⟩
      rw [Addr.add_lit] at g1
      rw [ex]
      exact g1
end
set_option maxRecDepth 100000 in
theorem lifted (os : Os) (started : os.Started) (H : Type) (enc : TypeId × Value → H) :
    ReturnsInHanded {} Try.checked os 7 .any (Ytgbhmkdldfhamaa.Rows.charsSplitSpec.pre6 enc Try.prog Try.f7 Ytgbhmkdldfhamaa.Rows.charsSplitRow.domain false) (Ytgbhmkdldfhamaa.Rows.charsSplitSpec.post enc Try.prog Try.f7 false true false false) := by
  refine returnsInHanded_of_change (C := Try.checked) own started (by kernel_rfl) Try.func7
    (ChangeSpec.witness6 (enc := enc) (C := Try.checked) false ⟨#[], #[.slice none 0 0, .int .u8 0], []⟩ 8 (by kernel_rfl) (by kernel_rfl) (by kernel_rfl) (by kernel_rfl)) ?_
  intro W base args ds gs before hval0 hW hcnd _
  have hval : ∀ (j : Nat) t v, Try.f7.params[j]? = some t → args[j]? = some v → Value.okWide Try.prog W .any base t v := hval0
  have hW' := hW
  obtain ⟨p, q, hA0, hV, rfl, hfz, hnd⟩ := hW
  have hA : DataW.TrodAll enc Try.prog W 0 (fun _ => true) true Try.f7.params.toList args.toList ds p := hA0
  rw [Try.params7] at hA hval
  obtain ⟨v0, v1, d0, d1, p0, p1, rfl, rfl, rfl, h0, h1⟩ := trodAll_two hA
  obtain ⟨rfl, rfl⟩ := trodVars_none hV
  obtain ⟨n, rfl, rfl, rfl, wn⟩ := open_int Try.underlying5 (hval 1 5 v1 rfl rfl) h1
  obtain ⟨a0, len, cap, rfl⟩ := okWide_slice Try.underlying61 (hval 0 61 v0 rfl rfl)
  clear hA0 hval0
  have hlt : ∀ x ∈ p0, x.block < W.heap.size := fun x hx => by simpa using hW'.lt x (by simp [hx])
  simp only [List.append_nil] at hW'
  obtain ⟨fuel, hf⟩ := h0
  have hf' : DataW.trod enc Try.prog W 0 (fun _ => true) true fuel 61 [.slice a0 len cap] = some (d0, p0) := hf
  obtain ⟨g, hg, hv, hat⟩ := nums_of hf' n (litu8 wn)
  have hl := law_calls hg
  rw [← hv, hat] at hl
  refine hl.mono fun e W' ⟨he, hb⟩ => ?_
  subst he
  have hargs := Below.trod (by kernel_rfl) (by kernel_rfl) (of_decide_eq_true (by kernel_rfl)) (⟨fuel, hf⟩ : DataW.Trod enc Try.prog W 0 (fun _ => true) true 61 (.slice a0 len cap) d0 p0) hb hlt
  exact ⟨_, rfl, _, _, _, [], p0 ++ [], [], hW', trodAll_mk1 (shut_bool Try.underlying4 _), trodAll_mk2 hargs (shut_int Try.underlying5 wn), rfl, hb.frame _, fun h => by cases h⟩
theorem over : Ytgbhmkdldfhamaa.Rows.charsSplitRow.holds Ytgbhmkdldfhamaa.Try.pinned (OpenSpec.ofChange Ytgbhmkdldfhamaa.Rows.charsSplitSpec) :=
  OpenClaim.holds_of_wide 7 Try.f7 rfl rfl rfl rfl rfl rfl rfl ⟨rfl, rfl, rfl, rfl, rfl⟩ rfl rfl rfl rfl rfl (by kernel_rfl) Try.func7 (by kernel_rfl)
    (of_decide_eq_true (by kernel_rfl)) (by unfold Func.isWrapper; first | (rw [if_pos (by decide +kernel)]; kernel_rfl) | (rw [if_neg (by decide +kernel)]; exact ⟨rfl, rfl⟩))
    (fun os started H enc _ => lifted os started H enc)
theorem proved : Ytgbhmkdldfhamaa.Rows.CharsSplitSaid := over
end
end Go.Proofs.Ytgbhmkdldfhamaa.split
