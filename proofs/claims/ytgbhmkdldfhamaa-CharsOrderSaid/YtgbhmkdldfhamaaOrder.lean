/-
  'CharsOrder': of any list of small numbers (its first ten are cards of the small pool, of two players, with effects), and any swaps of places on the field (the first thirty): what each beast is, and what acts on it, is the same in both orders. No condition.
-/
import Derived.Test.YtgbhmkdldfhamaaRows
import Derived.Test.YtgbhmkdldfhamaaTxH
import Derived.Test.YtgbhmkdldfhamaaTxJ
import Derived.WalkKit
import Derived.ProofKit
import Derived.OpenShut
import Derived.Deep.Slices
namespace Go.Proofs.Ytgbhmkdldfhamaa.order
open Go.Ev Go.RowKit Go.ChangeShapes Go.WideShapes Go.ChangeAt
set_option linter.unusedVariables false
noncomputable section
set_option maxRecDepth 100000 in
theorem lifted (os : Os) (started : os.Started) (H : Type) (enc : TypeId × Value → H) :
    ReturnsInHanded {} Try.checked os 4 .any (Ytgbhmkdldfhamaa.Rows.charsOrderSpec.pre6 enc Try.prog Try.f4 Ytgbhmkdldfhamaa.Rows.charsOrderRow.domain false) (Ytgbhmkdldfhamaa.Rows.charsOrderSpec.post enc Try.prog Try.f4 false true false false) := by
  refine returnsInHanded_of_change (C := Try.checked) own started (by kernel_rfl) Try.func4
    (ChangeSpec.witness6 (enc := enc) (C := Try.checked) false ⟨#[], #[.slice none 0 0, .slice none 0 0], []⟩ 8 (by kernel_rfl) (by kernel_rfl) (by kernel_rfl) (by kernel_rfl)) ?_
  intro W base args ds gs before hval0 hW hcnd _
  have hval : ∀ (j : Nat) t v, Try.f4.params[j]? = some t → args[j]? = some v → Value.okWide Try.prog W .any base t v := hval0
  have hW' := hW
  obtain ⟨p, q, hA0, hV, rfl, hfz, hnd⟩ := hW
  have hA : DataW.TrodAll enc Try.prog W 0 (fun _ => true) true Try.f4.params.toList args.toList ds p := hA0
  rw [Try.params4] at hA hval
  obtain ⟨v0, v1, d0, d1, p0, p1, rfl, rfl, rfl, h0, h1⟩ := trodAll_two hA
  obtain ⟨rfl, rfl⟩ := trodVars_none hV
  obtain ⟨a0, len, cap, rfl⟩ := okWide_slice Try.underlying44 (hval 0 44 v0 rfl rfl)
  obtain ⟨a1, len1, cap1, rfl⟩ := okWide_slice Try.underlying44 (hval 1 44 v1 rfl rfl)
  clear hA0 hval0
  have hlt0 : ∀ x ∈ p0, x.block < W.heap.size := fun x hx => by simpa using hW'.lt x (by simp [hx])
  have hlt1 : ∀ x ∈ p1, x.block < W.heap.size := fun x hx => by simpa using hW'.lt x (by simp [hx])
  simp only [List.append_nil] at hW'
  obtain ⟨fuel, hf⟩ := h0
  obtain ⟨fuel1, hf1⟩ := h1
  have hf' : DataW.trod enc Try.prog W 0 (fun _ => true) true fuel 44 [.slice a0 len cap] = some (d0, p0) := hf
  have hf1' : DataW.trod enc Try.prog W 0 (fun _ => true) true fuel1 44 [.slice a1 len1 cap1] = some (d1, p1) := hf1
  obtain ⟨g, hg, hv⟩ := bytes_of hf'
  obtain ⟨s, hs, hv1⟩ := bytes_of hf1'
  have hl := order_calls hg hs
  rw [← hv, ← hv1] at hl
  refine hl.mono fun e W' ⟨he, hb⟩ => ?_
  subst he
  have hargs0 := Below.trod (by kernel_rfl) (by kernel_rfl) (of_decide_eq_true (by kernel_rfl)) (⟨fuel, hf⟩ : DataW.Trod enc Try.prog W 0 (fun _ => true) true 44 (.slice a0 len cap) d0 p0) hb hlt0
  have hargs1 := Below.trod (by kernel_rfl) (by kernel_rfl) (of_decide_eq_true (by kernel_rfl)) (⟨fuel1, hf1⟩ : DataW.Trod enc Try.prog W 0 (fun _ => true) true 44 (.slice a1 len1 cap1) d1 p1) hb hlt1
  exact ⟨_, rfl, _, _, _, [], p0 ++ p1, [], hW', trodAll_mk1 (shut_bool Try.underlying4 _), trodAll_mk2 hargs0 hargs1, rfl, hb.frame _, fun h => by cases h⟩
theorem over : Ytgbhmkdldfhamaa.Rows.charsOrderRow.holds Ytgbhmkdldfhamaa.Try.pinned (OpenSpec.ofChange Ytgbhmkdldfhamaa.Rows.charsOrderSpec) :=
  OpenClaim.holds_of_wide 4 Try.f4 rfl rfl rfl rfl rfl rfl rfl ⟨rfl, rfl, rfl, rfl, rfl⟩ rfl rfl rfl rfl rfl (by kernel_rfl) Try.func4 (by kernel_rfl)
    (of_decide_eq_true (by kernel_rfl)) (by unfold Func.isWrapper; first | (rw [if_pos (by decide +kernel)]; kernel_rfl) | (rw [if_neg (by decide +kernel)]; exact ⟨rfl, rfl⟩))
    (fun os started H enc _ => lifted os started H enc)
theorem proved : Ytgbhmkdldfhamaa.Rows.CharsOrderSaid := over
end
end Go.Proofs.Ytgbhmkdldfhamaa.order
