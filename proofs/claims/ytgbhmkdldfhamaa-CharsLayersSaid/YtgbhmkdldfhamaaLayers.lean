/-
  'CharsLayers': of any list of small numbers (its first ten are cards of the small pool, of two players, with effects): what acts on each of them is told layer by layer, in each by stamp; its numbers are what the effects, one behind the other, make of them. No condition.
-/
import Derived.Test.YtgbhmkdldfhamaaRows
import Derived.Test.YtgbhmkdldfhamaaTxH
import Derived.WalkKit
import Derived.ProofKit
import Derived.OpenShut
import Derived.Deep.Slices
namespace Go.Proofs.Ytgbhmkdldfhamaa.layers
open Go.Ev Go.RowKit Go.ChangeShapes Go.WideShapes Go.ChangeAt
set_option linter.unusedVariables false
noncomputable section
set_option maxRecDepth 100000 in
theorem lifted (os : Os) (started : os.Started) (H : Type) (enc : TypeId × Value → H) :
    ReturnsInHanded {} Try.checked os 5 .any (Ytgbhmkdldfhamaa.Rows.charsLayersSpec.pre6 enc Try.prog Try.f5 Ytgbhmkdldfhamaa.Rows.charsLayersRow.domain false) (Ytgbhmkdldfhamaa.Rows.charsLayersSpec.post enc Try.prog Try.f5 false true false false) := by
  refine returnsInHanded_of_change (C := Try.checked) own started (by kernel_rfl) Try.func5
    (ChangeSpec.witness6 (enc := enc) (C := Try.checked) false ⟨#[], #[.slice none 0 0], []⟩ 8 (by kernel_rfl) (by kernel_rfl) (by kernel_rfl) (by kernel_rfl)) ?_
  intro W base args ds gs before hval0 hW hcnd _
  have hval : ∀ (j : Nat) t v, Try.f5.params[j]? = some t → args[j]? = some v → Value.okWide Try.prog W .any base t v := hval0
  have hW' := hW
  obtain ⟨p, q, hA0, hV, rfl, hfz, hnd⟩ := hW
  have hA : DataW.TrodAll enc Try.prog W 0 (fun _ => true) true Try.f5.params.toList args.toList ds p := hA0
  rw [Try.params5] at hA hval
  obtain ⟨v0, d0, rfl, rfl, h0⟩ := trodAll_one hA
  obtain ⟨rfl, rfl⟩ := trodVars_none hV
  obtain ⟨a0, len, cap, rfl⟩ := okWide_slice Try.underlying44 (hval 0 44 v0 rfl rfl)
  clear hA0 hval0
  have hlt : ∀ x ∈ p, x.block < W.heap.size := fun x hx => by simpa using hW'.lt x (by simp [hx])
  simp only [List.append_nil] at hW'
  obtain ⟨fuel, hf⟩ := h0
  have hf' : DataW.trod enc Try.prog W 0 (fun _ => true) true fuel 44 [.slice a0 len cap] = some (d0, p) := hf
  obtain ⟨g, hg, hv⟩ := bytes_of hf'
  have hl := layers_calls hg
  rw [← hv] at hl
  refine hl.mono fun e W' ⟨he, hb⟩ => ?_
  subst he
  have hargs := Below.trod (by kernel_rfl) (by kernel_rfl) (of_decide_eq_true (by kernel_rfl)) (⟨fuel, hf⟩ : DataW.Trod enc Try.prog W 0 (fun _ => true) true 44 (.slice a0 len cap) d0 p) hb hlt
  exact ⟨_, rfl, _, _, _, [], p, [], hW', trodAll_mk1 (shut_bool Try.underlying4 _), trodAll_mk1 hargs, rfl, hb.frame _, fun h => by cases h⟩
theorem over : Ytgbhmkdldfhamaa.Rows.charsLayersRow.holds Ytgbhmkdldfhamaa.Try.pinned (OpenSpec.ofChange Ytgbhmkdldfhamaa.Rows.charsLayersSpec) :=
  OpenClaim.holds_of_wide 5 Try.f5 rfl rfl rfl rfl rfl rfl rfl ⟨rfl, rfl, rfl, rfl, rfl⟩ rfl rfl rfl rfl rfl (by kernel_rfl) Try.func5 (by kernel_rfl)
    (of_decide_eq_true (by kernel_rfl)) (by unfold Func.isWrapper; first | (rw [if_pos (by decide +kernel)]; kernel_rfl) | (rw [if_neg (by decide +kernel)]; exact ⟨rfl, rfl⟩))
    (fun os started H enc _ => lifted os started H enc)
theorem proved : Ytgbhmkdldfhamaa.Rows.CharsLayersSaid := over
end
end Go.Proofs.Ytgbhmkdldfhamaa.layers
