/-
  'CharsOf' answers true, whatever the input: of all cards (the first twelve, five abilities each), states (the first twenty objects), and of each object on the field, and one more, the program and the document tell the same, and what acts on it is the same list. No condition.
-/
import Derived.Test.YtgbhmkdldfhamaaRows
import Derived.Test.YtgbhmkdldfhamaaEvT
import Derived.Test.YtgbhmkdldfhamaaTxM
import Derived.WalkKit
import Derived.ProofKit
import Derived.OpenShut
namespace Go.Proofs.Ytgbhmkdldfhamaa.charsOf
open Go.RowKit Go.ChangeShapes Go.WideShapes Go.ChangeAt
theorem ownT : ownKnob Try.prog.godebug = none := by kernel_rfl
theorem noNG : Go.Ev.noNGb Try.prog = true := by kernel_rfl
theorem ran15 : Go.Ev.runV Try.prog 20000 15 = true := by kernel_rfl
theorem walk15 (w : World) : Calls Try.prog 15 #[] w fun e w' => e = .returned (.bool true) ∧ Below w.heap.size w w' := Go.Ev.runV_calls (Go.Ev.noNG_of noNG) mixedT ran15 w
set_option maxRecDepth 100000 in
theorem lifted (os : Os) (started : os.Started) (H : Type) (enc : TypeId × Value → H) :
    ReturnsInHanded {} Try.checked os 3 .any (Ytgbhmkdldfhamaa.Rows.charsOfSpec.pre6 enc Try.prog Try.f3 Ytgbhmkdldfhamaa.Rows.charsOfRow.domain false) (Ytgbhmkdldfhamaa.Rows.charsOfSpec.post enc Try.prog Try.f3 false true false false) := by
  refine returnsInHanded_of_change (C := Try.checked) ownT started (by kernel_rfl) Try.func3
    (ChangeSpec.witness6 (enc := enc) (C := Try.checked) false ⟨#[], #[.slice none 0 0, .agg zS.arr, .int .i64 0], []⟩ 8 (by kernel_rfl) (by kernel_rfl) (by kernel_rfl) (by kernel_rfl)) ?_
  intro W base args ds gs before hval0 hW hcnd _
  have hval : ∀ (j : Nat) t v, Try.f3.params[j]? = some t → args[j]? = some v → Value.okWide Try.prog W .any base t v := hval0
  have hW' := hW
  obtain ⟨p, q, hA0, hV, rfl, hfz, hnd⟩ := hW
  have hA : DataW.TrodAll enc Try.prog W 0 (fun _ => true) true Try.f3.params.toList args.toList ds p := hA0
  rw [Try.params3] at hA hval
  obtain ⟨v0, v1, v2, d0, d1, d2, p0, p1, p2, rfl, rfl, rfl, h0, h1, h2⟩ := trodAll_three hA
  obtain ⟨rfl, rfl⟩ := trodVars_none hV
  obtain ⟨a0, len, cap, rfl⟩ := okWide_slice Try.underlying22 (hval 0 22 v0 rfl rfl)
  obtain ⟨cs1, rfl, _⟩ := okWide_struct Try.underlying32 (hval 1 32 v1 rfl rfl)
  obtain ⟨id, rfl⟩ := okWide_int Try.underlying3 (hval 2 3 v2 rfl rfl)
  clear hA0 hval0
  have hlt0 : ∀ x ∈ p0, x.block < W.heap.size := fun x hx => by simpa using hW'.lt x (by simp [hx])
  have hlt1 : ∀ x ∈ p1, x.block < W.heap.size := fun x hx => by simpa using hW'.lt x (by simp [hx])
  have hlt2 : ∀ x ∈ p2, x.block < W.heap.size := fun x hx => by simpa using hW'.lt x (by simp [hx])
  simp only [List.append_nil] at hW'
  have hW2 : DataW.Whole enc Try.checked.prog Try.f3.params.toList Ytgbhmkdldfhamaa.Rows.charsOfSpec.vars false W [Value.slice a0 len cap, Value.agg cs1, Value.int IntKind.i64 id] [d0, d1, d2] [] (p0 ++ (p1 ++ p2)) := by rw [← List.append_assoc]; exact hW'
  obtain ⟨fuel, hf⟩ := h0
  obtain ⟨fuel1, hf1⟩ := h1
  obtain ⟨fuel2, hf2⟩ := h2
  have hf' : DataW.trod enc Try.prog W 0 (fun _ => true) true fuel 22 [.slice a0 len cap] = some (d0, p0) := hf
  have hf1' : DataW.trod enc Try.prog W 0 (fun _ => true) true fuel1 32 cs1.toList = some (d1, p1) := hf1
  obtain ⟨cs, ca, cc, s, A, E, e0, e1, D⟩ := dr_of hf' hf1'
  have hl := charsOf_calls D cc id walk15
  rw [← e0, show s.arr = cs1 from by rw [← Array.toArray_toList (xs := cs1), e1, Array.toArray_toList]] at hl
  refine hl.mono fun e W' ⟨he, hb⟩ => ?_
  subst he
  have hargs0 := Below.trod (by kernel_rfl) (by kernel_rfl) (of_decide_eq_true (by kernel_rfl)) (⟨fuel, hf⟩ : DataW.Trod enc Try.prog W 0 (fun _ => true) true 22 (.slice a0 len cap) d0 p0) hb hlt0
  have hargs1 := Below.trod (by kernel_rfl) (by kernel_rfl) (of_decide_eq_true (by kernel_rfl)) (⟨fuel1, hf1⟩ : DataW.Trod enc Try.prog W 0 (fun _ => true) true 32 (.agg cs1) d1 p1) hb hlt1
  have hargs2 := Below.trod (by kernel_rfl) (by kernel_rfl) (of_decide_eq_true (by kernel_rfl)) (⟨fuel2, hf2⟩ : DataW.Trod enc Try.prog W 0 (fun _ => true) true 3 (.int .i64 id) d2 p2) hb hlt2
  exact ⟨_, rfl, _, _, _, [], p0 ++ (p1 ++ p2), [], hW2, trodAll_mk1 (shut_bool Try.underlying4 _), trodAll_mk3 hargs0 hargs1 hargs2, rfl, hb.frame _, fun h => by cases h⟩
theorem over : Ytgbhmkdldfhamaa.Rows.charsOfRow.holds Ytgbhmkdldfhamaa.Try.pinned (OpenSpec.ofChange Ytgbhmkdldfhamaa.Rows.charsOfSpec) :=
  OpenClaim.holds_of_wide 3 Try.f3 rfl rfl rfl rfl rfl rfl rfl ⟨rfl, rfl, rfl, rfl, rfl⟩ rfl rfl rfl rfl rfl (by kernel_rfl) Try.func3 (by kernel_rfl)
    (of_decide_eq_true (by kernel_rfl)) (by unfold Func.isWrapper; first | (rw [if_pos (by decide +kernel)]; kernel_rfl) | (rw [if_neg (by decide +kernel)]; exact ⟨rfl, rfl⟩))
    (fun os started H enc _ => lifted os started H enc)
theorem proved : Ytgbhmkdldfhamaa.Rows.CharsOfSaid := over
end Go.Proofs.Ytgbhmkdldfhamaa.charsOf
