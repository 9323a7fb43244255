/-
  'CardOnes': of a card of any of the four kinds, with any one of its fields being any number, the program's check and the document's come to the same. No condition. All kinds and fields are gone through one by one, the number by cases; the kernel runs the evaluator of the texts before (Go.Ev), which is proved sound for the model.
-/
import Derived.Test.YtgbpkilegbechaaOnesAll
import Derived.WalkKit
import Derived.ProofKit
import Derived.OpenShut
namespace Go.Proofs.Ytgbpkilegbechaa.ones
open Go.ChangeShapes Go.WideShapes Go.ChangeAt Go.RowKit
set_option linter.unusedVariables false
theorem own : ownKnob Try.prog.godebug = none := by kernel_rfl
namespace rows
instance said : Go.Ev.Ext := ⟨fun _ _ => True⟩
theorem ran : Go.Ev.runV Try.prog 20000 10 = true := by kernel_rfl
theorem works (w : World) : Calls Try.prog 10 #[] w fun e w' => e = .returned (.bool true) ∧ Below w.heap.size w w' :=
  Go.Ev.runV_calls (Go.Ev.noNG_of noNG) mixed ran w
end rows
/-- What the symbols stand for: kind, field, number. -/
def rho (a b : Nat) (n : Int) : Go.Ev.Rho :=
  ⟨fun k => match k with | 0 => (a : Int) | 1 => (b : Int) | 2 => n | _ => 0, fun _ => .slice none 0 0, fun _ => 0, fun _ => 0, fun k => by cases k <;> rfl, fun k b h => by cases k <;> cases h⟩
theorem ext (ρ : Go.Ev.Rho) (w : World) : ∀ e ∈ KT, Go.Ev.KEok Try.prog ρ w e := by
  intro e he φ vs w' hφ hsz ho hv _
  simp only [KT, List.mem_singleton] at he
  subst he
  simp only [Go.Ev.VRs] at hv
  subst hv
  refine (rows.works w').mono ?_
  rintro e w'' ⟨rfl, hb⟩
  exact ⟨_, rfl, by simp only [Go.Ev.VR], hb⟩
theorem chosen (K F : Nat) (hK : K < 4) (hF : F < 24) : ∃ t, Go.Ev.chkT (lc K F) t iv0 [] = true := by
  match K, hK with
  | 0, _ => match F, hF with
    | 0, _ => exact t_0_0
    | 1, _ => exact t_0_1
    | 2, _ => exact t_0_2
    | 3, _ => exact t_0_3
    | 4, _ => exact t_0_4
    | 5, _ => exact t_0_5
    | 6, _ => exact t_0_6
    | 7, _ => exact t_0_7
    | 8, _ => exact t_0_8
    | 9, _ => exact t_0_9
    | 10, _ => exact t_0_10
    | 11, _ => exact t_0_11
    | 12, _ => exact t_0_12
    | 13, _ => exact t_0_13
    | 14, _ => exact t_0_14
    | 15, _ => exact t_0_15
    | 16, _ => exact t_0_16
    | 17, _ => exact t_0_17
    | 18, _ => exact t_0_18
    | 19, _ => exact t_0_19
    | 20, _ => exact t_0_20
    | 21, _ => exact t_0_21
    | 22, _ => exact t_0_22
    | 23, _ => exact t_0_23
    | _ + 24, h => exact absurd h (by omega)
  | 1, _ => match F, hF with
    | 0, _ => exact t_1_0
    | 1, _ => exact t_1_1
    | 2, _ => exact t_1_2
    | 3, _ => exact t_1_3
    | 4, _ => exact t_1_4
    | 5, _ => exact t_1_5
    | 6, _ => exact t_1_6
    | 7, _ => exact t_1_7
    | 8, _ => exact t_1_8
    | 9, _ => exact t_1_9
    | 10, _ => exact t_1_10
    | 11, _ => exact t_1_11
    | 12, _ => exact t_1_12
    | 13, _ => exact t_1_13
    | 14, _ => exact t_1_14
    | 15, _ => exact t_1_15
    | 16, _ => exact t_1_16
    | 17, _ => exact t_1_17
    | 18, _ => exact t_1_18
    | 19, _ => exact t_1_19
    | 20, _ => exact t_1_20
    | 21, _ => exact t_1_21
    | 22, _ => exact t_1_22
    | 23, _ => exact t_1_23
    | _ + 24, h => exact absurd h (by omega)
  | 2, _ => match F, hF with
    | 0, _ => exact t_2_0
    | 1, _ => exact t_2_1
    | 2, _ => exact t_2_2
    | 3, _ => exact t_2_3
    | 4, _ => exact t_2_4
    | 5, _ => exact t_2_5
    | 6, _ => exact t_2_6
    | 7, _ => exact t_2_7
    | 8, _ => exact t_2_8
    | 9, _ => exact t_2_9
    | 10, _ => exact t_2_10
    | 11, _ => exact t_2_11
    | 12, _ => exact t_2_12
    | 13, _ => exact t_2_13
    | 14, _ => exact t_2_14
    | 15, _ => exact t_2_15
    | 16, _ => exact t_2_16
    | 17, _ => exact t_2_17
    | 18, _ => exact t_2_18
    | 19, _ => exact t_2_19
    | 20, _ => exact t_2_20
    | 21, _ => exact t_2_21
    | 22, _ => exact t_2_22
    | 23, _ => exact t_2_23
    | _ + 24, h => exact absurd h (by omega)
  | _ + 4, h => exact absurd h (by omega)
  | 3, _ => match F, hF with
    | 0, _ => exact t_3_0
    | 1, _ => exact t_3_1
    | 2, _ => exact t_3_2
    | 3, _ => exact t_3_3
    | 4, _ => exact t_3_4
    | 5, _ => exact t_3_5
    | 6, _ => exact t_3_6
    | 7, _ => exact t_3_7
    | 8, _ => exact t_3_8
    | 9, _ => exact t_3_9
    | 10, _ => exact t_3_10
    | 11, _ => exact t_3_11
    | 12, _ => exact t_3_12
    | 13, _ => exact t_3_13
    | 14, _ => exact t_3_14
    | 15, _ => exact t_3_15
    | 16, _ => exact t_3_16
    | 17, _ => exact t_3_17
    | 18, _ => exact t_3_18
    | 19, _ => exact t_3_19
    | 20, _ => exact t_3_20
    | 21, _ => exact t_3_21
    | 22, _ => exact t_3_22
    | 23, _ => exact t_3_23
    | _ + 24, h => exact absurd h (by omega)
theorem law (w : World) (a b : Nat) (n : Int) (ha : a ≤ 255) (hb : b ≤ 255) (h1 : -9223372036854775808 ≤ n) (h2 : n ≤ 9223372036854775807) :
    Calls Try.prog 4 #[.int .u8 (a : Int), .int .u8 (b : Int), .int .i64 n] w fun e w' => e = .returned (.bool true) ∧ Below w.heap.size w w' := by
  obtain ⟨t, ht⟩ := chosen (a % 4) (b % 24) (by omega) (by omega)
  obtain ⟨g1, g2, g3⟩ := Go.Ev.leafOf_ok (ρ := rho a b n) (v := (rho a b n).int) rfl ht
    (Go.Ev.ivs_cons ⟨by show (0 : Int) ≤ (a : Int); omega, by show (a : Int) ≤ 255; omega⟩ (Go.Ev.ivs_cons ⟨by show (0 : Int) ≤ (b : Int); omega, by show (b : Int) ≤ 255; omega⟩ (Go.Ev.ivs_cons ⟨h1, h2⟩
      (Go.Ev.ivs_nil fun i => ⟨by show _ ≤ (0 : Int); decide, by show (0 : Int) ≤ _; decide⟩)))) (fun f hf => by cases hf)
  refine Go.Ev.trueB_calls (Go.Ev.noNG_of noNG) mixed g1 (ρ := rho a b n) (ext _ _) ⟨g2, fun f hf => ?_, fun i c h => by cases h⟩ (fun r => rfl) ?_
  · rcases List.mem_append.1 hf with h | h
    · exact g3 f h
    · simp only [List.mem_cons, List.not_mem_nil, or_false] at h
      rcases h with rfl | rfl
      · exact Go.Ev.fact_rem (a := (a : Int)) (b := 4) rfl rfl (by decide) rfl
      · exact Go.Ev.fact_rem (a := (b : Int)) (b := 24) rfl rfl (by decide) rfl
  · simp only [Go.Ev.VRs, Go.Ev.VR]
    refine ⟨_, _, rfl, rfl, _, _, rfl, rfl, _, _, rfl, ?_, rfl⟩
    have := Go.Ev.VR_sv (φ := ⟨fun _ => none, rho a b n⟩) g2 .i64 2
    exact this
theorem lit64 {x : Int} (h : (Lit.int .i64 x).wf = true) : -9223372036854775808 ≤ x ∧ x ≤ 9223372036854775807 := by
  simpa [Lit.wf, IntKind.min, IntKind.max, IntKind.signed, IntKind.bits] using h
theorem u8_of {x : Int} (h : (Lit.int .u8 x).wf = true) : ∃ a : Nat, x = (a : Int) ∧ a ≤ 255 := by
  have h' : 0 ≤ x ∧ x ≤ 255 := by simpa [Lit.wf, IntKind.min, IntKind.max, IntKind.signed, IntKind.bits] using h
  exact ⟨x.toNat, by omega, by omega⟩
set_option maxRecDepth 100000 in
theorem lifted (os : Os) (started : os.Started) (H : Type) (enc : TypeId × Value → H) :
    ReturnsInHanded {} Try.checked os 4 .any (Rows.cardOnesSpec.pre6 enc Try.prog Try.f4 Rows.cardOnesRow.domain false) (Rows.cardOnesSpec.post enc Try.prog Try.f4 false true false false) := by
  refine returnsInHanded_of_change (C := Try.checked) own started (by kernel_rfl) Try.func4
    (ChangeSpec.witness6 (enc := enc) (C := Try.checked) false ⟨#[], #[.int .u8 0, .int .u8 0, .int .i64 0], []⟩ 8 (by kernel_rfl) (by kernel_rfl) (by kernel_rfl) (by kernel_rfl)) ?_
  intro W base args ds gs before hval0 hW hcnd _
  have hval : ∀ (j : Nat) t v, Try.f4.params[j]? = some t → args[j]? = some v → Value.okWide Try.prog W .any base t v := hval0
  have hW' := hW
  obtain ⟨p, q, hA0, hV, rfl, hfz, hnd⟩ := hW
  have hA : DataW.TrodAll enc Try.prog W 0 (fun _ => true) true Try.f4.params.toList args.toList ds p := hA0
  rw [Try.params4] at hA hval
  obtain ⟨v0, v1, v2, d0, d1, d2, p0, p1, p2, rfl, rfl, rfl, h0, h1, h2⟩ := trodAll_three hA
  obtain ⟨rfl, rfl⟩ := trodVars_none hV
  obtain ⟨a, rfl, rfl, rfl, wa⟩ := open_int Try.underlying5 (hval 0 5 v0 rfl rfl) h0
  obtain ⟨b, rfl, rfl, rfl, wb⟩ := open_int Try.underlying5 (hval 1 5 v1 rfl rfl) h1
  obtain ⟨n, rfl, rfl, rfl, wn⟩ := open_int Try.underlying3 (hval 2 3 v2 rfl rfl) h2
  clear hA0 hval0
  simp only [List.append_nil] at hW'
  obtain ⟨a', ea, ha⟩ := u8_of wa
  obtain ⟨b', eb, hb'⟩ := u8_of wb
  have hl := law W a' b' n ha hb' (lit64 wn).1 (lit64 wn).2
  rw [← ea, ← eb] at hl
  refine hl.mono fun e W' ⟨he, hg⟩ => ?_
  subst he
  exact ⟨_, rfl, Go.Ev.post_of_below hW' (fun _ _ _ => (trodAll_cons_mk (shut_bool Try.underlying4 _) trodAll_mk0)) (fun sp => trodAll_mk3 (shut_int Try.underlying5 wa) (shut_int Try.underlying5 wb) (shut_int Try.underlying3 wn)) (fun _ => rfl)
    hg (ok_one (by kernel_rfl) rfl (okWide_bool_mk Try.underlying4 _))⟩
theorem over : Rows.cardOnesRow.holds Try.pinned (OpenSpec.ofChange Rows.cardOnesSpec) :=
  OpenClaim.holds_of_wide 4 Try.f4 rfl rfl rfl rfl rfl rfl rfl ⟨rfl, rfl, rfl, rfl, rfl⟩ rfl rfl rfl rfl rfl (by kernel_rfl) Try.func4 (by kernel_rfl)
    (of_decide_eq_true (by kernel_rfl)) (by unfold Func.isWrapper; first | (rw [if_pos (by decide +kernel)]; kernel_rfl) | (rw [if_neg (by decide +kernel)]; exact ⟨rfl, rfl⟩))
    (fun os started H enc _ => lifted os started H enc)
theorem proved : Rows.CardOnesSaid := over
end Go.Proofs.Ytgbpkilegbechaa.ones
