/-
  'CardGreater': of any kind, any three fields and any three numbers: a card that is turned in these fields and may be in a pool of one card may be in greater ones; one that is too long is too long there, too; and of a card that may be and is no spell, the card without abilities, and with each single one, may be. No condition.
-/
import Derived.Test.YtgbpkilegbechaaRows
import Derived.Test.YtgbpkilegbechaaTxF
import Derived.WalkKit
import Derived.ProofKit
import Derived.OpenShut
import Derived.Deep.Slices
import Derived.Laws.IdiomArrays
namespace Go.Proofs.Ytgbpkilegbechaa.greater
open Go.Ev Go.RowKit Go.ChangeShapes Go.WideShapes Go.ChangeAt
set_option linter.unusedVariables false
noncomputable section
theorem own : ownKnob Try.prog.godebug = none := by kernel_rfl
theorem litu8 {x : Int} (h : (Lit.int .u8 x).wf = true) : 0 ≤ x ∧ x ≤ 255 := by
  simpa [Lit.wf, IntKind.min, IntKind.max, IntKind.signed, IntKind.bits] using h
theorem liti64 {x : Int} (h : (Lit.int .i64 x).wf = true) : I64 x := by
  simpa [I64, Lit.wf, IntKind.min, IntKind.max, IntKind.signed, IntKind.bits] using h
theorem list3 {α : Type} (l : List α) (h : (⟨l⟩ : Array α).size = 3) : ∃ a b c, l = [a, b, c] := by
  match l, h with
  | [a, b, c], _ => exact ⟨a, b, c, rfl⟩
set_option maxRecDepth 100000 in
theorem lifted (os : Os) (started : os.Started) (H : Type) (enc : TypeId × Value → H) :
    ReturnsInHanded {} Try.checked os 5 .any (Ytgbpkilegbechaa.Rows.cardGreaterSpec.pre6 enc Try.prog Try.f5 Ytgbpkilegbechaa.Rows.cardGreaterRow.domain false) (Ytgbpkilegbechaa.Rows.cardGreaterSpec.post enc Try.prog Try.f5 false true false false) := by
  refine returnsInHanded_of_change (C := Try.checked) own started (by kernel_rfl) Try.func5
    (ChangeSpec.witness6 (enc := enc) (C := Try.checked) false ⟨#[], #[.int .u8 0, .agg #[.int .u8 0, .int .u8 0, .int .u8 0], .agg #[.int .i64 0, .int .i64 0, .int .i64 0]], []⟩ 8 (by kernel_rfl) (by kernel_rfl) (by kernel_rfl) (by kernel_rfl)) ?_
  intro W base args ds gs before hval0 hW hcnd _
  have hval : ∀ (j : Nat) t v, Try.f5.params[j]? = some t → args[j]? = some v → Value.okWide Try.prog W .any base t v := hval0
  have hW' := hW
  obtain ⟨p, q, hA0, hV, rfl, hfz, hnd⟩ := hW
  have hA : DataW.TrodAll enc Try.prog W 0 (fun _ => true) true Try.f5.params.toList args.toList ds p := hA0
  rw [Try.params5] at hA hval
  obtain ⟨v0, v1, v2, d0, d1, d2, p0, p1, p2, rfl, rfl, rfl, h0, h1, h2⟩ := trodAll_three hA
  obtain ⟨rfl, rfl⟩ := trodVars_none hV
  obtain ⟨n, rfl, rfl, rfl, wn⟩ := open_int Try.underlying5 (hval 0 5 v0 rfl rfl) h0
  obtain ⟨cs, rfl, hsz, _⟩ : ∃ cs, v1 = .agg cs ∧ cs.size = Try.prog.cellsOf 35 ∧ Row.okWide Try.prog W .any base 35 cs := by
    have := hval 1 35 v1 rfl rfl
    simpa [Value.okWide, Try.underlying35] using this
  obtain ⟨cs2, rfl, hsz2, _⟩ : ∃ cs, v2 = .agg cs ∧ cs.size = Try.prog.cellsOf 36 ∧ Row.okWide Try.prog W .any base 36 cs := by
    have := hval 2 36 v2 rfl rfl
    simpa [Value.okWide, Try.underlying36] using this
  rw [show Try.prog.cellsOf 35 = 3 by kernel_rfl] at hsz
  rw [show Try.prog.cellsOf 36 = 3 by kernel_rfl] at hsz2
  obtain ⟨l⟩ := cs
  obtain ⟨l2⟩ := cs2
  obtain ⟨a0, a1, a2, rfl⟩ := list3 l hsz
  obtain ⟨b0, b1, b2, rfl⟩ := list3 l2 hsz2
  have hargs1 := h1
  have hargs2 := h2
  obtain ⟨fuel, hf⟩ := h1
  obtain ⟨fuel2, hf2⟩ := h2
  obtain ⟨y0, y1, y2, m, hx, hy0, hy1, hy2⟩ := trod_array3 Try.underlying35 (by kernel_rfl) hf
  obtain ⟨x0, e0, rfl, w0⟩ := DataW.trod_int Try.underlying5 hy0
  obtain ⟨x1, e1, rfl, w1⟩ := DataW.trod_int Try.underlying5 hy1
  obtain ⟨x2, e2, rfl, w2⟩ := DataW.trod_int Try.underlying5 hy2
  obtain ⟨z0, z1, z2, m2, hz, hz0, hz1, hz2⟩ := trod_array3 Try.underlying36 (by kernel_rfl) hf2
  obtain ⟨n0, g0, rfl, u0⟩ := DataW.trod_int Try.underlying3 hz0
  obtain ⟨n1, g1, rfl, u1⟩ := DataW.trod_int Try.underlying3 hz1
  obtain ⟨n2, g2, rfl, u2⟩ := DataW.trod_int Try.underlying3 hz2
  simp only [List.cons.injEq, and_true] at e0 e1 e2 g0 g1 g2
  subst e0 e1 e2 g0 g1 g2
  simp only [Prod.mk.injEq] at hx hz
  obtain ⟨rfl, rfl⟩ := hx
  obtain ⟨rfl, rfl⟩ := hz
  clear hA0 hval0
  simp only [List.append_nil] at hW'
  let xs : Nat → Int := fun k => match k with | 0 => x0 | 1 => x1 | 2 => x2 | _ => 0
  let ns : Nat → Int := fun k => match k with | 0 => n0 | 1 => n1 | 2 => n2 | _ => 0
  have hxs : ∀ k, 0 ≤ xs k ∧ xs k ≤ 255 := fun k => by
    show 0 ≤ (match k with | 0 => x0 | 1 => x1 | 2 => x2 | _ => 0) ∧ (match k with | 0 => x0 | 1 => x1 | 2 => x2 | _ => 0) ≤ 255
    split
    · exact litu8 w0
    · exact litu8 w1
    · exact litu8 w2
    · exact ⟨by omega, by omega⟩
  have hns : ∀ k, I64 (ns k) := fun k => by
    show I64 (match k with | 0 => n0 | 1 => n1 | 2 => n2 | _ => 0)
    split
    · exact liti64 u0
    · exact liti64 u1
    · exact liti64 u2
    · exact i64_0
  have hl := greater_calls (w0 := W) (litu8 wn) hxs hns
  refine hl.mono fun e W' ⟨he, hb⟩ => ?_
  subst he
  have r1 := Below.trod (by kernel_rfl) (by kernel_rfl) (of_decide_eq_true (by kernel_rfl)) hargs1 hb (fun x hx => by simp at hx)
  have r2 := Below.trod (by kernel_rfl) (by kernel_rfl) (of_decide_eq_true (by kernel_rfl)) hargs2 hb (fun x hx => by simp at hx)
  exact ⟨_, rfl, _, _, _, [], [], [], hW', trodAll_mk1 (shut_bool Try.underlying4 _), trodAll_mk3 (shut_int Try.underlying5 wn) r1 r2, rfl, hb.frame _, fun h => by cases h⟩
theorem over : Ytgbpkilegbechaa.Rows.cardGreaterRow.holds Ytgbpkilegbechaa.Try.pinned (OpenSpec.ofChange Ytgbpkilegbechaa.Rows.cardGreaterSpec) :=
  OpenClaim.holds_of_wide 5 Try.f5 rfl rfl rfl rfl rfl rfl rfl ⟨rfl, rfl, rfl, rfl, rfl⟩ rfl rfl rfl rfl rfl (by kernel_rfl) Try.func5 (by kernel_rfl)
    (of_decide_eq_true (by kernel_rfl)) (by unfold Func.isWrapper; first | (rw [if_pos (by decide +kernel)]; kernel_rfl) | (rw [if_neg (by decide +kernel)]; exact ⟨rfl, rfl⟩))
    (fun os started H enc _ => lifted os started H enc)
theorem proved : Ytgbpkilegbechaa.Rows.CardGreaterSaid := over
end
end Go.Proofs.Ytgbpkilegbechaa.greater
