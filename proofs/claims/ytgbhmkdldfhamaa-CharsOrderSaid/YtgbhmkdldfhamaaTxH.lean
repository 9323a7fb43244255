/-
  The law CharsLayers: from the entry to the outer loop, what the kernel runs; works().
-/
import Derived.Test.YtgbhmkdldfhamaaTxG
import Derived.Test.YtgbhmkdldfhamaaRows
import Derived.Test.YtgbhmkdldfhamaaTxF
import Derived.WalkKit
import Derived.ProofKit
import Derived.OpenShut
import Derived.Deep.Slices
namespace Go.Proofs.Ytgbhmkdldfhamaa.order
open Go.Ev Go.RowKit
set_option linter.unusedVariables false
noncomputable section
theorem ran15 : runV Try.prog 20000 15 = true := by kernel_rfl
theorem walk15 (w : World) : Calls Try.prog 15 #[] w fun e w' => e = .returned (.bool true) ∧ Below w.heap.size w w' := runV_calls (noNG_of noNG) mixed ran15 w
def wkK : List KE := [⟨15, [], [], .bool true⟩]
theorem wkK_ok {ρ : Rho} {w : World} {S : Nat → Prop} : ∀ e ∈ wkK, KEok Try.prog ρ w e S := by
  intro e he
  simp only [wkK, List.mem_singleton] at he
  subst he
  intro φ vs w' hφ h1 h2 hv hp
  simp only [VRs] at hv
  subst hv
  refine (walk15 w').mono ?_
  rintro en w'' ⟨rfl, hb⟩
  exact ⟨_, rfl, by simp only [VR], hb⟩
/-! ### pieces of code -/
def sq1 : Code → Code
  | .seq a _ => a
  | c => c
def sq2 : Code → Code
  | .seq _ b => b
  | c => c
def rops : Code → List Oper
  | .region _ ops _ => ops.toList
  | _ => []
def rid : Code → Nat
  | .region id _ _ => id
  | _ => 0
theorem evN_fe [Ext] {P : Program} (hng : NoNG P) (hm : P.follows .mixedOrders = true) {kn : KN} (hK : KnOK P kn) (n : Nat) : FEok P (evN P (drawRun P) kn n).2 := (evN_sound hng (fun _ h => drawRun_sound hng hm h) hK n).2.2
abbrev feK (P : Program) (K : List KE) : FE := (evN P (drawRun P) (knL K) 20000).2
theorem feK_ok {P : Program} (hng : NoNG P) (hm : P.follows .mixedOrders = true) {K : List KE} {S : Nat → Prop} : @FEok (XK P K S) P (feK P K) := by
  letI : Ext := XK P K S
  exact evN_fe hng hm (knL_ok fun _ _ h => h) 20000
/-- A Go call by its operation: what is asked. -/
def entB (P : Program) (o : Option Oper) (a : VT) (H : VH) (d : Nat) (f : FuncId) (args : List VV) : Bool := match o with
  | some o => match o.guard, o.dst with
    | none, some d' => match Nat.beq d d', (evE P o.op a H).get with
      | true, .enter g l => match Nat.beq f g with
        | true => vvsEq l args
        | false => false
      | _, _ => false
    | _, _ => false
  | none => false
theorem entB_of {P : Program} {o : Option Oper} {a : VT} {H : VH} {d : Nat} {f : FuncId} {args : List VV} (h : entB P o a H d f args = true) : ∃ o', o = some o' ∧ o'.guard = none ∧ o'.dst = some d ∧ (evE P o'.op a H).get = .enter f args := by
  unfold entB at h
  split at h
  · rename_i o'
    split at h
    · rename_i d' hg hd
      split at h
      · rename_i g l hb0 he
        split at h
        · rename_i hb
          rw [vvsEq_eq _ _ h, ← Nat.eq_of_beq_eq_true hb] at he
          rw [← Nat.eq_of_beq_eq_true hb0] at hd
          exact ⟨o', rfl, hg, hd, he⟩
        · cases h
      · cases h
    · cases h
  · cases h
def ly3 : Code := sq1 (sq2 (sq2 lybody))
def ly4 : Code := sq1 (sq2 (sq2 (sq2 lybody)))
def o3 : List Oper := rops ly3
def o4 : List Oper := rops ly4
def E0 : Env := ⟨fun _ => none, ivAt [], [], fun _ => none⟩
/-! ### to the first call -/
/-! ### behind it -/
/-! ### behind the pool; to the loop -/
end
end Go.Proofs.Ytgbhmkdldfhamaa.order
namespace Go.Proofs.Ytgbhmkdldfhamaa.order
open Go.Ev Go.RowKit
set_option linter.unusedVariables false
noncomputable section
theorem anc_below {w w' : World} (h : Below w.heap.size w w') : Anc w w' := ⟨⟨h.os, h.tape, h.output, h.size⟩, fun k hk => h.block k hk⟩
theorem anc_back {w w' : World} (h : Anc w w') : Below w.heap.size w w' := ⟨h.wk.os, h.wk.tape, h.wk.output, h.wk.size, h.old⟩
theorem E0_ok {X : Ext} {ρ : Rho} {w : World} (hx : X.ok ρ w) (hf : ∀ k, I64 (ρ.int k)) : @EnvOK X E0 ⟨fun _ => none, ρ⟩ w :=
  @EnvOK.mk X _ _ _ hx (ivs_nil hf) (fun f hf => by cases hf) (fun k c hk => by cases hk)
theorem sym_cells {φ : Phi} {w : World} {B O : Nat} {us : List Value} {l : List VV} (hl : ∀ x ∈ l, ∃ k, x = .sym k) (h1 : VRs φ l us) (hlt : B < w.heap.size) (hc : ∀ j x, l[j]? = some x → ∃ y, w.cell? ⟨B, O + j, none⟩ = some y ∧ VR φ x y) : CellsAt w B O us :=
  ⟨hlt, fun j v hj => by
    have hlen := VRs_length _ _ h1
    have hj' : j < l.length := by rw [hlen]; exact (List.getElem?_eq_some_iff.1 hj).1
    obtain ⟨v', e1, e2⟩ := VRs_at h1 (List.getElem?_eq_getElem hj')
    obtain ⟨y, y1, y2⟩ := hc j _ (List.getElem?_eq_getElem hj')
    rw [hj] at e1
    cases e1
    obtain ⟨k, hk⟩ := hl _ (List.getElem_mem hj')
    rw [hk] at e2 y2
    simp only [VR] at e2 y2
    rw [y1, y2, e2]⟩
theorem lySt_sym : ∀ x ∈ lySt, ∃ k, x = VV.sym k := by
  intro x hx
  simp only [lySt, stV, List.mem_cons, List.not_mem_nil, or_false] at hx
  rcases hx with rfl | rfl | rfl | rfl | rfl | rfl | rfl | rfl | rfl | rfl | rfl | rfl | rfl | rfl | rfl | rfl | rfl | rfl | rfl | rfl | rfl | rfl | rfl | rfl | rfl <;> exact ⟨_, rfl⟩
theorem FoIn.OK.later {f : FoIn} {w w' : World} (h : f.OK w) (hs : w.heap.size ≤ w'.heap.size) (hb : ∀ k, k < w.heap.size → w'.heap[k]? = w.heap[k]?) : f.OK w' :=
  ⟨h.n, h.fit, fun i e he => by
    obtain ⟨g1, g2, g3⟩ := h.cl i e he
    refine ⟨g1, by omega, fun j hj => ?_⟩
    rw [← g3 j hj]
    unfold World.cell?
    rw [hb _ g2]⟩
section
variable {w0 w1 w : World} {y : LyG} {act : Act} {HD : Nat → Act → World → Prop}
theorem hno0 : ∀ k, ¬ (fun _ : Nat => False) k := fun k h => h
end
end
end Go.Proofs.Ytgbhmkdldfhamaa.order
namespace Go.Proofs.Ytgbhmkdldfhamaa.order
open Go.Ev Go.RowKit Go.ChangeShapes Go.WideShapes Go.ChangeAt
set_option linter.unusedVariables false
noncomputable section
theorem own : ownKnob Try.prog.godebug = none := by kernel_rfl
section
variable {H : Type} {enc : TypeId × Value → H} {w : World} {base : Nat} {sp : Nat → Bool} {held : Bool}
theorem cell_lt {a : Addr} {v : Value} (h : w.cell? a = some v) : a.block < w.heap.size ∧ a.spot = none := by
  refine ⟨?_, World.cell?_spot h⟩
  unfold World.cell? at h
  split at h
  · rename_i he
    exact (Array.getElem?_eq_some_iff.1 he).1
  · cases h
theorem litu8 {x : Int} (h : (Lit.int .u8 x).wf = true) : 0 ≤ x ∧ x ≤ 255 := by
  simpa [Lit.wf, IntKind.min, IntKind.max, IntKind.signed, IntKind.bits] using h
theorem max_len : maxLen ≤ 9223372036854775807 := by decide
/-- A slice of numbers that came in. -/
theorem bytes_of {n : Nat} {v : Value} {y : DataW H × List MemPlace} (h : DataW.trod enc Try.prog w base sp held n 44 [v] = some y) :
    ∃ g : PlIn, g.OK w ∧ v = g.v := by
  have hm := max_len
  rcases Go.Deep.open_slice1 Try.underlying44 (by kernel_rfl) h with ⟨hcs, _⟩ | ⟨a, len, cap, m, n', V, D, Pl, hcs, _, hl, hc, hmm, _, hall⟩
  · simp only [List.cons.injEq, and_true] at hcs
    subst hcs
    exact ⟨⟨[], none, 0, 0, 0⟩, ⟨by simp, (fun z hz => by cases hz), (fun i x hi => by simp at hi)⟩, rfl⟩
  · simp only [List.cons.injEq, and_true] at hcs
    subst hcs
    have hlm : len ≤ m := by rw [hmm]; split <;> omega
    have each : ∀ j, ∃ z : Int, j < len → w.cell? (a.add j) = some (.int .u8 z) ∧ 0 ≤ z ∧ z ≤ 255 := fun j => by
      by_cases hj : j < len
      · obtain ⟨h1, h2⟩ := hall j (by omega)
        obtain ⟨z, e, _, hw⟩ := DataW.trod_int Try.underlying5 h2
        simp only [List.cons.injEq, and_true] at e
        rw [e] at h1
        exact ⟨z, fun _ => ⟨h1, litu8 hw⟩⟩
      · exact ⟨0, fun h => absurd h hj⟩
    obtain ⟨f, hf⟩ := Classical.skolem.1 each
    refine ⟨⟨(List.range len).map f, some a, cap, a.block, a.off⟩, ⟨by simp; omega, fun z hz => ?_, fun j x hx => ?_⟩, by simp [PlIn.v]⟩
    · simp only [List.mem_map, List.mem_range] at hz
      obtain ⟨j, hj, rfl⟩ := hz
      exact (hf j hj).2
    · have hx' : ((List.range len).map f)[j]? = some x := hx
      have hj : j < len := by
        have := (List.getElem?_eq_some_iff.1 hx').1
        simpa using this
      have ex : x = f j := by
        rw [List.getElem?_map, List.getElem?_range hj] at hx'
        exact (Option.some.inj hx').symm
      obtain ⟨g1, g2⟩ := hf j hj
      obtain ⟨k1, k2⟩ := cell_lt (hf 0 (by omega)).1
      obtain ⟨B, O, spot⟩ := a
      have hspot : spot = none := by simpa [Addr.add] using k2
      subst hspot
      refine ⟨rfl, by simpa [Addr.add] using k1, ?_⟩
      rw [Addr.add_lit] at g1
      rw [ex]
      exact g1
end
end
end Go.Proofs.Ytgbhmkdldfhamaa.order
