/-
  The law CardGreater: all rounds of the first loop, in the kernel.
-/
import Derived.Test.YtgbpkilegbechaaTxC
namespace Go.Proofs.Ytgbpkilegbechaa.greater
open Go.Ev Go.RowKit
set_option linter.unusedVariables false
noncomputable section
theorem grallT (c c2 : Nat) : allL' (fun i => allL' (fun n => grall1 c c2 i n) (List.range (3 + i))) (List.range 3) = true := by kernel_rfl
theorem gr_chk {c c2 i n f : Nat} {e : Bool} {v : Va} (hi : i < 3) (hn : n < 3 + i) (hf : f < 24) (he : e ∈ esOf n) (hv : v ∈ vas i f) : grok i n (grrun i n f e v c c2) = true :=
  allL'_at (allL'_at (allL'_at (allL'_at (allL'_at (grallT c c2) i (List.mem_range.2 hi)) n (List.mem_range.2 hn)) e he) f (List.mem_range.2 hf)) v hv
theorem grsk_chk {i f : Nat} (hi : i < 3) (h1 : 24 ≤ f) (h2 : f < 30) : grsk i f = true := by
  have h : grskall = true := finT_at (by simp)
  have := allL'_at (allL'_at h i (List.mem_range.2 hi)) (f - 24) (List.mem_range.2 (by omega))
  rw [show 24 + (f - 24) = f by omega] at this
  exact this
end
end Go.Proofs.Ytgbpkilegbechaa.greater
