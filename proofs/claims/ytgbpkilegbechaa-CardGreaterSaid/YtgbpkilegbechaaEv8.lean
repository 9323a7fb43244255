/- Engine, part 8: a function by its cuts, as a known call. -/
import Derived.Test.YtgbpkilegbechaaEv7
namespace Go.Ev
set_option linter.unusedVariables false
noncomputable section
open Go.RowKit
/-- Another class that says the same of the code's own blocks. -/
theorem Old.swap {X Y : Ext} {w0 w : World} (h : @Old X w0 w) (ho : ∀ k, @Ext.own X k ↔ @Ext.own Y k) : @Old Y w0 w :=
  @Old.mk Y w0 w (@Old.size X w0 w h) (fun k hk hn => @Old.same X w0 w h k hk fun g => hn ((ho k).1 g)) (fun a v hv g => @Old.cell X w0 w h a v hv ((ho _).2 g))
theorem VRs_of {φ : Phi} : ∀ {xs : List VV} {vs : List Value}, xs.length = vs.length → (∀ (t : Nat) x v, xs[t]? = some x → vs[t]? = some v → VR φ x v) → VRs φ xs vs
  | [], [], _, _ => by simp only [VRs]
  | x :: xs, [], h, _ => by simp at h
  | [], v :: vs, h, _ => by simp at h
  | x :: xs, v :: vs, h, k => by
    simp only [VRs]
    exact ⟨v, vs, rfl, k 0 x v rfl rfl, VRs_of (by simpa using h) fun t y u h1 h2 => k (t + 1) y u (by simpa using h1) (by simpa using h2)⟩
end
end Go.Ev
