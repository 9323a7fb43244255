/- Engine, part Pj: outcomes: calls; a call all of whose outcomes are alike, as a known call. -/
import Derived.Test.YticgadnmlbfmfaaEvPi
import Derived.Test.YticgadnmlbfmfaaEvPb
namespace Go.Ev
noncomputable section
theorem stepXF_sound [Ext] {P : Program} {mf : List FuncId} {rc : XCE} (hrc : XCok P rc) : XFok P (stepXF mf P rc) := by
  intro w0 f args H outs h φ w args' ha hs
  unfold stepXF at h
  cases hm : memN f mf with
  | false => rw [hm] at h; cases h
  | true =>
  rw [hm] at h
  simp only at h
  cases hf : P.funcs[f]? with
  | none => rw [hf] at h; cases h
  | some fn =>
    rw [hf] at h
    simp only at h
    cases hb : fn.body with
    | none => rw [hb] at h; cases h
    | some c =>
      rw [hb] at h
      simp only at h
      cases h1 : Nat.ble args.length fn.ntmps with
      | false => rw [h1] at h; cases h
      | true => cases h2 : Nat.ble fn.ntmps top with
        | false => rw [h1, h2] at h; cases h
        | true =>
          rw [h1, h2] at h
          simp only at h
          have h1' : args.length ≤ fn.ntmps := Nat.le_of_ble_eq_true h1
          have h2' : fn.ntmps ≤ top := Nat.le_of_ble_eq_true h2
          have hl := VRs_length _ _ ha
          cases hr : rc fn.ntmps c (listT args 0 .lf) H with
          | none => rw [hr] at h; cases h
          | some l =>
            rw [hr] at h
            simp only at h
            have hsz : fn.ntmps ≤ ((⟨args'⟩ : Array Value) ++ Array.replicate (fn.ntmps - (⟨args'⟩ : Array Value).size) undef).size := by simp; omega
            have k := hrc w0 fn.ntmps c _ H l hr h2' φ { tmps := (⟨args'⟩ : Array Value) ++ Array.replicate (fn.ntmps - (⟨args'⟩ : Array Value).size) undef, defers := [] } w (args_TR ha h1' h2') hs hsz (fun r => w.heap.size ≤ r) (fun r hr => hr) .nil
            refine (callsIn_wide (n := 0)).1 (callsIn_of_wp_marks hf hb trivial (wpIn_mono k ?_))
            rintro e act' w' ⟨⟨x, a₁, H₁⟩, hmem, φ', rfl, k2, k3, k4, k5, k6, ⟨rs, m1, m2, m3⟩⟩
            obtain ⟨part, e1, e2⟩ := bindL_mem h _ hmem
            have fin : (match resL P a₁ H₁ fn.results.toList with | some vs => some [(oneV vs, H₁)] | none => none) = some part → LeavesInM Fence.wide 0 P fn act'.tmps (fun e w' => ∃ r ∈ outs, ∃ v' φ', e = Ending.returned v' ∧ St φ w φ' w' ∧ VR φ' r.1 v' ∧ HSim w0 φ' r.2 w' ∧ r.2.base = H.base) act'.defers .returning w' := by
              intro hx
              cases hq : resL P a₁ H₁ fn.results.toList with
              | none => rw [hq] at hx; cases hx
              | some vs =>
                rw [hq] at hx
                simp only [Option.some.injEq] at hx
                subst hx
                rw [m1]
                refine leaves_marks (b := w.heap.size) (w0 := w0) (ws := w) (φ0 := φ) (φ := φ') (H := H₁) (Nat.le_refl _) (fun w'' hs'' st'' => ?_) rs w' m2 k4 k2 m3
                obtain ⟨v', r1, r2⟩ := results_sound (P := P) k3 hs'' hq
                exact ⟨v', r1, (oneV vs, H₁), e2 _ (List.mem_singleton.2 rfl), v', φ', rfl, st'', r2, hs'', k5⟩
            cases x with
            | normal => exact fin e1
            | ret => exact fin e1
            | exit id => cases e1
def xN (P : Program) (dr : DE) (fe : FE) (mf : List FuncId) (n : Nat) : XCE × XFE :=
  Nat.rec (fun _ _ _ _ => none, fun _ _ _ => none) (fun _ ih => (stepX P dr fe ih.1 ih.2, stepXF mf P ih.1)) n
theorem xN_sound [Ext] {P : Program} (hng : NoNG P) {de : DE} (hde : DEok P de) {fe : FE} (hfe : FEok P fe) {mf : List FuncId} : ∀ n,
    ((∀ w0 nt c a H outs, (xN P de fe mf n).1 nt (.loop c) a H = some outs → nt ≤ top → XLoopOK P w0 nt c a H outs) ∧ XCok P (xN P de fe mf n).1) ∧ XFok P (xN P de fe mf n).2 := by
  intro n
  induction n with
  | zero =>
    refine ⟨⟨?_, ?_⟩, ?_⟩
    · intro w0 nt c a H outs h; cases h
    · intro w0 nt c a H outs h; cases h
    · intro w0 f args H outs h; cases h
  | succ n ih =>
    obtain ⟨⟨i1, i2⟩, i3⟩ := ih
    exact ⟨⟨stepX_loop (de := de) (fe := fe) (xf := (xN P de fe mf n).2) i1 i2, stepX_sound hng i2 hfe hde i3 i1⟩, stepXF_sound i2⟩
/-- Without the blocks of loops and iterators. -/
def cleanT : Nat → Nat → TT VO → TT VO
  | 0, _, t => t
  | k + 1, i, t => cleanT k (i + 1) (match t.get i with
    | some (.loop ..) => t.del i
    | some (.miter ..) => t.del i
    | _ => t)
def alikeX (v : VV) (H₁ : VH) : List (VV × VH) → Bool
  | [] => true
  | r :: l => match vvEq r.1 v, wkB .lf r.2 .lf H₁ with
    | true, true => alikeX v H₁ l
    | _, _ => false
def oneOut (H : VH) : List (VV × VH) → Option (VV × VH)
  | [] => none
  | r :: l => match alikeX r.1 ⟨H.base, cleanT (r.2.next - H.next) H.next r.2.locs, r.2.next⟩ (r :: l) with
    | true => some (r.1, ⟨H.base, cleanT (r.2.next - H.next) H.next r.2.locs, r.2.next⟩)
    | false => none
theorem alikeX_of {v : VV} {H₁ : VH} : ∀ {l : List (VV × VH)}, alikeX v H₁ l = true → ∀ r ∈ l, r.1 = v ∧ wkB .lf r.2 .lf H₁ = true
  | [], _, r, hr => by cases hr
  | x :: l, h, r, hr => by
    simp only [alikeX] at h
    split at h
    · rename_i h1 h2
      rcases List.mem_cons.1 hr with rfl | hr
      · exact ⟨vvEq_eq _ _ h1, h2⟩
      · exact alikeX_of h r hr
    · cases h
/-- Known calls: those of functions whose outcomes are all alike. -/
def knX (xl : List FuncId) (xf : XFE) : KN := fun f args H => match memN f xl with
  | true => match xf f args H with
    | some outs => oneOut H outs
    | none => none
  | false => none
theorem knX_ok [Ext] {P : Program} {xl : List FuncId} {xf : XFE} (hxf : XFok P xf) : KnOK P (knX xl xf) := by
  intro w0 f args H v H' h φ w args' ha hs
  unfold knX at h
  split at h
  · split at h
    · rename_i outs hx
      refine (hxf w0 f args H outs hx φ w args' ha hs).mono ?_
      rintro e w' ⟨r, hr, v', φ', rfl, k1, k2, k3, k4⟩
      unfold oneOut at h
      split at h
      · cases h
      · rename_i r0 l
        split at h
        · rename_i hal
          simp only [Option.some.injEq, Prod.mk.injEq] at h
          obtain ⟨rfl, rfl⟩ := h
          obtain ⟨h1, h2⟩ := alikeX_of hal r hr
          exact ⟨r0.1, v', φ', _, rfl, k1, by rw [← h1]; exact k2, wkB_sim h2 k4.symm k3, rfl, rfl, rfl⟩
        · cases h
    · cases h
  · cases h
end
end Go.Ev
