/- Engine, part M: the evaluator with fuel, and that it is sound. -/
import Derived.Test.YtgbhmkdldfhamaaEvL
namespace Go.Ev
noncomputable section
def evN (P : Program) (dr : FE → DE) (n : Nat) : CE × FE :=
  Nat.rec (fun _ _ _ _ => none, fun _ _ _ => none) (fun _ ih => (stepC P (dr ih.2) ih.1 ih.2, stepF P ih.1)) n
theorem evN_succ (P : Program) (dr : FE → DE) (n : Nat) : evN P dr (n + 1) = (stepC P (dr (evN P dr n).2) (evN P dr n).1 (evN P dr n).2, stepF P (evN P dr n).1) := rfl
theorem LoopOK.wp {P : Program} {w0 : World} {nt : Nat} {c : Code} {a : VT} {H : VH} {x : VX} {a₁ : VT} {H₁ : VH} (h : LoopOK P w0 nt c a H x a₁ H₁) (r : Option Nat) (φ : Phi) (act : Act) (w : World) (ht : TR φ a act.tmps) (hs : HSim w0 φ H w) (hn : nt ≤ act.tmps.size) (hd : act.defers = []) :
    (Code.loop c).wpIn (Fr r) 0 P (PostC w0 φ w act.tmps.size H x a₁ H₁) act w := by
  obtain ⟨m, hm⟩ := h
  exact wpIn_loop_rounds m (hm r φ act w ht hs hn hd _ fun _ _ _ k => k)
theorem evN_sound {P : Program} (hng : NoNG P) {dr : FE → DE} (hdr : ∀ fe, FEok P fe → DEok P (dr fe)) : ∀ n, (∀ w0 nt c a H x a₁ H₁, (evN P dr n).1 nt (.loop c) a H = some (x, a₁, H₁) → nt ≤ top → LoopOK P w0 nt c a H x a₁ H₁) ∧ CEok P (evN P dr n).1 ∧ FEok P (evN P dr n).2 := by
  intro n
  induction n with
  | zero =>
    refine ⟨?_, ?_, ?_⟩
    · intro w0 nt c a H x a₁ H₁ h
      cases h
    · intro w0 nt c a H x a₁ H₁ h
      cases h
    · intro w0 f args H v H' h
      cases h
  | succ n ih =>
    obtain ⟨ih1, ih2, ih3⟩ := ih
    have loops : ∀ w0 nt c a H x a₁ H₁, (evN P dr (n + 1)).1 nt (.loop c) a H = some (x, a₁, H₁) → nt ≤ top → LoopOK P w0 nt c a H x a₁ H₁ := by
      intro w0 nt c a H x a₁ H₁ h hb
      rw [evN_succ] at h
      simp only [stepC] at h
      cases hy : (evN P dr n).1 nt c a H with
      | none => rw [hy] at h; cases h
      | some t =>
        obtain ⟨e, a', H'⟩ := t
        rw [hy] at h
        cases e with
        | normal =>
          simp only at h
          obtain ⟨m, hm⟩ := ih1 w0 nt c a' H' x a₁ H₁ h hb
          refine ⟨m + 1, fun r φ act w ht hs hn hd Q hQ => ?_⟩
          rw [roundsIn_succ]
          refine wpIn_mono (ih2 w0 nt c a H _ a' H' hy hb r φ act w ht hs hn hd) ?_
          intro e act' w' hp
          obtain ⟨φ', rfl, k2, k3, k4, k5, k6, k7⟩ := hp
          refine hm r φ' act' w' k3 k4 (by omega) k7 Q fun e'' act'' w'' hp' => hQ e'' act'' w'' ?_
          rw [k6] at hp'
          exact PostC.trans k2 k5 hp'
        | ret =>
          simp only [Option.some.injEq, Prod.mk.injEq] at h
          obtain ⟨rfl, rfl, rfl⟩ := h
          refine ⟨1, fun r φ act w ht hs hn hd Q hQ => ?_⟩
          rw [roundsIn_succ]
          refine wpIn_mono (ih2 w0 nt c a H _ a' H' hy hb r φ act w ht hs hn hd) ?_
          intro e act' w' hp
          have he : e = .ret := by obtain ⟨φ', he, _⟩ := hp; exact he
          subst he
          exact hQ _ _ _ hp
        | exit id =>
          simp only [Option.some.injEq, Prod.mk.injEq] at h
          obtain ⟨rfl, rfl, rfl⟩ := h
          refine ⟨1, fun r φ act w ht hs hn hd Q hQ => ?_⟩
          rw [roundsIn_succ]
          refine wpIn_mono (ih2 w0 nt c a H _ a' H' hy hb r φ act w ht hs hn hd) ?_
          intro e act' w' hp
          have he : e = .exit id := by obtain ⟨φ', he, _⟩ := hp; exact he
          subst he
          exact hQ _ _ _ hp
    refine ⟨loops, ?_, ?_⟩
    · intro w0 nt c a H x a₁ H₁ h hb r φ act w ht hs hn hd
      by_cases hl : ∃ b, c = .loop b
      · obtain ⟨b, rfl⟩ := hl
        exact (loops w0 nt b a H x a₁ H₁ h hb).wp r φ act w ht hs hn hd
      · exact stepC_sound hng ih2 ih3 (hdr _ ih3) h (fun b e => hl ⟨b, e⟩) hb r φ act w ht hs hn hd
    · exact stepF_sound ih2
end
end Go.Ev
