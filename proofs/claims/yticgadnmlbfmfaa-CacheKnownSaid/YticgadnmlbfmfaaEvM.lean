/- Engine, part M: the evaluator with fuel, and that it is sound. -/
import Derived.Test.YticgadnmlbfmfaaEvL
namespace Go.Ev
noncomputable section
/-- Calls of which is known what they tell. -/
abbrev KN := FuncId → List VV → VH → Option (VV × VH)
def stepK (kn : KN) (f : FuncId → List VV → VH → Option (VV × VH)) : FuncId → List VV → VH → Option (VV × VH) := fun g args H => match kn g args H with
  | some r => some r
  | none => f g args H
def evN (P : Program) (dr : FE → DE) (kn : KN) (n : Nat) : (CE × CE) × FE :=
  Nat.rec ((fun _ _ _ _ => none, fun _ _ _ _ => none), ⟨fun _ _ _ => none, fun _ _ _ => none⟩)
    (fun _ ih => ((stepC true P (dr ih.2) ih.1.1 ih.2, stepC false P (dr ih.2) ih.1.2 ih.2), ⟨stepK kn (stepF P ih.1.1), stepR ih.1.2⟩)) n
theorem evN_succ (P : Program) (dr : FE → DE) (kn : KN) (n : Nat) : evN P dr kn (n + 1) = ((stepC true P (dr (evN P dr kn n).2) (evN P dr kn n).1.1 (evN P dr kn n).2, stepC false P (dr (evN P dr kn n).2) (evN P dr kn n).1.2 (evN P dr kn n).2), ⟨stepK kn (stepF P (evN P dr kn n).1.1), stepR (evN P dr kn n).1.2⟩) := rfl
def KnOK [Ext] (P : Program) (kn : KN) : Prop := ∀ w0 f args H v H', kn f args H = some (v, H') → CallOK P w0 f args H fun u K => u = v ∧ K = H'
theorem stepK_sound [Ext] {P : Program} {kn : KN} (hk : KnOK P kn) {g : FuncId → List VV → VH → Option (VV × VH)} (hg : ∀ w0 f args H v H', g f args H = some (v, H') → CallOK P w0 f args H fun u K => u = v ∧ K = H') :
    ∀ w0 f args H v H', stepK kn g f args H = some (v, H') → CallOK P w0 f args H fun u K => u = v ∧ K = H' := by
  intro w0 f args H v H' h
  unfold stepK at h
  split at h
  · rename_i r hr
    cases h
    exact hk w0 f args H v H' hr
  · exact hg w0 f args H v H' h
theorem LoopOKT.wp [Ext] {P : Program} {T : Prop} {R : Option Nat → Prop} {w0 : World} {nt : Nat} {c : Code} {a : VT} {H : VH} {x : VX} {a₁ : VT} {H₁ : VH} (h : LoopOKT P T R w0 nt c a H x a₁ H₁) (r : Option Nat) (hR : R r) (φ : Phi) (act : Act) (w : World) (ht : TR φ a act.tmps) (hs : HSim w0 φ H w) (hn : nt ≤ act.tmps.size) (b : Nat → Prop) (hbs : T → ∀ r, w.heap.size ≤ r → b r) (hd : MarksOK b w0 φ H w act.defers) :
    (Code.loop c).wpIn (Fr r) 0 P (PostC b w0 φ w act.tmps.size H x a₁ H₁) act w := by
  obtain ⟨m, hm⟩ := h
  exact wpIn_loop_rounds m (hm r hR φ act w ht hs hn b hbs hd _ fun _ _ _ k => k)
/-- One step more, of code. -/
theorem stepC_ok [Ext] {P : Program} (hng : NoNG P) {R : Option Nat → Prop} {top' : Bool} {T : Prop} (hT : top' = true → T) (htop : top' = true → ∀ r, R r → r = none) {de : DE} {rc : CE} {fe : FE} (hde : DEok P de) (hfe : FEok P fe) (hl : ∀ w0 nt c a H x a₁ H₁, rc nt (.loop c) a H = some (x, a₁, H₁) → nt ≤ top → LoopOKT P T R w0 nt c a H x a₁ H₁) (hrc : CEokT P T R rc) :
    (∀ w0 nt c a H x a₁ H₁, stepC top' P de rc fe nt (.loop c) a H = some (x, a₁, H₁) → nt ≤ top → LoopOKT P T R w0 nt c a H x a₁ H₁) ∧ CEokT P T R (stepC top' P de rc fe) := by
  have loops : ∀ w0 nt c a H x a₁ H₁, stepC top' P de rc fe nt (.loop c) a H = some (x, a₁, H₁) → nt ≤ top → LoopOKT P T R w0 nt c a H x a₁ H₁ := by
    intro w0 nt c a H x a₁ H₁ h hb
    simp only [stepC] at h
    cases hy : rc nt c a H with
    | none => rw [hy] at h; cases h
    | some t =>
      obtain ⟨e, a', H'⟩ := t
      rw [hy] at h
      cases e with
      | normal =>
        simp only at h
        obtain ⟨m, hm⟩ := hl w0 nt c a' H' x a₁ H₁ h hb
        refine ⟨m + 1, fun r hR φ act w ht hs hn b hbs hd Q hQ => ?_⟩
        rw [roundsIn_succ]
        refine wpIn_mono (hrc w0 nt c a H _ a' H' hy hb r hR φ act w ht hs hn b hbs hd) ?_
        intro e act' w' hp
        obtain ⟨φ', rfl, k2, k3, k4, k5, k6, k7⟩ := hp
        refine hm r hR φ' act' w' k3 k4 (by omega) b (fun t r hr => hbs t r (by have := k2.wk.size; omega)) k7 Q fun e'' act'' w'' hp' => hQ e'' act'' w'' ?_
        rw [k6] at hp'
        exact PostC.trans k2 k5 hp'
      | ret =>
        simp only [Option.some.injEq, Prod.mk.injEq] at h
        obtain ⟨rfl, rfl, rfl⟩ := h
        refine ⟨1, fun r hR φ act w ht hs hn b hbs hd Q hQ => ?_⟩
        rw [roundsIn_succ]
        refine wpIn_mono (hrc w0 nt c a H _ a' H' hy hb r hR φ act w ht hs hn b hbs hd) ?_
        intro e act' w' hp
        have he : e = .ret := by obtain ⟨φ', he, _⟩ := hp; exact he
        subst he
        exact hQ _ _ _ hp
      | exit id =>
        simp only [Option.some.injEq, Prod.mk.injEq] at h
        obtain ⟨rfl, rfl, rfl⟩ := h
        refine ⟨1, fun r hR φ act w ht hs hn b hbs hd Q hQ => ?_⟩
        rw [roundsIn_succ]
        refine wpIn_mono (hrc w0 nt c a H _ a' H' hy hb r hR φ act w ht hs hn b hbs hd) ?_
        intro e act' w' hp
        have he : e = .exit id := by obtain ⟨φ', he, _⟩ := hp; exact he
        subst he
        exact hQ _ _ _ hp
  refine ⟨loops, ?_⟩
  intro w0 nt c a H x a₁ H₁ h hb r hR φ act w ht hs hn b hbs hd
  by_cases hlp : ∃ b, c = .loop b
  · obtain ⟨c', rfl⟩ := hlp
    exact LoopOKT.wp (loops w0 nt c' a H x a₁ H₁ h hb) r hR φ act w ht hs hn b hbs hd
  · exact stepC_sound hng hT htop hrc hfe hde h (fun b e => hlp ⟨b, e⟩) hb r hR φ act w ht hs hn b hbs hd
theorem evN_sound [Ext] {P : Program} (hng : NoNG P) {dr : FE → DE} (hdr : ∀ fe, FEok P fe → DEok P (dr fe)) {kn : KN} (hkn : KnOK P kn) : ∀ n,
    ((∀ w0 nt c a H x a₁ H₁, (evN P dr kn n).1.1 nt (.loop c) a H = some (x, a₁, H₁) → nt ≤ top → LoopOK P (· = none) w0 nt c a H x a₁ H₁) ∧ CEok P (· = none) (evN P dr kn n).1.1) ∧
    ((∀ w0 nt c a H x a₁ H₁, (evN P dr kn n).1.2 nt (.loop c) a H = some (x, a₁, H₁) → nt ≤ top → LoopOKT P False (fun _ => True) w0 nt c a H x a₁ H₁) ∧ CEokT P False (fun _ => True) (evN P dr kn n).1.2) ∧ FEok P (evN P dr kn n).2 := by
  intro n
  induction n with
  | zero =>
    refine ⟨⟨?_, ?_⟩, ⟨?_, ?_⟩, ⟨?_, ?_⟩⟩
    · intro w0 nt c a H x a₁ H₁ h; cases h
    · intro w0 nt c a H x a₁ H₁ h; cases h
    · intro w0 nt c a H x a₁ H₁ h; cases h
    · intro w0 nt c a H x a₁ H₁ h; cases h
    · intro w0 f args H v H' h; cases h
    · intro w0 i args H v H' h; cases h
  | succ n ih =>
    obtain ⟨⟨ih1, ih2⟩, ⟨ih3, ih4⟩, ih5⟩ := ih
    rw [evN_succ]
    refine ⟨stepC_ok (top' := true) (T := True) hng (fun _ => trivial) (fun _ r hr => hr) (hdr _ ih5) ih5 ih1 ih2, stepC_ok (top' := false) (T := False) hng (fun h => absurd h (by simp)) (fun h => absurd h (by simp)) (hdr _ ih5) ih5 ih3 ih4, ⟨stepK_sound hkn (stepF_sound (R := (· = none)) rfl ih2), stepR_sound (fun _ => trivial) ih4⟩⟩
end
end Go.Ev
