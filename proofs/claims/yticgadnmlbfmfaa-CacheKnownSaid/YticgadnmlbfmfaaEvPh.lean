/- Engine, part Ph: outcomes: operations and code are sound. -/
import Derived.Test.YticgadnmlbfmfaaEvPg
namespace Go.Ev
noncomputable section
section
variable {P : Program}
theorem xStep_sound [Ext] (hng : NoNG P) {fe : FE} (hfe : FEok P fe) {xf : XFE} (hxf : XFok P xf) {w0 : World} {φ : Phi} {w : World} {a : VT} {act : Act} {H : VH} (ht : TR φ a act.tmps) (hs : HSim w0 φ H w) {o : Oper} {outs : List (VV × VH)} (h : xStep P fe xf o.op a H = some outs)
    (K : Act → World → Prop) (Q : Exit → Act → World → Prop)
    (hK : ∀ r ∈ outs, ∀ v' w₁ φ₁, St φ w φ₁ w₁ → VR φ₁ r.1 v' → HSim w0 φ₁ r.2 w₁ → r.2.base = H.base → K (act.put o.dst v') w₁) : o.wpIn (Fr none) 0 P act w K Q := by
  unfold xStep at h
  split at h
  · rename_i it hit
    cases hp : evOperand a it with
    | none => rw [hp] at h; cases h
    | some p =>
      rw [hp] at h
      simp only at h
      obtain ⟨v, H₁, v', w₁, k1, k2, k3, k4, k5, k6⟩ := nextX_sound (P := P) hs (evOperand_sound ht hp) h o.type
      obtain ⟨dst, op, type, pos, after, guard⟩ := o
      unfold isNext at hit
      split at hit
      · rename_i it' hop
        simp only [Option.some.injEq] at hit
        subst hit
        simp only at hop
        subst hop
        refine ⟨fun _ _ => trivial, ?_⟩
        rw [show (Fr none).round = none from rfl, Oper.semAt_none]
        have hr : (execOp act.eval ⟨dst, .next it' false, type, pos, after, guard⟩).run P w = .ok (.value v') w₁ := by
          simp only [execOp, Sem.run_bind, k2, Result.andThen_ok, Sem.run_pure]
        rw [hr]
        exact hK _ k1 v' w₁ φ k3 k4 k5 k6
      · cases hit
  · split at h
    · rename_i r hr
      simp only [Option.some.injEq] at h
      subst h
      split at hr
      · rename_i f args he
        unfold pEnter at he
        split at he
        · rename_i op g xs ts hop
          split at he
          · rename_i f' args' hg
            simp only [Option.some.injEq, Prod.mk.injEq] at he
            obtain ⟨rfl, rfl⟩ := he
            have hgo := Out_get (evE_sound hng ht hs o)
            rw [hop, hg] at hgo
            simp only at hgo
            obtain ⟨args'', h1, h2⟩ := hgo
            refine ⟨fun _ _ => trivial, ?_⟩
            rw [show (Fr none).round = none from rfl, Oper.semAt_none, h1]
            refine ⟨(fun hx => by cases hx), ?_⟩
            refine callsIn_fr.2 ((hxf w0 _ _ H _ hr φ w args'' h2 hs).mono ?_)
            rintro e w' ⟨r, hm, v', φ', rfl, k1, k2, k3, k4⟩
            exact hK r hm v' w' φ' k1 k2 k3 k4
          · cases he
        · cases he
      · cases hr
    · split at h
      · rename_i r hr
        simp only [Option.some.injEq] at h
        subst h
        exact opRun_sound hng hfe ht hs (opRun_noDefer (v := r.1) (H₁ := r.2) hr) hr none K Q (hK r (by simp))
      · cases h
theorem xOps_sound [Ext] (hng : NoNG P) {fe : FE} (hfe : FEok P fe) {xf : XFE} (hxf : XFok P xf) {w0 : World} {nt : Nat} (hb : nt ≤ top) {all : List Oper} : ∀ (l pre : List Oper) (a : VT) (H : VH) (outs : List (VT × VH)), all = pre ++ l → xOps P fe xf nt all l a H = some outs →
    ∀ (φ : Phi) (act : Act) (w : World), TR φ a act.tmps → HSim w0 φ H w → nt ≤ act.tmps.size → ∀ b', MarksOK b' w0 φ H w act.defers → ∀ (Q : Exit → Act → World → Prop), (∀ act' w', (∃ r ∈ outs, PostC b' w0 φ w act.tmps.size H .normal r.1 r.2 .normal act' w') → Q .normal act' w') →
    wpOpsIn (Fr none) 0 P ⟨all⟩ Q (List.range' pre.length l.length) act w := by
  intro l
  induction l with
  | nil =>
    intro pre a H outs _ h φ act w ht hs hn b' hdf Q hQ
    simp only [xOps, Option.some.injEq] at h
    subst h
    exact hQ act w ⟨(a, H), by simp, φ, rfl, .refl φ w, ht, hs, rfl, rfl, hdf⟩
  | cons o l ih =>
    intro pre a H outs hall h φ act w ht hs hn b' hdf Q hQ
    have hget : (⟨all⟩ : Array Oper)[pre.length]? = some o := by simp [hall]
    simp only [List.length_cons, List.range'_succ, wpOpsIn, hget]
    have hall' : all = (pre ++ [o]) ++ l := by simp [hall]
    have hlen : (pre ++ [o]).length = pre.length + 1 := by simp
    simp only [xOps] at h
    cases hgo : gOk all a o.guard with
    | false => rw [hgo] at h; cases h
    | true =>
    rw [hgo] at h
    simp only at h
    have hwant := wantedV_sound (ops := all) ht o hgo
    cases hw : wantedV all a o.guard with
    | true =>
      rw [hw] at h hwant
      rw [if_pos hwant]
      simp only at h
      cases hr : xStep P fe xf o.op a H with
      | none => rw [hr] at h; cases h
      | some mids =>
        rw [hr] at h
        simp only at h
        refine xStep_sound hng hfe hxf ht hs hr _ _ ?_
        intro r hm v' w₁ φ₁ k1 k2 k3 k4
        obtain ⟨part, e1, e2⟩ := bindL_mem h r hm
        cases hp : putD nt a o.dst r.1 with
        | none => rw [hp] at e1; cases e1
        | some a' =>
          rw [hp] at e1
          simp only at e1
          obtain ⟨p1, p2, p3⟩ := putD_sound (ht.mono k1.le) hn hb k2 hp
          have := ih (pre ++ [o]) a' r.2 part hall' e1 φ₁ (act.put o.dst v') w₁ p1 k3 (by omega) b' (by rw [p3]; exact hdf.step k1 k4) Q (fun act' w' ⟨q, hq, hp'⟩ => hQ act' w' ⟨q, e2 q hq, by rw [p2] at hp'; exact PostC.trans k1 k4 hp'⟩)
          rwa [hlen] at this
    | false =>
      rw [hw] at h hwant
      rw [if_neg (by simp [hwant])]
      simp only at h
      refine ⟨fun _ _ => trivial, ?_⟩
      cases hp : putD nt a o.dst vundef with
      | none => rw [hp] at h; cases h
      | some a' =>
        rw [hp] at h
        simp only at h
        obtain ⟨p1, p2, p3⟩ := putD_sound ht hn hb (VR_undef φ) hp
        have := ih (pre ++ [o]) a' H outs hall' h φ (act.put o.dst undef) w p1 hs (by omega) b' (by rw [p3]; exact hdf) Q (fun act' w' ⟨q, hq, hp'⟩ => hQ act' w' ⟨q, hq, by rw [p2] at hp'; exact hp'⟩)
        rwa [hlen] at this
end
end
end Go.Ev
