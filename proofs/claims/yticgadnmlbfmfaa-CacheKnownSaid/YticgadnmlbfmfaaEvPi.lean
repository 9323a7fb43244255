/- Engine, part Pi: outcomes: code is sound. -/
import Derived.Test.YticgadnmlbfmfaaEvPh
namespace Go.Ev
noncomputable section
section
variable {P : Program}
theorem PostX.trans [Ext] {b : Nat → Prop} {w0 : World} {φ φ' : Phi} {w w' : World} {sz : Nat} {H H₁ : VH} {part outs : List (VX × VT × VH)} {e : Exit} {act' : Act} {w'' : World} (hs : St φ w φ' w') (hb : H₁.base = H.base) (hsub : ∀ y ∈ part, y ∈ outs) (h : PostX b w0 φ' w' sz H₁ part e act' w'') : PostX b w0 φ w sz H outs e act' w'' := by
  obtain ⟨r, hr, hp⟩ := h
  exact ⟨r, hsub r hr, PostC.trans hs hb hp⟩
/-- So many rounds of a loop, from one state. -/
def RoundsX [Ext] (P : Program) (w0 : World) (nt : Nat) (c : Code) (a : VT) (H : VH) (outs : List (VX × VT × VH)) (m : Nat) : Prop :=
  ∀ (φ : Phi) (act : Act) (w : World), TR φ a act.tmps → HSim w0 φ H w → nt ≤ act.tmps.size → ∀ b : Nat → Prop, (∀ r, w.heap.size ≤ r → b r) → MarksOK b w0 φ H w act.defers → ∀ Q : Exit → Act → World → Prop, (∀ e act' w', PostX b w0 φ w act.tmps.size H outs e act' w' → Q e act' w') →
    Code.roundsIn (Fr none) 0 P c Q m act w
theorem RoundsX.le [Ext] {w0 : World} {nt : Nat} {c : Code} {a : VT} {H : VH} {outs : List (VX × VT × VH)} {m m' : Nat} (h : RoundsX P w0 nt c a H outs m) (hle : m ≤ m') : RoundsX P w0 nt c a H outs m' :=
  fun φ act w ht hs hn b hb hm Q hQ => roundsIn_le m m' act w hle (h φ act w ht hs hn b hb hm Q hQ)
def XLoopOK [Ext] (P : Program) (w0 : World) (nt : Nat) (c : Code) (a : VT) (H : VH) (outs : List (VX × VT × VH)) : Prop := ∃ m, RoundsX P w0 nt c a H outs m
theorem all_rounds {α : Type} {p : α → Nat → Prop} (hm : ∀ x m m', m ≤ m' → p x m → p x m') : ∀ (l : List α), (∀ x ∈ l, ∃ m, p x m) → ∃ m, ∀ x ∈ l, p x m
  | [], _ => ⟨0, fun x hx => by cases hx⟩
  | x :: l, h => by
    obtain ⟨m1, h1⟩ := h x (by simp)
    obtain ⟨m2, h2⟩ := all_rounds hm l (fun y hy => h y (by simp [hy]))
    refine ⟨max m1 m2, fun y hy => ?_⟩
    rcases List.mem_cons.1 hy with rfl | hy
    · exact hm _ _ _ (Nat.le_max_left _ _) h1
    · exact hm _ _ _ (Nat.le_max_right _ _) (h2 y hy)
theorem stepX_loop [Ext] {de : DE} {fe : FE} {rc : XCE} {xf : XFE} (hl : ∀ w0 nt c a H outs, rc nt (.loop c) a H = some outs → nt ≤ top → XLoopOK P w0 nt c a H outs) (hrc : XCok P rc) :
    ∀ w0 nt c a H outs, stepX P de fe rc xf nt (.loop c) a H = some outs → nt ≤ top → XLoopOK P w0 nt c a H outs := by
  intro w0 nt c a H outs h hb
  simp only [stepX] at h
  cases hy : rc nt c a H with
  | none => rw [hy] at h; cases h
  | some l =>
    rw [hy] at h
    simp only at h
    obtain ⟨M, hM⟩ := all_rounds (p := fun (r : VX × VT × VH) m => r.1 = .normal → ∀ part, rc nt (.loop c) r.2.1 r.2.2 = some part → RoundsX P w0 nt c r.2.1 r.2.2 part m) (fun r m m' hle k hr part hp => (k hr part hp).le hle) l (by
      intro r _
      cases hp : rc nt (.loop c) r.2.1 r.2.2 with
      | none => exact ⟨0, fun _ part hp' => by cases hp'⟩
      | some part =>
        obtain ⟨m, hm⟩ := hl w0 nt c r.2.1 r.2.2 part hp hb
        exact ⟨m, fun _ part' hp' => by cases hp'; exact hm⟩)
    refine ⟨M + 1, fun φ act w ht hs hn b hbs hd Q hQ => ?_⟩
    rw [roundsIn_succ]
    refine wpIn_mono (hrc w0 nt c a H l hy hb φ act w ht hs hn b hbs hd) ?_
    rintro e act' w' ⟨r, hr, hp⟩
    obtain ⟨part, e1, e2⟩ := bindL_mem h r hr
    obtain ⟨x, a', H'⟩ := r
    cases x with
    | normal =>
      simp only [thenX] at e1
      obtain ⟨φ', rfl, k2, k3, k4, k5, k6, k7⟩ := hp
      refine hM _ hr rfl part e1 φ' act' w' k3 k4 (by rw [k6]; exact hn) b (fun r hr => hbs r (by have := k2.wk.size; omega)) k7 Q fun e'' act'' w'' hp' => hQ e'' act'' w'' ?_
      rw [k6] at hp'
      exact PostX.trans k2 k5 e2 hp'
    | ret =>
      simp only [thenX, Option.some.injEq] at e1
      subst e1
      have he : e = .ret := by obtain ⟨φ', he, _⟩ := hp; exact he
      subst he
      exact hQ _ _ _ ⟨_, e2 _ (by simp), hp⟩
    | exit id =>
      simp only [thenX, Option.some.injEq] at e1
      subst e1
      have he : e = .exit id := by obtain ⟨φ', he, _⟩ := hp; exact he
      subst he
      exact hQ _ _ _ ⟨_, e2 _ (by simp), hp⟩
theorem CEok_none [Ext] : CEok P (· = none) (fun _ _ _ _ => none) := fun _ _ _ _ _ _ _ _ h => by cases h
/-- A range over a function whose outcomes are many. -/
theorem rangeX_sound [Ext] (hng : NoNG P) {de : DE} {fe : FE} {rc : XCE} {xf : XFE} (hxf : XFok P xf) {w0 : World} {nt : Nat} {g : Operand} {ps : List Tmp} {asg bd : Code} {a : VT} {H : VH} {outs : List (VX × VT × VH)} (h : stepX P de fe rc xf nt (.rangeFunc g ⟨ps⟩ asg bd) a H = some outs) (hb : nt ≤ top)
    (φ : Phi) (act : Act) (w : World) (ht : TR φ a act.tmps) (hs : HSim w0 φ H w) (hn : nt ≤ act.tmps.size) (b : Nat → Prop) (hbs : ∀ r, w.heap.size ≤ r → b r) (hm : MarksOK b w0 φ H w act.defers) : (Code.rangeFunc g ⟨ps⟩ asg bd).wpIn (Fr none) 0 P (PostX b w0 φ w act.tmps.size H outs) act w := by
  simp only [stepX] at h
  split at h
  · rename_i f first cap hg hnx
    have hnx' : H.next < top := lt_of_blt hnx
    split at h
    · rename_i f' args hen
      cases hcl : xf f' args (H.alloc (.loop .ready none a nt ps asg bd)) with
      | none => rw [hcl] at h; cases h
      | some l =>
        rw [hcl] at h
        simp only at h
        refine wpIn_rangeFunc (F := Fr none) (n := 0) fun fn _ => ?_
        have hgv := evOperand_sound ht hg
        simp only [VR] at hgv
        obtain ⟨first', cap', _, g1, g2, g3⟩ := hgv
        let wd : World := w.alloc (.deferred (some []))
        let lo : Obj := .loop { state := .ready, pending := none, fn := fn, tmps := act.tmps, params := ⟨ps⟩, assign := asg, body := bd, defers := w.heap.size }
        have hwd : wd.heap.size = w.heap.size + 1 := by simp [wd, World.size_alloc]
        have hsd : HSim w0 φ H wd := hs.grow _
        have hfresh := hs.fresh H.next (Nat.le_refl _)
        have hle := Phi.le_ext (φ := φ) ⟨wd.heap.size, 0, 0⟩ hfresh
        have hs1 : HSim w0 (φ.ext H.next ⟨wd.heap.size, 0, 0⟩) (H.alloc (.loop .ready none a nt ps asg bd)) (wd.alloc lo) := hsd.alloc hnx' 0 _ _ ⟨act.tmps, fn, w.heap.size, rfl, ht.mono hle, hn⟩
        have st1 : St φ w (φ.ext H.next ⟨wd.heap.size, 0, 0⟩) (wd.alloc lo) := (St.grow φ w _).trans (St.alloc hsd lo 0)
        have hargs : f' = f ∧ args = first ++ (.yield H.next :: cap) ∧ evEnter P (H.alloc (.loop .ready none a nt ps asg bd)) f (first ++ (.yield H.next :: cap)) = .enter f' args := by
          unfold evEnter at hen ⊢
          cases hfn : P.funcs[f]? with
          | none => rw [hfn] at hen; cases hen
          | some fn' =>
            rw [hfn] at hen
            simp only at hen ⊢
            cases hb : fn'.body with
            | some c => rw [hb] at hen; simp only at hen ⊢; cases hen; exact ⟨rfl, rfl, rfl⟩
            | none => rw [hb] at hen; simp only at hen; unfold evExt at hen; split at hen <;> cases hen
        obtain ⟨rfl, rfl, hen'⟩ := hargs
        have hva : VRs (φ.ext H.next ⟨wd.heap.size, 0, 0⟩) (first ++ (.yield H.next :: cap)) (first' ++ (.func (.yield wd.heap.size) #[] #[] :: cap')) := by
          refine VRs_append (g1.mono hle) ?_
          simp only [VRs]
          exact ⟨_, _, rfl, by simp only [VR]; exact ⟨_, Phi.ext_self _ _ _, rfl⟩, g2.mono hle⟩
        have hcf := evEnter_sound hng hs1 (g := f') hva
        rw [hen'] at hcf
        obtain ⟨args'', hc1, hc2⟩ := hcf
        refine ⟨wd.heap.size, [markOf w.heap.size], wd.alloc lo, { target := .fn (.func f') ⟨cap'⟩, args := ⟨first'⟩ ++ #[.func (.yield wd.heap.size) #[] #[]] }, wd.alloc lo, f', ⟨args''⟩, wd.alloc lo, ?_, ?_, fun _ _ => trivial, ?_, (fun hx => by cases hx), ?_⟩
        · simp only [Instr.enterLoop, Fr, Sem.run_bind, run_newObj, Result.andThen_ok, Sem.run_pure]
          rfl
        · simp only [resolve, g3, Deferred.ofValue, Sem.run_pure]
          simp [Act.eval]
        · simp only [invoke]
          rw [← hc1]
          congr 2
          apply Array.ext'
          simp
        · refine callsIn_fr.2 ((hxf w0 f' _ _ l hcl _ _ args'' hc2 hs1).mono ?_)
          rintro e w' ⟨⟨u, H'⟩, hmem, v', φ', rfl, k1, k2, k3, k4⟩
          simp only at k2 k3 k4
          obtain ⟨part, e1, e2⟩ := bindL_mem h _ hmem
          simp only at e1
          split at e1
          · rename_i q haf
            obtain ⟨x, a₁, H₁⟩ := q
            simp only [Option.some.injEq] at e1
            subst e1
            have hm1 : MarksOK b w0 (φ.ext H.next ⟨wd.heap.size, 0, 0⟩) (H.alloc (.loop .ready none a nt ps asg bd)) (wd.alloc lo) (markOf w.heap.size :: act.defers) := by
              refine (hm.step st1 rfl).cons (fun r' hr' e => ?_) (hbs _ (Nat.le_refl _)) ?_ (fun k inf hk => ?_) hs.oldSize ?_
              · have := hm.lt hr'
                omega
              · rw [alloc_old (by omega)]; exact alloc_new
              · simp only [Phi.ext] at hk
                split at hk
                · cases hk; simp only; omega
                · have := hs.bound k inf hk; omega
              · show H.base.blk w.heap.size = none
                cases hbb : H.base.blk w.heap.size with
                | none => rfl
                | some y => obtain ⟨ob, hw, _⟩ := hs.base _ y hbb; have := get_lt hw; omega
            have hφ' : φ' H.next = some ⟨wd.heap.size, 0, 0⟩ := k1.le.1 _ _ (Phi.ext_self _ _ _)
            have st2 := st1.trans k1
            refine afterRange_sound CEok_none haf hb none rfl hφ' (act := { act with defers := [markOf w.heap.size] ++ act.defers }) (ht.mono st2.le) k3 hn (fun _ r hr => hbs r (by have := st2.wk.size; omega)) (hm1.step k1 k4) ?_
            intro e act' w'' hp
            exact ⟨(x, a₁, H₁), e2 _ (List.mem_singleton.2 rfl), PostC.trans st2 k4 hp⟩
          · cases e1
    · cases h
  · cases h
theorem stepX_sound [Ext] (hng : NoNG P) {de : DE} {fe : FE} {rc : XCE} {xf : XFE} (hrc : XCok P rc) (hfe : FEok P fe) (hde : DEok P de) (hxf : XFok P xf) (hl : ∀ w0 nt c a H outs, rc nt (.loop c) a H = some outs → nt ≤ top → XLoopOK P w0 nt c a H outs) : XCok P (stepX P de fe rc xf) := by
  intro w0 nt c a H outs h hb φ act w ht hs hn b hbs hd
  have self : ∀ y, PostX b w0 φ w act.tmps.size H [(y, a, H)] (VX.real y) act w := fun y => ⟨(y, a, H), List.mem_singleton.2 rfl, φ, rfl, .refl φ w, ht, hs, rfl, rfl, hd⟩
  cases c with
  | loop c =>
    obtain ⟨m, hm⟩ := stepX_loop hl hrc w0 nt c a H outs h hb
    exact wpIn_loop_rounds m (hm φ act w ht hs hn b hbs hd _ fun _ _ _ k => k)
  | skip =>
    simp only [stepX, Option.some.injEq] at h
    subst h
    exact wpIn_skip (self .normal)
  | region id ops draw =>
    obtain ⟨ops⟩ := ops
    cases draw with
    | false =>
      simp only [stepX] at h
      cases hr : xOps P fe xf nt ops ops a H with
      | none => rw [hr] at h; cases h
      | some l =>
        rw [hr] at h
        simp only [Option.some.injEq] at h
        subst h
        have := xOps_sound hng hfe hxf (w0 := w0) hb ops [] a H l rfl hr φ act w ht hs hn b hd (PostX b w0 φ w act.tmps.size H (l.map fun r => (.normal, r))) (fun act' w' ⟨r, hr, hp⟩ => ⟨(.normal, r), List.mem_map.2 ⟨r, hr, rfl⟩, hp⟩)
        refine wpIn_region ?_
        have e : List.range (⟨ops⟩ : Array Oper).size = List.range' ([] : List Oper).length ops.length := by simp [List.range_eq_range']
        rw [e]
        exact this
    | true =>
      simp only [stepX] at h
      cases hr : de nt ops a H with
      | none => rw [hr] at h; cases h
      | some ah =>
        obtain ⟨a', H'⟩ := ah
        rw [hr] at h
        simp only [Option.some.injEq] at h
        subst h
        exact wpIn_mono (hde w0 nt id ops a H a' H' hr hb none φ act w ht hs hn b hd) fun e act' w' hp => ⟨(.normal, a', H'), List.mem_singleton.2 rfl, hp⟩
  | seq y z =>
    simp only [stepX] at h
    refine wpIn_seq ?_
    cases hy : rc nt y a H with
    | none => rw [hy] at h; cases h
    | some l =>
      rw [hy] at h
      simp only at h
      refine wpIn_mono (hrc w0 nt y a H l hy hb φ act w ht hs hn b hbs hd) ?_
      rintro e act' w' ⟨⟨x, a', H'⟩, hr, hp⟩
      obtain ⟨part, e1, e2⟩ := bindL_mem h _ hr
      cases x with
      | normal =>
        simp only [thenX] at e1
        obtain ⟨φ', rfl, k2, k3, k4, k5, k6, k7⟩ := hp
        refine wpIn_mono (hrc w0 nt z a' H' part e1 hb φ' act' w' k3 k4 (by rw [k6]; exact hn) b (fun r hr => hbs r (by have := k2.wk.size; omega)) k7) ?_
        intro e'' act'' w'' hp'
        rw [k6] at hp'
        exact PostX.trans k2 k5 e2 hp'
      | ret =>
        simp only [thenX, Option.some.injEq] at e1
        subst e1
        have he : e = .ret := by obtain ⟨φ', he, _⟩ := hp; exact he
        subst he
        exact ⟨_, e2 _ (List.mem_singleton.2 rfl), hp⟩
      | exit id =>
        simp only [thenX, Option.some.injEq] at e1
        subst e1
        have he : e = .exit id := by obtain ⟨φ', he, _⟩ := hp; exact he
        subst he
        exact ⟨_, e2 _ (List.mem_singleton.2 rfl), hp⟩
  | cond c y z =>
    simp only [stepX] at h
    cases hc : evOperand a c with
    | none => rw [hc] at h; cases h
    | some v => cases v with
      | bool b' =>
        rw [hc] at h
        have hv := evOperand_sound ht hc
        simp only [VR] at hv
        refine wpIn_cond hv ?_
        cases b' with
        | true => exact hrc w0 nt y a H outs h hb φ act w ht hs hn b hbs hd
        | false => exact hrc w0 nt z a H outs h hb φ act w ht hs hn b hbs hd
      | _ => rw [hc] at h; cases h
  | block id c =>
    simp only [stepX] at h
    refine wpIn_block ?_
    cases hy : rc nt c a H with
    | none => rw [hy] at h; cases h
    | some l =>
      rw [hy] at h
      simp only [Option.some.injEq] at h
      subst h
      refine wpIn_mono (hrc w0 nt c a H l hy hb φ act w ht hs hn b hbs hd) ?_
      rintro e' act' w' ⟨⟨x, a', H'⟩, hr, hp⟩
      have hmem := List.mem_map_of_mem (f := outOf id) hr
      obtain ⟨φ', rfl, k2⟩ := hp
      cases x with
      | normal => exact ⟨_, hmem, φ', rfl, k2⟩
      | ret => exact ⟨_, hmem, φ', rfl, k2⟩
      | exit j =>
        simp only [VX.real, Exit.inBlock]
        cases hj : Nat.beq j id with
        | true =>
          rw [if_pos (Nat.eq_of_beq_eq_true hj)]
          simp only [outOf, hj] at hmem
          exact ⟨_, hmem, φ', rfl, k2⟩
        | false =>
          rw [if_neg (by intro e; rw [e] at hj; simp at hj)]
          simp only [outOf, hj] at hmem
          exact ⟨_, hmem, φ', rfl, k2⟩
  | exit id =>
    simp only [stepX, Option.some.injEq] at h
    subst h
    exact wpIn_exit (self (.exit id))
  | ret =>
    simp only [stepX, Option.some.injEq] at h
    subst h
    exact wpIn_ret (self .ret)
  | label l =>
    simp only [stepX, Option.some.injEq] at h
    subst h
    exact wpIn_label (self .normal)
  | scope c =>
    simp only [stepX] at h
    refine wpIn_scope (wpIn_mono (hrc w0 nt c a H outs h hb φ act w ht hs hn b hbs hd) ?_)
    rintro e act' w' ⟨r, hr, φ', rfl, k⟩
    cases hx : r.1 <;> exact ⟨r, hr, φ', by rw [hx], k⟩
  | rangeFunc g ps asg bd =>
    obtain ⟨ps⟩ := ps
    exact rangeX_sound hng hxf h hb φ act w ht hs hn b hbs hd
  | _ => simp [stepX] at h
end
end
end Go.Ev
