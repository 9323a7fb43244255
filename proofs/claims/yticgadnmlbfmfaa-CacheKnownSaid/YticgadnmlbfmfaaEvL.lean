/- Engine, part L: code and calls are sound. -/
import Derived.Test.YticgadnmlbfmfaaEvK
namespace Go.Ev
noncomputable section
abbrev DE := Nat → List Oper → VT → VH → Option (VT × VH)
/-- T: may there be ranges over functions? -/
def CEokT [Ext] (P : Program) (T : Prop) (R : Option Nat → Prop) (ce : CE) : Prop := ∀ w0 nt c a H x a₁ H₁, ce nt c a H = some (x, a₁, H₁) → nt ≤ top → ∀ (r : Option Nat), R r → ∀ (φ : Phi) (act : Act) (w : World), TR φ a act.tmps → HSim w0 φ H w → nt ≤ act.tmps.size → ∀ b : Nat → Prop, (T → ∀ r, w.heap.size ≤ r → b r) → MarksOK b w0 φ H w act.defers →
  c.wpIn (Fr r) 0 P (PostC b w0 φ w act.tmps.size H x a₁ H₁) act w
abbrev CEok [Ext] (P : Program) (R : Option Nat → Prop) (ce : CE) : Prop := CEokT P True R ce
theorem CEokT.true [Ext] {P : Program} {T : Prop} {R : Option Nat → Prop} {ce : CE} (h : CEokT P T R ce) : CEok P R ce :=
  fun w0 nt c a H x a₁ H₁ hc hn r hr φ act w ht hs hz b hb hm => h w0 nt c a H x a₁ H₁ hc hn r hr φ act w ht hs hz b (fun _ => hb trivial) hm
def DEok [Ext] (P : Program) (de : DE) : Prop := ∀ w0 nt id ops a H a₁ H₁, de nt ops a H = some (a₁, H₁) → nt ≤ top → ∀ (r : Option Nat) (φ : Phi) (act : Act) (w : World), TR φ a act.tmps → HSim w0 φ H w → nt ≤ act.tmps.size → ∀ b, MarksOK b w0 φ H w act.defers →
  (Code.region id ⟨ops⟩ true).wpIn (Fr r) 0 P (PostC b w0 φ w act.tmps.size H .normal a₁ H₁) act w
/-- A loop, so many rounds. -/
def LoopOKT [Ext] (P : Program) (T : Prop) (R : Option Nat → Prop) (w0 : World) (nt : Nat) (c : Code) (a : VT) (H : VH) (x : VX) (a₁ : VT) (H₁ : VH) : Prop :=
  ∃ m, ∀ (r : Option Nat), R r → ∀ (φ : Phi) (act : Act) (w : World), TR φ a act.tmps → HSim w0 φ H w → nt ≤ act.tmps.size → ∀ b : Nat → Prop, (T → ∀ r, w.heap.size ≤ r → b r) → MarksOK b w0 φ H w act.defers → ∀ Q : Exit → Act → World → Prop, (∀ e act' w', PostC b w0 φ w act.tmps.size H x a₁ H₁ e act' w' → Q e act' w') →
    Code.roundsIn (Fr r) 0 P c Q m act w
abbrev LoopOK [Ext] (P : Program) (R : Option Nat → Prop) (w0 : World) (nt : Nat) (c : Code) (a : VT) (H : VH) (x : VX) (a₁ : VT) (H₁ : VH) : Prop := LoopOKT P True R w0 nt c a H x a₁ H₁
theorem VX_real_normal {x : VX} : x.real = .normal ↔ x = .normal := by cases x <;> simp [VX.real]
section
variable {P : Program} {R : Option Nat → Prop} {top' : Bool} {rc : CE} {fe : FE} {de : DE}
theorem MarksOK.cons {b : Nat → Prop} {w0 : World} {φ : Phi} {H : VH} {w : World} {ds : List Deferred} (h : MarksOK b w0 φ H w ds) {r : Nat} (hr : ∀ r', markOf r' ∈ ds → r' ≠ r) (h1 : b r) (h2 : w.heap[r]? = some (.deferred (some []))) (h3 : ∀ i inf, φ i = some inf → inf.blk ≠ r) (h4 : w0.heap.size ≤ r) (h5 : H.base.blk r = none) : MarksOK b w0 φ H w (markOf r :: ds) := by
  obtain ⟨rs, rfl, k2, k3⟩ := h
  refine ⟨r :: rs, rfl, List.nodup_cons.2 ⟨fun hm => hr r (List.mem_map_of_mem hm) rfl, k2⟩, fun x hx => ?_⟩
  rcases List.mem_cons.1 hx with rfl | hx
  · exact ⟨h1, h2, h3, h4, h5⟩
  · exact k3 x hx
theorem MarksOK.lt {b : Nat → Prop} {w0 : World} {φ : Phi} {H : VH} {w : World} {ds : List Deferred} (h : MarksOK b w0 φ H w ds) {r : Nat} (hr : markOf r ∈ ds) : r < w.heap.size := by
  obtain ⟨rs, rfl, _, k3⟩ := h
  obtain ⟨x, hx, e⟩ := List.mem_map.1 hr
  have : x = r := by simpa [markOf] using e
  subst this
  exact (Array.getElem?_eq_some_iff.1 (k3 x hx).2.1).1
theorem run_getLoop {P : Program} {w : World} {l : Nat} {L : Loop} (h : w.heap[l]? = some (.loop L)) : (Instr.getLoop l).run P w = .ok L w := by
  simp [Instr.getLoop, getObj, Sem.run_bind, Sem.run, h]
theorem run_setLoop {P : Program} {w : World} {l : Nat} {L : Loop} (h : w.heap[l]? = some (.loop L)) (o : Obj) : ∃ w₁, (setObj l o).run P w = .ok () w₁ ∧ Upd w w₁ l o :=
  let ⟨h1, h2⟩ := run_setObj (P := P) (o₁ := o) h (by simp)
  ⟨_, h1, h2⟩
/-- A range over a function: what is behind its call. -/
theorem afterRange_sound [Ext] (hrc : CEok P R rc) {w0 : World} {nt : Nat} {i : Nat} {a : VT} {H H₁ : VH} {x : VX} {a₁ : VT} (h : afterRange rc nt i a H = some (x, a₁, H₁)) (hb : nt ≤ top) (r : Option Nat) (hR : R r)
    {φ : Phi} {inf : Inf} (hφ : φ i = some inf) {act : Act} {w : World} (ht : TR φ a act.tmps) (hs : HSim w0 φ H w) (hn : nt ≤ act.tmps.size) {b : Nat → Prop} (hbs : True → ∀ r, w.heap.size ≤ r → b r) (hm : MarksOK b w0 φ H w act.defers) {Q : Exit → Act → World → Prop}
    (hQ : ∀ e act' w', PostC b w0 φ w act.tmps.size H x a₁ H₁ e act' w' → Q e act' w') :
    ∃ jump w₄, (Instr.endLoop inf.blk).run P w = .ok jump w₄ ∧ (match jump with | none => Q .normal act w₄ | some c => c.wpIn (Fr r) 0 P Q act w₄) := by
  unfold afterRange at h
  cases hg : H.locs.get i with
  | none => rw [hg] at h; cases h
  | some o => cases o with
    | loop st pend tm n ps asg bd =>
      rw [hg] at h
      simp only at h
      obtain ⟨inf', o', h1, h2, ⟨tmps', fn, d, rfl, h3, h4⟩, _⟩ := hs.live i _ hg
      rw [hφ] at h1; cases h1
      have hnb : st ≠ .busy := by intro e; subst e; simp at h
      have hst : (st == LoopState.busy) = false := by cases st <;> first | rfl | exact absurd rfl hnb
      have h : (match pend with
          | none => some (VX.normal, a, { H with locs := H.locs.put i (.loop .exhausted none tm n ps asg bd) })
          | some c => rc nt c a { H with locs := H.locs.put i (.loop .exhausted (some c) tm n ps asg bd) }) = some (x, a₁, H₁) := by
        cases st with
        | busy => exact absurd rfl hnb
        | ready => cases pend <;> exact h
        | done => cases pend <;> exact h
        | exhausted => cases pend <;> exact h
      obtain ⟨w₁, g1, g2⟩ := run_setLoop (P := P) h2 (.loop { state := .exhausted, pending := pend, fn := fn, tmps := tmps', params := ⟨ps⟩, assign := asg, body := bd, defers := d })
      have hend : (Instr.endLoop inf.blk).run P w = .ok pend w₁ := by
        simp only [Instr.endLoop, Sem.run_bind, run_getLoop h2, Result.andThen_ok, hst, Bool.false_eq_true, if_false, Sem.run_pure, g1]
      have hs' : ∀ q, q = pend → HSim w0 φ { H with locs := H.locs.put i (.loop .exhausted q tm n ps asg bd) } w₁ := fun q hq => by subst hq; exact hs.put hg hφ g2 ⟨tmps', fn, d, rfl, h3, h4⟩
      have st' : St φ w φ w₁ := St.upd hφ g2
      refine ⟨pend, w₁, hend, ?_⟩
      cases pend with
      | none =>
        simp only [Option.some.injEq, Prod.mk.injEq] at h
        obtain ⟨rfl, rfl, rfl⟩ := h
        exact hQ _ _ _ ⟨φ, rfl, st', ht, hs' none rfl, rfl, rfl, hm.step st' rfl⟩
      | some c =>
        simp only at h
        refine wpIn_mono (hrc w0 nt c a _ x a₁ H₁ h hb r hR φ act w₁ ht (hs' _ rfl) hn b (fun t r hr => hbs t r (by rw [← g2.size]; exact hr)) (hm.step st' rfl)) ?_
        intro e act' w' hp
        exact hQ e act' w' (PostC.trans st' rfl hp)
    | _ => rw [hg] at h; cases h
theorem rangeFunc_sound [Ext] (hng : NoNG P) (hrc : CEok P R rc) (hfe : FEok P fe) {w0 : World} {nt : Nat} {g : Operand} {ps : List Tmp} {asg bd : Code} {a : VT} {H : VH} {x : VX} {a₁ : VT} {H₁ : VH} (h : stepC true P de rc fe nt (.rangeFunc g ⟨ps⟩ asg bd) a H = some (x, a₁, H₁)) (hb : nt ≤ top)
    (hR : R none) (φ : Phi) (act : Act) (w : World) (ht : TR φ a act.tmps) (hs : HSim w0 φ H w) (hn : nt ≤ act.tmps.size) (b : Nat → Prop) (hbs : True → ∀ r, w.heap.size ≤ r → b r) (hm : MarksOK b w0 φ H w act.defers) : (Code.rangeFunc g ⟨ps⟩ asg bd).wpIn (Fr none) 0 P (PostC b w0 φ w act.tmps.size H x a₁ H₁) act w := by
  simp only [stepC] at h
  split at h
  · rename_i f first cap _ hg hnx
    have hnx' : H.next < top := lt_of_blt hnx
    split at h
    · rename_i f' args hen
      cases hcl : fe.call f' args (H.alloc (.loop .ready none a nt ps asg bd)) with
      | none => rw [hcl] at h; cases h
      | some vh =>
        obtain ⟨v, H2⟩ := vh
        rw [hcl] at h
        simp only at h
        refine wpIn_rangeFunc (F := Fr none) (n := 0) fun fn _ => ?_
        have hgv := evOperand_sound ht hg
        simp only [VR] at hgv
        obtain ⟨first', cap', _, g1, g2, g3⟩ := hgv
        let wd : World := w.alloc (.deferred (some []))
        let lo : Obj := .loop { state := .ready, pending := none, fn := fn, tmps := act.tmps, params := ⟨ps⟩, assign := asg, body := bd, defers := w.heap.size }
        have hwd : wd.heap.size = w.heap.size + 1 := by simp [wd, World.size_alloc]
        have hsd : HSim w0 φ H wd := hs.grow _
        have hfresh := hs.fresh H.next (Nat.le_refl _)
        have hle := Phi.le_ext (φ := φ) ⟨wd.heap.size, 0, 0⟩ hfresh
        have hs1 : HSim w0 (φ.ext H.next ⟨wd.heap.size, 0, 0⟩) (H.alloc (.loop .ready none a nt ps asg bd)) (wd.alloc lo) := hsd.alloc hnx' 0 _ _ ⟨act.tmps, fn, w.heap.size, rfl, ht.mono hle, hn⟩
        have st1 : St φ w (φ.ext H.next ⟨wd.heap.size, 0, 0⟩) (wd.alloc lo) := (St.grow φ w _).trans (St.alloc hsd lo 0)
        have hargs : f' = f ∧ args = first ++ (.yield H.next :: cap) ∧ evEnter P (H.alloc (.loop .ready none a nt ps asg bd)) f (first ++ (.yield H.next :: cap)) = .enter f' args := by
          unfold evEnter at hen ⊢
          cases hfn : P.funcs[f]? with
          | none => rw [hfn] at hen; cases hen
          | some fn' =>
            rw [hfn] at hen
            simp only at hen ⊢
            cases hb : fn'.body with
            | some c => rw [hb] at hen; simp only at hen ⊢; cases hen; exact ⟨rfl, rfl, rfl⟩
            | none => rw [hb] at hen; simp only at hen; unfold evExt at hen; split at hen <;> cases hen
        obtain ⟨rfl, rfl, hen'⟩ := hargs
        have hva : VRs (φ.ext H.next ⟨wd.heap.size, 0, 0⟩) (first ++ (.yield H.next :: cap)) (first' ++ (.func (.yield wd.heap.size) #[] #[] :: cap')) := by
          refine VRs_append (g1.mono hle) ?_
          simp only [VRs]
          exact ⟨_, _, rfl, by simp only [VR]; exact ⟨_, Phi.ext_self _ _ _, rfl⟩, g2.mono hle⟩
        have hcf := evEnter_sound hng hs1 (g := f') hva
        rw [hen'] at hcf
        obtain ⟨args'', hc1, hc2⟩ := hcf
        refine ⟨wd.heap.size, [markOf w.heap.size], wd.alloc lo, { target := .fn (.func f') ⟨cap'⟩, args := ⟨first'⟩ ++ #[.func (.yield wd.heap.size) #[] #[]] }, wd.alloc lo, f', ⟨args''⟩, wd.alloc lo, ?_, ?_, fun _ _ => trivial, ?_, (fun hx => by cases hx), ?_⟩
        · simp only [Instr.enterLoop, Fr, Sem.run_bind, run_newObj, Result.andThen_ok, Sem.run_pure]
          rfl
        · simp only [resolve, g3, Deferred.ofValue, Sem.run_pure]
          simp [Act.eval]
        · simp only [invoke]
          rw [← hc1]
          congr 2
          apply Array.ext'
          simp
        · refine callsIn_fr.2 ((hfe.call w0 f' _ _ v H2 hcl _ _ args'' hc2 hs1).mono ?_)
          rintro e w' ⟨u, v', φ', H', rfl, k1, k2, k3, k4, rfl, rfl⟩
          have hm1 : MarksOK b w0 (φ.ext H.next ⟨wd.heap.size, 0, 0⟩) (H.alloc (.loop .ready none a nt ps asg bd)) (wd.alloc lo) (markOf w.heap.size :: act.defers) := by
            refine (hm.step st1 rfl).cons (fun r' hr' e => ?_) (hbs trivial _ (Nat.le_refl _)) ?_ (fun k inf hk => ?_) hs.oldSize ?_
            · have := hm.lt hr'
              omega
            · rw [alloc_old (by omega)]; exact alloc_new
            · simp only [Phi.ext] at hk
              split at hk
              · cases hk; simp only; omega
              · have := hs.bound k inf hk; omega
            · show H.base.blk w.heap.size = none
              cases hbb : H.base.blk w.heap.size with
              | none => rfl
              | some y => obtain ⟨ob, hw, _⟩ := hs.base _ y hbb; have := get_lt hw; omega
          have hφ' : φ' H.next = some ⟨wd.heap.size, 0, 0⟩ := k1.le.1 _ _ (Phi.ext_self _ _ _)
          have st2 := st1.trans k1
          refine afterRange_sound hrc h hb none hR hφ' (act := { act with defers := [markOf w.heap.size] ++ act.defers }) (ht.mono st2.le) k3 hn (fun t r hr => hbs t r (by have := st2.wk.size; omega)) (hm1.step k1 k4) ?_
          intro e act' w'' hp
          exact PostC.trans st2 k4 hp
    · cases h
  · cases h
theorem stepR_scope {b : Frame} {a : Act} {k : List Item} {cs : List Frame} {w : World} {c : Code} : step P (lone (b.atR a (.code (.scope c) :: k)) cs w) = .next (lone (b.atR a (.code c :: .inScope c :: k)) cs w) :=
  step_lone_go (by simp [stepG, stepG.exec, Frame.atR])
theorem stepR_inScope {b : Frame} {a : Act} {k : List Item} {cs : List Frame} {w : World} {c : Code} : step P (lone (b.atR a (.inScope c :: k)) cs w) = .next (lone (b.atR a k) cs w) :=
  step_lone_go (by simp [stepG, stepG.exec, Frame.atR])
/-- A scope of which no jump to a label goes out. -/
def noGoto (Q : Exit → Act → World → Prop) : Exit → Act → World → Prop
  | .goto _, _, _ => False
  | e, a, w => Q e a w
theorem wpIn_scope {F : Fence} {n : Nat} {Q : Exit → Act → World → Prop} {a : Act} {w : World} {c : Code} (h : c.wpIn F n P (noGoto Q) a w) : (Code.scope c).wpIn F n P Q a w := by
  intro b k cs hro hb hr
  have h0 : (lone (b.atR a (.code (.scope c) :: k)) cs w).fenced P F := fenced_calm hb hr rfl
  obtain ⟨e, a₁, w₁, hq, harr⟩ := h b (.inScope c :: k) cs hro hb hr
  cases e with
  | normal => exact ⟨.normal, a₁, w₁, hq, .head h0 stepR_scope (StepsIn.trans harr (.one (fenced_calm hb hr rfl) stepR_inScope))⟩
  | exit id =>
    have hx : exitTo id (.inScope c :: k) = exitTo id k := by simp [exitTo]
    exact ⟨.exit id, a₁, w₁, hq, fun k' hk => .head h0 stepR_scope (harr.1 k' (by rw [hx]; exact hk)),
      fun hr' hk => let ⟨k₁, h1, h2⟩ := harr.2 hr' (by rw [hx]; exact hk); ⟨k₁, h1, .head h0 stepR_scope h2⟩⟩
  | goto l => exact hq.elim
  | ret => exact ⟨_, a₁, w₁, hq, .of_steps (.one h0 stepR_scope) harr⟩
  | panic ch => exact ⟨_, a₁, w₁, hq, .of_steps (.one h0 stepR_scope) harr⟩
  | outgrown => exact ⟨_, a₁, w₁, hq, .of_steps (.one h0 stepR_scope) harr⟩
/-- The clauses of code but for the loop. -/
theorem stepC_sound [Ext] (hng : NoNG P) {T : Prop} (hT : top' = true → T) (htop : top' = true → ∀ r, R r → r = none) (hrc : CEokT P T R rc) (hfe : FEok P fe) (hde : DEok P de) {w0 : World} {nt : Nat} {c : Code} {a : VT} {H : VH} {x : VX} {a₁ : VT} {H₁ : VH} (h : stepC top' P de rc fe nt c a H = some (x, a₁, H₁)) (hnl : ∀ b, c ≠ .loop b) (hb : nt ≤ top)
    (r : Option Nat) (hR : R r) (φ : Phi) (act : Act) (w : World) (ht : TR φ a act.tmps) (hs : HSim w0 φ H w) (hn : nt ≤ act.tmps.size) (b : Nat → Prop) (hbs : T → ∀ r, w.heap.size ≤ r → b r) (hd : MarksOK b w0 φ H w act.defers) : c.wpIn (Fr r) 0 P (PostC b w0 φ w act.tmps.size H x a₁ H₁) act w := by
  have self : ∀ y, PostC b w0 φ w act.tmps.size H y a H (VX.real y) act w := fun y => ⟨φ, rfl, .refl φ w, ht, hs, rfl, rfl, hd⟩
  cases c with
  | skip =>
    simp only [stepC, Option.some.injEq, Prod.mk.injEq] at h
    obtain ⟨rfl, rfl, rfl⟩ := h
    exact wpIn_skip (self .normal)
  | region id ops draw =>
    obtain ⟨ops⟩ := ops
    cases draw with
    | false =>
      simp only [stepC] at h
      cases hr : runOps P fe nt ops ops a H with
      | none => rw [hr] at h; cases h
      | some ah =>
        obtain ⟨a', H'⟩ := ah
        rw [hr] at h
        simp only [Option.some.injEq, Prod.mk.injEq] at h
        obtain ⟨rfl, rfl, rfl⟩ := h
        have := runOps_sound hng hfe (w0 := w0) hb r ops [] a H a' H' rfl hr φ act w ht hs hn b hd (PostC b w0 φ w act.tmps.size H .normal a' H') (fun _ _ k => k)
        refine wpIn_region ?_
        have e : List.range (⟨ops⟩ : Array Oper).size = List.range' ([] : List Oper).length ops.length := by simp [List.range_eq_range']
        rw [e]
        exact this
    | true =>
      simp only [stepC] at h
      cases hr : de nt ops a H with
      | none => rw [hr] at h; cases h
      | some ah =>
        obtain ⟨a', H'⟩ := ah
        rw [hr] at h
        simp only [Option.some.injEq, Prod.mk.injEq] at h
        obtain ⟨rfl, rfl, rfl⟩ := h
        exact hde w0 nt id ops a H a' H' hr hb r φ act w ht hs hn b hd
  | seq y z =>
    simp only [stepC] at h
    refine wpIn_seq ?_
    cases hy : rc nt y a H with
    | none => rw [hy] at h; cases h
    | some t =>
      obtain ⟨e, a', H'⟩ := t
      rw [hy] at h
      have k := hrc w0 nt y a H e a' H' hy hb r hR φ act w ht hs hn b hbs hd
      refine wpIn_mono k ?_
      intro e' act' w' hp
      cases e with
      | normal =>
        simp only at h
        obtain ⟨φ', rfl, k2, k3, k4, k5, k6, k7⟩ := hp
        have k' := hrc w0 nt z a' H' x a₁ H₁ h hb r hR φ' act' w' k3 k4 (by omega) b (fun t r hr => hbs t r (by have := k2.wk.size; omega)) k7
        refine wpIn_mono k' ?_
        intro e'' act'' w'' hp'
        rw [k6] at hp'
        exact PostC.trans k2 k5 hp'
      | ret =>
        simp only [Option.some.injEq, Prod.mk.injEq] at h
        obtain ⟨rfl, rfl, rfl⟩ := h
        obtain ⟨φ', rfl, k2⟩ := hp
        exact ⟨φ', rfl, k2⟩
      | exit id =>
        simp only [Option.some.injEq, Prod.mk.injEq] at h
        obtain ⟨rfl, rfl, rfl⟩ := h
        obtain ⟨φ', rfl, k2⟩ := hp
        exact ⟨φ', rfl, k2⟩
  | cond c y z =>
    simp only [stepC] at h
    cases hc : evOperand a c with
    | none => rw [hc] at h; cases h
    | some v => cases v with
      | bool b =>
        rw [hc] at h
        have hv := evOperand_sound ht hc
        simp only [VR] at hv
        refine wpIn_cond hv ?_
        cases b with
        | true => exact hrc w0 nt y a H x a₁ H₁ h hb r hR φ act w ht hs hn b hbs hd
        | false => exact hrc w0 nt z a H x a₁ H₁ h hb r hR φ act w ht hs hn b hbs hd
      | _ => rw [hc] at h; cases h
  | block id c =>
    simp only [stepC] at h
    refine wpIn_block ?_
    cases hy : rc nt c a H with
    | none => rw [hy] at h; cases h
    | some t =>
      obtain ⟨e, a', H'⟩ := t
      rw [hy] at h
      have k := hrc w0 nt c a H e a' H' hy hb r hR φ act w ht hs hn b hbs hd
      refine wpIn_mono k ?_
      intro e' act' w' hp
      cases e with
      | normal =>
        simp only [Option.some.injEq, Prod.mk.injEq] at h
        obtain ⟨rfl, rfl, rfl⟩ := h
        obtain ⟨φ', rfl, k2⟩ := hp
        exact ⟨φ', rfl, k2⟩
      | ret =>
        simp only [Option.some.injEq, Prod.mk.injEq] at h
        obtain ⟨rfl, rfl, rfl⟩ := h
        obtain ⟨φ', rfl, k2⟩ := hp
        exact ⟨φ', rfl, k2⟩
      | exit j =>
        obtain ⟨φ', rfl, k2⟩ := hp
        simp only at h
        simp only [VX.real, Exit.inBlock]
        cases hj : Nat.beq j id with
        | true =>
          rw [hj] at h
          simp only [Option.some.injEq, Prod.mk.injEq] at h
          obtain ⟨rfl, rfl, rfl⟩ := h
          rw [if_pos (Nat.eq_of_beq_eq_true hj)]
          exact ⟨φ', rfl, k2⟩
        | false =>
          rw [hj] at h
          simp only [Option.some.injEq, Prod.mk.injEq] at h
          obtain ⟨rfl, rfl, rfl⟩ := h
          rw [if_neg (by intro e; rw [e] at hj; simp at hj)]
          exact ⟨φ', rfl, k2⟩
  | loop c => exact absurd rfl (hnl c)
  | exit id =>
    simp only [stepC, Option.some.injEq, Prod.mk.injEq] at h
    obtain ⟨rfl, rfl, rfl⟩ := h
    exact wpIn_exit (self (.exit id))
  | ret =>
    simp only [stepC, Option.some.injEq, Prod.mk.injEq] at h
    obtain ⟨rfl, rfl, rfl⟩ := h
    exact wpIn_ret (self .ret)
  | label l =>
    simp only [stepC, Option.some.injEq, Prod.mk.injEq] at h
    obtain ⟨rfl, rfl, rfl⟩ := h
    exact wpIn_label (self .normal)
  | scope c =>
    simp only [stepC] at h
    refine wpIn_scope (wpIn_mono (hrc w0 nt c a H x a₁ H₁ h hb r hR φ act w ht hs hn b hbs hd) ?_)
    rintro e act' w' ⟨φ', rfl, k⟩
    cases x <;> exact ⟨φ', rfl, k⟩
  | rangeFunc g ps asg bd =>
    obtain ⟨ps⟩ := ps
    cases top' with
    | false => simp [stepC] at h
    | true =>
      have hr0 := htop rfl r hR
      subst hr0
      exact rangeFunc_sound hng hrc.true hfe h hb hR φ act w ht hs hn b (fun _ => hbs (hT rfl)) hd
  | _ => simp [stepC] at h
end
/-! ### the results of a call -/
def resSem (tmps : Array Value) : ResultVar → Sem Value
  | .tmp t => pure (tmps.getD t undef)
  | .cell a t => do loadVar t (← asAddr (tmps.getD a undef))
theorem results_eq (fn : Func) (tmps : Array Value) : results fn tmps = (do
    let vs ← fn.results.mapM (resSem tmps)
    pure (if h : vs.size = 1 then vs[0] else .tuple vs)) := by
  unfold results
  congr 1
theorem resL_sound [Ext] {P : Program} {w0 : World} {φ : Phi} {H : VH} {w : World} {a : VT} {tmps : Array Value} (ht : TR φ a tmps) (hs : HSim w0 φ H w) : ∀ (l : List ResultVar) (vs : List VV), resL P a H l = some vs →
    ∃ vs', (l.mapM (resSem tmps)).run P w = .ok vs' w ∧ VRs φ vs vs'
  | [], vs, h => by simp only [resL, Option.some.injEq] at h; subst h; exact ⟨[], rfl, by simp [VRs]⟩
  | .tmp t :: l, vs, h => by
    simp only [resL] at h
    cases hr : resL P a H l with
    | none => rw [hr] at h; cases h
    | some us =>
      rw [hr] at h
      simp only [Option.some.injEq] at h
      subst h
      obtain ⟨us', h1, h2⟩ := resL_sound ht hs l us hr
      refine ⟨tmps.getD t undef :: us', ?_, by simp only [VRs]; exact ⟨_, _, rfl, ht t, h2⟩⟩
      simp only [List.mapM_cons, Sem.run_bind, resSem, Sem.run_pure, Result.andThen_ok, h1]
  | .cell x t :: l, vs, h => by
    simp only [resL] at h
    have hx := ht x
    cases hv : tget a x with
    | ptr p => cases p with
      | none => rw [hv] at h; cases h
      | some ad =>
        rw [hv] at h hx
        simp only at h
        cases hl : loadT P H t ad with
        | none => rw [hl] at h; cases h
        | some v => cases hr : resL P a H l with
          | none => rw [hl, hr] at h; cases h
          | some us =>
            rw [hl, hr] at h
            simp only [Option.some.injEq] at h
            subst h
            simp only [VR] at hx
            obtain ⟨a', s, ha, he⟩ := hx
            obtain ⟨v', l1, l2⟩ := loadT_sound (P := P) hs ha hl
            obtain ⟨us', h1, h2⟩ := resL_sound ht hs l us hr
            refine ⟨v' :: us', ?_, by simp only [VRs]; exact ⟨_, _, rfl, l2, h2⟩⟩
            simp only [List.mapM_cons, Sem.run_bind, resSem, he, asAddr, Sem.run_pure, Result.andThen_ok, l1, h1]
    | _ => rw [hv] at h; cases h
theorem results_sound [Ext] {P : Program} {w0 : World} {φ : Phi} {H : VH} {w : World} {a : VT} {tmps : Array Value} (ht : TR φ a tmps) (hs : HSim w0 φ H w) {fn : Func} {vs : List VV} (h : resL P a H fn.results.toList = some vs) :
    ∃ v', (results fn tmps).run P w = .ok v' w ∧ VR φ (oneV vs) v' := by
  obtain ⟨vs', h1, h2⟩ := resL_sound (P := P) ht hs fn.results.toList vs h
  have hl := VRs_length _ _ h2
  refine ⟨if h : vs'.toArray.size = 1 then vs'.toArray[0] else .tuple vs'.toArray, ?_, ?_⟩
  · rw [results_eq]
    simp only [Array.mapM_eq_mapM_toList, Sem.run_bind, Sem.run_map, h1, Result.andThen_ok, Sem.run_pure]
  · unfold oneV
    cases vs with
    | nil =>
      simp only [VRs] at h2
      subst h2
      exact VR_unit φ
    | cons v vs => cases vs with
      | nil =>
        simp only [VRs] at h2
        obtain ⟨y, ys, rfl, h3, rfl⟩ := h2
        simpa using h3
      | cons u vs =>
        rw [dif_neg (by simp only [List.size_toArray, ← hl, List.length_cons]; omega)]
        simp only [VR]
        exact ⟨vs', h2, rfl⟩
theorem listT_get : ∀ (l : List VV) (i : Nat) (t : VT) (k : Nat), i + l.length ≤ top → tget (listT l i t) k = if i ≤ k ∧ k < i + l.length then (l[k - i]?).getD vundef else tget t k
  | [], i, t, k, _ => by rw [if_neg (by simp)]; rfl
  | x :: l, i, t, k, h => by
    simp only [List.length_cons] at h
    simp only [listT]
    rw [listT_get l (i + 1) _ k (by omega)]
    by_cases hk : i + 1 ≤ k ∧ k < i + 1 + l.length
    · rw [if_pos hk, if_pos ⟨by omega, by simp only [List.length_cons]; omega⟩]
      rw [show k - i = (k - (i + 1)) + 1 by omega]
      simp
    · rw [if_neg hk]
      by_cases he : k = i
      · subst he
        rw [if_pos ⟨by omega, by simp only [List.length_cons]; omega⟩]
        simp [tget, TT.get_put_same t k x (by omega)]
      · rw [if_neg (by simp only [List.length_cons]; omega)]
        simp [tget, TT.get_put_other t i k x he]
/-- A frame that leaves with its marks. -/
theorem leaves_marks [Ext] {P : Program} {fn : Func} {tmps : Array Value} {Rr : Ending → World → Prop} {b : Nat} {w0 ws : World} {φ0 φ : Phi} {H : VH} (hbs : ws.heap.size ≤ b) (hfin : ∀ w, HSim w0 φ H w → St φ0 ws φ w → ∃ v, (results fn tmps).run P w = .ok v w ∧ Rr (.returned v) w) : ∀ (rs : List Nat) (w : World), rs.Nodup → HSim w0 φ H w → St φ0 ws φ w →
    (∀ r ∈ rs, b ≤ r ∧ w.heap[r]? = some (.deferred (some [])) ∧ (∀ i inf, φ i = some inf → inf.blk ≠ r) ∧ w0.heap.size ≤ r ∧ H.base.blk r = none) → LeavesInM Fence.wide 0 P fn tmps Rr (rs.map markOf) .returning w
  | [], w, _, hs, st, _ => hfin w hs st
  | r :: rs, w, hnd, hs, st, hr => by
    obtain ⟨k1, k2, k3, k4, k5⟩ := hr r (by simp)
    obtain ⟨g1, g2⟩ := run_setObj (P := P) (o₁ := .deferred none) k2 (by simp)
    refine ⟨by simp, .inl ⟨r, _, rfl, ?_, leaves_marks hbs hfin rs _ (List.nodup_cons.1 hnd).2 (hs.apart g2 k3 k4 k5) (st.apart g2 (by omega)) fun x hx => ?_⟩⟩
    · have hge : (getObj r).run P w = .ok (.deferred (some [])) w := by simp [getObj, Sem.run, k2]
      simp [Instr.takeDeferred, hge, g1]
    · obtain ⟨j1, j2, j3, j4, j5⟩ := hr x (List.mem_cons_of_mem _ hx)
      have hxr : x ≠ r := fun e => (List.nodup_cons.1 hnd).1 (e ▸ hx)
      exact ⟨j1, by rw [g2.there x hxr]; exact j2, j3, j4, j5⟩
theorem stepF_sound [Ext] {P : Program} {R : Option Nat → Prop} (hR : R none) {rc : CE} (hrc : CEok P R rc) : ∀ w0 f args H v H', stepF P rc f args H = some (v, H') → CallOK P w0 f args H fun u K => u = v ∧ K = H' := by
  intro w0 f args H v H' h φ w args' ha hs
  unfold stepF at h
  cases hf : P.funcs[f]? with
  | none => rw [hf] at h; cases h
  | some fn =>
    rw [hf] at h
    simp only at h
    cases hb : fn.body with
    | none => rw [hb] at h; cases h
    | some c =>
      rw [hb] at h
      simp only at h
      cases h1 : Nat.ble args.length fn.ntmps with
      | false => rw [h1] at h; cases h
      | true => cases h2 : Nat.ble fn.ntmps top with
        | false => rw [h1, h2] at h; cases h
        | true =>
          rw [h1, h2] at h
          simp only at h
          have h1' : args.length ≤ fn.ntmps := Nat.le_of_ble_eq_true h1
          have h2' : fn.ntmps ≤ top := Nat.le_of_ble_eq_true h2
          have hl := VRs_length _ _ ha
          have ht : TR φ (listT args 0 .lf) ((⟨args'⟩ : Array Value) ++ Array.replicate (fn.ntmps - (⟨args'⟩ : Array Value).size) undef) := by
            intro t
            rw [listT_get args 0 .lf t (by omega)]
            simp only [Array.getD_eq_getD_getElem?, Array.getElem?_append, List.size_toArray]
            by_cases hk : 0 ≤ t ∧ t < 0 + args.length
            · rw [if_pos hk, if_pos (by omega)]
              obtain ⟨x, hx⟩ : ∃ x, args[t - 0]? = some x := ⟨args[t]'(by omega), by simp [show t < args.length by omega]⟩
              obtain ⟨y, hy1, hy2⟩ := VRs_get _ _ ha _ x hx
              rw [hx]
              simp only [Option.getD_some]
              rw [show ((⟨args'⟩ : Array Value)[t]?) = some y by simpa using hy1]
              exact hy2
            · rw [if_neg hk, if_neg (by omega)]
              have : (Array.replicate (fn.ntmps - args'.length) undef)[t - args'.length]?.getD undef = undef := by
                rw [Array.getElem?_replicate]
                split <;> rfl
              rw [this]
              exact VR_undef φ
          cases hr : rc fn.ntmps c (listT args 0 .lf) H with
          | none => rw [hr] at h; cases h
          | some t =>
            obtain ⟨x, a₁, H₁⟩ := t
            rw [hr] at h
            have hsz : fn.ntmps ≤ ((⟨args'⟩ : Array Value) ++ Array.replicate (fn.ntmps - (⟨args'⟩ : Array Value).size) undef).size := by simp; omega
            have k := hrc w0 fn.ntmps c _ H x a₁ H₁ hr h2' none hR φ { tmps := (⟨args'⟩ : Array Value) ++ Array.replicate (fn.ntmps - (⟨args'⟩ : Array Value).size) undef, defers := [] } w ht hs hsz (fun r => w.heap.size ≤ r) (fun _ r hr => hr) .nil
            refine (callsIn_wide (n := 0)).1 (callsIn_of_wp_marks hf hb trivial (wpIn_mono k ?_))
            intro e act' w' hp
            obtain ⟨φ', rfl, k2, k3, k4, k5, k6, ⟨rs, m1, m2, m3⟩⟩ := hp
            have fin : ∀ (hx : (match resL P a₁ H₁ fn.results.toList with | some l => some (oneV l, H₁) | none => none) = some (v, H')), LeavesInM Fence.wide 0 P fn act'.tmps (fun e w' => ∃ u u' φ'' H'', e = Ending.returned u' ∧ St φ w φ'' w' ∧ VR φ'' u u' ∧ HSim w0 φ'' H'' w' ∧ H''.base = H.base ∧ (u = v ∧ H'' = H')) act'.defers .returning w' := by
              intro hx
              cases hq : resL P a₁ H₁ fn.results.toList with
              | none => rw [hq] at hx; cases hx
              | some l =>
                rw [hq] at hx
                simp only [Option.some.injEq, Prod.mk.injEq] at hx
                obtain ⟨rfl, rfl⟩ := hx
                rw [m1]
                refine leaves_marks (b := w.heap.size) (w0 := w0) (ws := w) (φ0 := φ) (φ := φ') (H := H₁) (Nat.le_refl _) (fun w'' hs'' st'' => ?_) rs w' m2 k4 k2 m3
                obtain ⟨v', r1, r2⟩ := results_sound (P := P) k3 hs'' hq
                exact ⟨v', r1, oneV l, v', φ', H₁, rfl, st'', r2, hs'', k5, rfl, rfl⟩
            cases x with
            | normal => exact fin h
            | ret => exact fin h
            | exit id => cases h
/-! ### rounds -/
theorem putPs_sound {φ : Phi} {nt : Nat} (hb : nt ≤ top) : ∀ (ps : List Tmp) (xs : List VV) (vs : List Value) (a : VT) (tmps : Array Value), psOk nt ps = true → nt ≤ tmps.size → TR φ a tmps → VRs φ xs vs →
    TR φ (putPs ps xs a) ((ps.zip vs).foldl (fun tmps (p : Tmp × Value) => tmps.setIfInBounds p.1 p.2) tmps) ∧ ((ps.zip vs).foldl (fun tmps (p : Tmp × Value) => tmps.setIfInBounds p.1 p.2) tmps).size = tmps.size
  | [], xs, vs, a, tmps, _, _, ht, _ => by cases xs <;> exact ⟨ht, rfl⟩
  | p :: ps, [], vs, a, tmps, _, _, ht, hv => by simp only [VRs] at hv; subst hv; exact ⟨ht, rfl⟩
  | p :: ps, x :: xs, vs, a, tmps, hp, hn, ht, hv => by
    simp only [VRs] at hv
    obtain ⟨y, ys, rfl, h1, h2⟩ := hv
    simp only [psOk] at hp
    cases hbt : Nat.blt p nt with
    | false => rw [hbt] at hp; cases hp
    | true =>
      rw [hbt] at hp
      have hlt := lt_of_blt hbt
      have ht' : TR φ (a.put p x) (tmps.setIfInBounds p y) := by
        intro t
        by_cases e : t = p
        · subst e
          simp only [tget, TT.get_put_same _ _ _ (Nat.lt_of_lt_of_le hlt hb)]
          have : (tmps.setIfInBounds t y).getD t undef = y := by simp [Array.getD, show t < tmps.size by omega]
          rw [this]; exact h1
        · have e1 : tget (a.put p x) t = tget a t := by unfold tget; rw [TT.get_put_other _ _ _ _ e]
          have e2 : (tmps.setIfInBounds p y).getD t undef = tmps.getD t undef := by
            simp only [Array.getD_eq_getD_getElem?, Array.getElem?_setIfInBounds]
            rw [if_neg (fun h => e h.symm)]
          rw [e1, e2]; exact ht t
      have := putPs_sound hb ps xs ys (a.put p x) (tmps.setIfInBounds p y) hp (by simpa using hn) ht' h2
      simp only [putPs, List.zip_cons_cons, List.foldl_cons]
      exact ⟨this.1, by rw [this.2]; simp⟩
theorem roundEnd_sound [Ext] {P : Program} {w0 : World} {φ : Phi} {H H' : VH} {w : World} {i : Nat} {x : VX} {v : VV} (h : roundEnd i x H = some (v, H')) (hs : HSim w0 φ H w) {inf : Inf} (hφ : φ i = some inf) :
    ∃ (jump : Option Code) (v' : Value) (w₁ : World), (match x with | .normal => jump = none | .ret => jump = some .ret | .exit id => jump = some (.exit id)) ∧ (Instr.endRound inf.blk jump).run P w = .ok v' w₁ ∧ VR φ v v' ∧ HSim w0 φ H' w₁ ∧ St φ w φ w₁ ∧ H'.base = H.base := by
  unfold roundEnd at h
  cases hg : H.locs.get i with
  | none => rw [hg] at h; cases h
  | some o => cases o with
    | loop st pend tm n ps asg bd =>
      rw [hg] at h
      simp only at h
      obtain ⟨inf', o', h1, h2, ⟨tmps', fn, d, rfl, h3, h4⟩, _⟩ := hs.live i _ hg
      rw [hφ] at h1; cases h1
      have go : ∀ (jump : Option Code) (st' : LoopState), st' = (if jump.isNone then .ready else .done) → ∃ w₁, (Instr.endRound inf.blk jump).run P w = .ok (.bool jump.isNone) w₁ ∧ HSim w0 φ { H with locs := H.locs.put i (.loop st' jump tm n ps asg bd) } w₁ ∧ St φ w φ w₁ := by
        intro jump st' hst
        obtain ⟨w₁, g1, g2⟩ := run_setLoop (P := P) h2 (.loop { state := st', pending := jump, fn := fn, tmps := tmps', params := ⟨ps⟩, assign := asg, body := bd, defers := d })
        refine ⟨w₁, ?_, hs.put hg hφ g2 ⟨tmps', fn, d, rfl, h3, h4⟩, St.upd hφ g2⟩
        simp only [Instr.endRound, Sem.run_bind, run_getLoop h2, Result.andThen_ok, ← hst, g1, Sem.run_pure]
      cases x with
      | normal =>
        simp only [Option.some.injEq, Prod.mk.injEq] at h
        obtain ⟨rfl, rfl⟩ := h
        obtain ⟨w₁, k1, k2, k3⟩ := go none .ready rfl
        exact ⟨none, _, w₁, rfl, k1, by simp [VR], k2, k3, rfl⟩
      | ret =>
        simp only [Option.some.injEq, Prod.mk.injEq] at h
        obtain ⟨rfl, rfl⟩ := h
        obtain ⟨w₁, k1, k2, k3⟩ := go (some .ret) .done rfl
        exact ⟨some .ret, _, w₁, rfl, k1, by simp [VR], k2, k3, rfl⟩
      | exit id =>
        simp only [Option.some.injEq, Prod.mk.injEq] at h
        obtain ⟨rfl, rfl⟩ := h
        obtain ⟨w₁, k1, k2, k3⟩ := go (some (.exit id)) .done rfl
        exact ⟨some (.exit id), _, w₁, rfl, k1, by simp [VR], k2, k3, rfl⟩
    | _ => rw [hg] at h; cases h
theorem stepR_sound [Ext] {P : Program} {R : Option Nat → Prop} (hR : ∀ l, R (some l)) {rc : CE} {T : Prop} (hrc : CEokT P T R rc) : ∀ w0 i args H v H', stepR rc i args H = some (v, H') → RoundOK P w0 i args H v H' := by
  intro w0 i args H v H' h φ w args' inf L r ha hs hφ hL
  unfold stepR at h
  split at h
  · rename_i st0 pend0 tm nt ps asg bd hg
    split at h
    · rename_i c1 c2 c3
      have hnt : nt ≤ top := Nat.le_of_ble_eq_true c3
      obtain ⟨inf', o', h1, h2, ⟨tmps', fn, d, rfl, h3, h4⟩, _⟩ := hs.live i _ hg
      rw [hφ] at h1; cases h1
      rw [hL] at h2
      simp only [Option.some.injEq, Obj.loop.injEq] at h2
      subst h2
      simp only at *
      obtain ⟨t1, t2⟩ := putPs_sound (φ := φ) hnt ps args args' tm tmps' c2 h4 h3 ha
      have hfold : (((⟨ps⟩ : Array Tmp).zip ⟨args'⟩).foldl (fun tmps (p : Tmp × Value) => tmps.setIfInBounds p.1 p.2) tmps') = ((ps.zip args').foldl (fun tmps (p : Tmp × Value) => tmps.setIfInBounds p.1 p.2) tmps') := by
        rw [← Array.foldl_toList]; simp
      rw [hfold]
      generalize ((ps.zip args').foldl (fun tmps (p : Tmp × Value) => tmps.setIfInBounds p.1 p.2) tmps') = tmps'' at *
      split at h
      · rename_i a₁ H₁ hra
        split at h
        · rename_i pend' tm' n' ps' asg' bd' hg1
          split at h
          · rename_i x a₂ H₂ hrb
            refine roundIn_of_wpIn (F := Fr r) (n := 0) trivial ?_
            have k := hrc w0 nt asg _ H .normal a₁ H₁ hra hnt (some inf.blk) (hR _) φ { tmps := tmps'', defers := [] } w t1 hs (by rw [t2]; exact h4) (fun _ => True) (fun _ _ _ => trivial) .nil
            refine wpIn_mono k ?_
            intro e act' w₁ hp
            obtain ⟨φ₁, rfl, k2, k3, k4, k5, k6, k7⟩ := hp
            have hφ1 := k2.le.1 _ _ hφ
            obtain ⟨inf1, o1, j1, j2, ⟨tm1, fn1, d1, rfl, j3, j4⟩, _⟩ := k4.live i _ hg1
            rw [hφ1] at j1; cases j1
            obtain ⟨w₂, g1, g2⟩ := run_setLoop (P := P) j2 (.loop { state := .busy, pending := pend', fn := fn1, tmps := tm1, params := ⟨ps'⟩, assign := asg', body := bd', defers := d1 })
            refine ⟨w₂, ?_, ?_⟩
            · simp [Instr.beginRound, run_getLoop j2, g1]
            · have hs2 := k4.put hg1 hφ1 g2 (o₁ := .loop .busy pend' tm' n' ps' asg' bd') ⟨tm1, fn1, d1, rfl, j3, j4⟩
              have st2 : St φ w φ₁ w₂ := k2.trans (St.upd hφ1 g2)
              have kb := hrc w0 nt bd a₁ _ x a₂ H₂ hrb hnt (some inf.blk) (hR _) φ₁ act' w₂ k3 hs2 (by rw [k6, t2]; exact h4) (fun _ => True) (fun _ _ _ => trivial) (k7.step (St.upd hφ1 g2) rfl)
              refine wpIn_mono kb ?_
              intro e act'' w₃ hp'
              obtain ⟨φ₂, rfl, m2, m3, m4, m5, _, _⟩ := hp'
              have hφ2 := m2.le.1 _ _ hφ1
              obtain ⟨jump, v', w₄, q1, q2, q3, q4, q5, q6⟩ := roundEnd_sound (P := P) h m4 hφ2
              have fin : (fun e w' => ∃ v' φ', e = Ending.returned v' ∧ St φ w φ' w' ∧ VR φ' v v' ∧ HSim w0 φ' H' w' ∧ H'.base = H.base) (.returned v') w₄ :=
                ⟨v', φ₂, rfl, (st2.trans m2).trans q5, q3, q4, q6.trans (m5.trans k5)⟩
              cases x with
              | normal => simp only at q1; subst q1; exact ⟨v', w₄, q2, fin⟩
              | ret => simp only at q1; subst q1; exact ⟨v', w₄, q2, fin⟩
              | exit id => simp only at q1; subst q1; exact ⟨v', w₄, q2, fin⟩
          · cases h
        · cases h
      · cases h
    · cases h
  · cases h
end
end Go.Ev
