/- Engine, part I: append, copy, the other operations that write. -/
import Derived.Test.YtgbpkilegbechaaEvH
import Derived.Laws.AppendOwn
namespace Go.Ev
noncomputable section
theorem grow_spare {w : World} {need cap : Nat} {e : TypeId} {z : Array Value} {size : Nat} (hz : z.size = size) : (grownCap w need cap e - need) * size ≤ (Builtin.zeroCells z (grownCap w need cap e - need)).toList.length := by
  rw [Array.length_toList]
  simp [Builtin.zeroCells, hz]
theorem drew_sim [Ext] {w0 : World} {φ : Phi} {H : VH} {w : World} (h : HSim w0 φ H w) : HSim w0 φ H w.drew := h.heap rfl
/-- The append that makes a new array. -/
theorem append_re [Ext] {P : Program} {w0 : World} {φ : Phi} {H : VH} {w : World} (h : HSim w0 φ H w) (hnx : H.next < top) {t e : TypeId} {ts : List TypeId} {ty : TypeId} {i : TypeInfo} {z' : Value} (hu : P.underlying t = some (.slice e)) (hi : P.info? e = some i) (hz : i.zero = some z') (hzs : z'.cells.size = i.size)
    (hp : plainArg P ts.head? = true) {base : Option Addr} {len cap n : Nat} {x' : Value} (hln : (Builtin.lenOf x').run P w = .ok n w) (hlt : cap < len + n) (hb : (len + n) * i.bytes ≤ 140737488355328) (hsm : len + n < 1099511627776)
    {old new : List VV} {old' new' : List Value} (ho : (Builtin.firstCells i.size len (.slice base len cap)).run P w.drew = .ok ⟨old'⟩ w.drew) (hn : (Builtin.firstCells i.size n x').run P w.drew = .ok ⟨new'⟩ w.drew) (vo : VRs φ old old') (vn : VRs φ new new')
    {H' : VH} (h' : HSim w0 φ H' w) (hH : H'.next = H.next) (hB : H'.base = H.base) (ro : Nat) (et : Option TypeId) (het : ∀ t, et = some t → e = t) :
    OutR w0 φ H w ((do pure (Next.value (← Builtin.append_ ⟨t :: ts⟩ ty #[.slice base len cap, x'])) : Sem Next).run P w)
      (.val (.slice (some ⟨.loc H.next, 0⟩) (len + n) (len + n)) (H'.alloc (.cells (old ++ new) (some i.size) ro et))) := by
  have hr := run_append_out (P := P) (ty := ty) hu hi hz hp hln hlt hb hsm ho hn
  have hge := grownCap_ge w (len + n) cap e
  have hc := (drew_sim h').cells (by rw [hH]; exact hnx) (VRs_append vo vn) e (some i.size) (grownCap w (len + n) cap e - (len + n)) ro et (Builtin.zeroCells z'.cells (grownCap w (len + n) cap e - (len + n))).toList (0, 0) (by simp) (by simpa [spare] using grow_spare (w := w) (need := len + n) (cap := cap) (e := e) hzs) (Nat.zero_le _) (fun t ht => ⟨het t ht, fun h => by cases h⟩)
  rw [hH] at hc
  have hst : St φ w (φ.ext H.next ⟨w.heap.size, 0, grownCap w (len + n) cap e - (len + n)⟩) (w.drew.alloc (.cells ⟨old' ++ (new' ++ (Builtin.zeroCells z'.cells (grownCap w (len + n) cap e - (len + n))).toList)⟩ e)) :=
    (St.drew (φ := φ) (w := w) (w₁ := w.drew) rfl rfl rfl rfl).trans (St.alloc (drew_sim h) _ _)
  refine ⟨.slice (some ⟨w.heap.size, 0, none⟩) (len + n) (grownCap w (len + n) cap e), _, _, by simp only [Sem.run_bind, hr, Result.andThen_ok, Sem.run_pure], hst, ?_, ?_, hB⟩
  · have := VR_newSlice (φ := φ) (n := H.next) (b := w.heap.size) (s := grownCap w (len + n) cap e - (len + n)) (l := len + n) (c := len + n)
    rwa [show len + n + (grownCap w (len + n) cap e - (len + n)) = grownCap w (len + n) cap e by omega] at this
  · rw [← List.append_assoc]
    exact hc
/-- The append that grows a block in place. -/
theorem append_in [Ext] {P : Program} {w0 : World} {φ : Phi} {H : VH} {w : World} (h : HSim w0 φ H w) (hnx : H.next < top) {t e : TypeId} {ts : List TypeId} {ty : TypeId} {i : TypeInfo} (hu : P.underlying t = some (.slice e)) (hi : P.info? e = some i)
    (hp : plainArg P ts.head? = true) {b o : Nat} {inf : Inf} (hφ : φ b = some inf) {c : List VV} {ro : Nat} {et et' : Option TypeId} (het : ∀ t, et' = some t → et = some t) (hg : H.locs.get b = some (.cells c (some i.size) ro et)) {len cap n : Nat} {x' : Value} (hln : (Builtin.lenOf x').run P w = .ok n w) (hle : len + n ≤ cap + inf.slack) (_hgt : cap < len + n)
    (hend : o + cap * i.size = c.length) (hro : ro ≤ o + len * i.size) {old new : List VV} {new' : List Value} (hold : hload H ⟨.loc b, o⟩ (len * i.size) = some old) (hn : (Builtin.firstCells i.size n x').run P w = .ok ⟨new'⟩ w) (vn : VRs φ new new') (hnl : new.length = n * i.size) (hfl : flat new = true) :
    OutR w0 φ H w ((do pure (Next.value (← Builtin.append_ ⟨t :: ts⟩ ty #[.slice (some ⟨inf.blk, inf.off + o, none⟩) len (cap + inf.slack), x'])) : Sem Next).run P w)
      (.val (.slice (some ⟨.loc H.next, 0⟩) (len + n) (len + n)) { H with locs := (H.locs.del b).put H.next (.cells (old ++ new) (some i.size) (ro - o) et'), next := H.next + 1 }) := by
  obtain ⟨inf', o', hφ', hw, ⟨cr, e0, fr, rfl, hc⟩, _⟩ := h.live b _ hg
  rw [hφ] at hφ'; cases hφ'
  have hsz := hc.size
  simp only [spare] at hsz
  have hnl' : new'.length = n * i.size := by rw [← VRs_length _ _ vn, hnl]
  have hmul : (len + n) * i.size ≤ (cap + inf.slack) * i.size := Nat.mul_le_mul_right _ hle
  rw [Nat.add_mul, Nat.add_mul] at hmul
  have hcomm : inf.slack * i.size = inf.slack * i.size := rfl
  obtain ⟨w₁, c₁, r1, r2, r3, r4⟩ := run_storeCells (P := P) (b := inf.blk) (o := inf.off + o + len * i.size) (e := e0) (fr := fr) new' 0 cr w hw (by omega) (fun j hj => by
    have := hc.free (o + len * i.size + j) (by omega) (by simp only [spare]; omega)
    rwa [show inf.off + o + len * i.size + 0 + j = inf.off + (o + len * i.size + j) by omega]) (VRs_flat _ _ vn hfl)
  have hadd : (⟨inf.blk, inf.off + o, none⟩ : Addr).add (len * i.size) = ⟨inf.blk, inf.off + o + len * i.size, none⟩ := Addr.add_lit _ _ _
  have hr := run_append_in (P := P) (ty := ty) hu hi hp (base := some ⟨inf.blk, inf.off + o, none⟩) (len := len) (cap := cap + inf.slack) (n := n) hln hle hn (w₁ := w₁) (by simp only; rw [hadd]; exact r1)
  -- the old cells
  have hold2 : old = (c.drop o).take (len * i.size) ∧ len * i.size ≤ c.length - o := by
    unfold hload at hold
    simp only [hg] at hold
    obtain ⟨k1, k2⟩ := takeN_eq _ _ _ hold
    rw [dropN_eq] at k1 k2
    exact ⟨k2, by simpa using k1⟩
  have hol : old.length = len * i.size := by rw [hold2.1]; simp; omega
  refine ⟨.slice (some ⟨inf.blk, inf.off + o, none⟩) (len + n) (cap + inf.slack), w₁, φ.ext H.next ⟨inf.blk, inf.off + o, cap + inf.slack - (len + n)⟩, by simp only [Sem.run_bind, hr, Result.andThen_ok, Sem.run_pure], ?_, ?_, ?_, rfl⟩
  · refine ⟨Phi.le_ext _ (h.fresh _ (Nat.le_refl _)), r2.wk, fun k _ hk => r2.there k (fun e => hk b inf hφ e.symm), fun j jnf hj => ?_⟩
    simp only [Phi.ext] at hj
    split at hj
    · cases hj; exact .inl ⟨b, inf, hφ, rfl⟩
    · exact .inl ⟨j, jnf, hj, rfl⟩
  · simp only [VR]
    refine ⟨⟨inf.blk, inf.off + o, none⟩, cap + inf.slack - (len + n), ?_, ?_⟩
    · unfold AR; exact ⟨_, Phi.ext_self _ _ _, rfl, rfl⟩
    · rw [show len + n + (cap + inf.slack - (len + n)) = cap + inf.slack by omega]
  · refine h.regrow hg hφ ⟨inf.blk, inf.off + o, cap + inf.slack - (len + n)⟩ rfl r2 ⟨c₁, e0, fr, rfl, ⟨?_, by simp, ?_, by have := hc.low; simp only; omega, fun t ht => ⟨(hc.typ t (het t ht)).1, fun h => by cases h⟩⟩⟩ hnx
    · simp only [spare, List.length_append, hol, hnl, r3]
      have : (cap + inf.slack - (len + n)) * i.size = (cap + inf.slack) * i.size - (len + n) * i.size := Nat.sub_mul _ _ _
      rw [this, Nat.add_mul, Nat.add_mul]
      omega
    · intro j x hx
      have hle' := Phi.le_ext (φ := φ) ⟨inf.blk, inf.off + o, cap + inf.slack - (len + n)⟩ (h.fresh H.next (Nat.le_refl _))
      simp only at *
      rw [r4]
      by_cases hj : j < old.length
      · rw [List.getElem?_append_left hj, hold2.1, List.getElem?_take, if_pos (by omega), List.getElem?_drop] at hx
        rw [if_neg (by omega)]
        obtain ⟨y, h1, h2⟩ := hc.cell _ x hx
        exact ⟨y, by rw [show inf.off + o + j = inf.off + (o + j) by omega]; exact h1, h2.mono hle'⟩
      · rw [List.getElem?_append_right (by omega)] at hx
        have hlt := (List.getElem?_eq_some_iff.1 hx).1
        rw [if_pos ⟨by omega, by omega⟩]
        obtain ⟨y, h1, h2⟩ := VRs_get _ _ vn _ x hx
        exact ⟨y, by rw [show inf.off + o + j - (inf.off + o + len * i.size + 0) = j - old.length by omega]; exact h1, h2.mono hle'⟩
theorem evAppend_sound [Ext] {P : Program} {w0 : World} {φ : Phi} {H : VH} {w : World} (h : HSim w0 φ H w) {t : TypeId} {ts : List TypeId} {ty : TypeId} {s x : VV} {s' x' : Value} (hs : VR φ s s') (hx : VR φ x x') :
    OutR w0 φ H w ((do pure (Next.value (← Builtin.append_ ⟨t :: ts⟩ ty #[s', x'])) : Sem Next).run P w) (evAppend P H t ts.head? s x) := by
  unfold evAppend
  cases hu : P.underlying t with
  | none => trivial
  | some d => cases d with
    | slice e =>
      simp only
      cases hp : plainArg P ts.head? with
      | false => trivial
      | true => cases hi : P.info? e with
        | none => trivial
        | some i => cases hz : tzero P e with
          | none => trivial
          | some z => cases hn : srcLen x with
            | none => trivial
            | some n =>
              simp only
              have hln := srcLen_sound (P := P) (w := w) hx hn
              cases s with
              | slice base len cap =>
                simp only [OutR]
                refine ⟨fun hle => ?_, fun hgt => ?_⟩
                · have hle' : len + n ≤ cap := Nat.le_of_ble_eq_true hle
                  cases n with
                  | zero =>
                    have hfc := src0_sound (P := P) (w := w) hx hn i.size
                    have fin : ∀ (b' : Option Addr) (c' : Nat), cap ≤ c' → VR φ (.slice base len cap) (.slice b' len c') → OutR w0 φ H w ((do pure (Next.value (← Builtin.append_ ⟨t :: ts⟩ ty #[.slice b' len c', x'])) : Sem Next).run P w) (.val (.slice base len cap) H) := by
                      intro b' c' hc hv
                      have hr := run_append_in (P := P) (ty := ty) hu hi hp (base := b') (len := len) (cap := c') (n := 0) hln (by omega) (new := []) hfc (w₁ := w) (by cases b' <;> rfl)
                      exact ⟨.slice b' len c', w, φ, by simp only [Sem.run_bind, hr, Result.andThen_ok, Sem.run_pure, Nat.add_zero], .refl φ w, hv, h, rfl⟩
                    cases base with
                    | none => simp only [VR] at hs; subst hs; exact fin none cap (Nat.le_refl _) (by simp only [VR])
                    | some a =>
                      have hs' := hs
                      simp only [VR] at hs'
                      obtain ⟨a', sl, ha, rfl⟩ := hs'
                      exact fin (some a') (cap + sl) (by omega) hs
                  | succ n =>
                    cases base with
                    | none => trivial
                    | some a =>
                      simp only
                      cases hsc : srcCells H i.size (n + 1) x with
                      | none => trivial
                      | some new =>
                        simp only
                        cases hst : hstore H (a.add (len * i.size)) new with
                        | none => trivial
                        | some H₁ =>
                          simp only [VR] at hs
                          obtain ⟨a', sl, ha, rfl⟩ := hs
                          obtain ⟨new', f1, f2⟩ := srcCells_sound (P := P) h hx hsc
                          obtain ⟨w₁, g1, g2, g3, g4⟩ := hstore_sound (P := P) h (ha.add (len * i.size)) hst f2
                          have hr := run_append_in (P := P) (ty := ty) hu hi hp (base := some a') (len := len) (cap := cap + sl) (n := n + 1) hln (by omega) f1 (w₁ := w₁) g1
                          obtain ⟨bi, binf, bo, hb1, hb2⟩ := g3
                          exact ⟨.slice (some a') (len + (n + 1)) (cap + sl), w₁, φ, by simp only [Sem.run_bind, hr, Result.andThen_ok, Sem.run_pure], St.upd hb1 hb2, by simp only [VR]; exact ⟨a', sl, ha, rfl⟩, g2, g4⟩
                · intro hb hsm
                  have hb' : (len + n) * i.bytes ≤ 140737488355328 := Nat.le_of_ble_eq_true hb
                  have hsm' := lt_of_blt hsm
                  have hgt' : cap < len + n := by
                    rcases Nat.lt_or_ge cap (len + n) with h1 | h1
                    · exact h1
                    · have := Nat.ble_eq_true_of_le h1; rw [this] at hgt; cases hgt
                  obtain ⟨z', hz1, hz2⟩ : ∃ z', i.zero = some z' ∧ emb z' = some z := by
                    have hz0 := hz
                    unfold tzero at hz0
                    rw [hi] at hz0
                    simp only at hz0
                    cases hiz : i.zero with
                    | none => rw [hiz] at hz0; cases hz0
                    | some z' => rw [hiz] at hz0; exact ⟨z', rfl, hz0⟩
                  have hzl := VRs_length _ _ (VR_cells (emb_notAny z' z hz2) (VR_emb φ z' z hz2))
                  simp only [Array.length_toList] at hzl
                  cases hbz : Nat.beq z.cells.length i.size with
                  | false => trivial
                  | true => cases hnx : Nat.blt H.next top with
                    | false => trivial
                    | true =>
                      have hbz' : z'.cells.size = i.size := by rw [← hzl]; exact Nat.eq_of_beq_eq_true hbz
                      have hnx' := lt_of_blt hnx
                      simp only
                      cases hso : srcCells H i.size len (.slice base len cap) with
                      | none => trivial
                      | some old => cases hsn : srcCells H i.size n x with
                        | none => trivial
                        | some new =>
                          simp only
                          obtain ⟨old', o1, o2⟩ := srcCells_sound (P := P) (drew_sim h) hs hso
                          obtain ⟨new', n1, n2⟩ := srcCells_sound (P := P) (drew_sim h) hx hsn
                          have hln' : (Builtin.lenOf x').run P w = .ok n w := hln
                          -- the case of a new array
                          have re : ∀ (b' : Option Addr) (c' : Nat) (H' : VH) (ro : Nat) (et : Option TypeId), (∀ t, et = some t → e = t) → s' = .slice b' len c' → c' < len + n → HSim w0 φ H' w → H'.next = H.next → H'.base = H.base →
                              (Builtin.firstCells i.size len (.slice b' len c')).run P w.drew = .ok ⟨old'⟩ w.drew →
                              OutR w0 φ H w ((do pure (Next.value (← Builtin.append_ ⟨t :: ts⟩ ty #[s', x'])) : Sem Next).run P w) (.val (.slice (some ⟨.loc H.next, 0⟩) (len + n) (len + n)) (H'.alloc (.cells (old ++ new) (some i.size) ro et))) := by
                            intro b' c' H' ro et het hs1 hc1 hH' hN hB ho
                            subst hs1
                            exact append_re h hnx' hu hi hz1 hbz' hp hln hc1 hb' hsm' ho n1 o2 n2 hH' hN hB ro et het
                          cases base with
                          | none =>
                            simp only [VR] at hs
                            exact re none cap H 0 (some e) (fun _ h => by cases h; rfl) hs hgt' h rfl rfl (by rw [hs] at o1; exact o1)
                          | some a =>
                            have hs0 := hs
                            simp only [VR] at hs0
                            obtain ⟨a', sl, ha, hs1⟩ := hs0
                            obtain ⟨ab, ao⟩ := a
                            rw [hs1] at o1
                            simp only
                            cases ab with
                            | base r =>
                              have hsl : sl = 0 := by unfold AR at ha; exact ha.2
                              subst hsl
                              exact re (some a') cap H 0 (some e) (fun _ h => by cases h; rfl) hs1 hgt' h rfl rfl o1
                            | sym r => trivial
                            | loc b =>
                              simp only
                              cases hg : H.locs.get b with
                              | none => trivial
                              | some ob => cases ob with
                                | cells c g ro et => cases g with
                                  | none =>
                                    have hsl : sl = 0 := fixedAt_sound h ha (by simp [fixedAt, hg])
                                    subst hsl
                                    exact re (some a') cap H 0 (some e) (fun _ h => by cases h; rfl) hs1 hgt' h rfl rfl o1
                                  | some sz =>
                                    simp only
                                    cases hq1 : Nat.beq sz i.size with
                                    | false => trivial
                                    | true => cases hq2 : Nat.beq (ao + cap * i.size) c.length with
                                      | false => trivial
                                      | true => cases hq3 : Nat.ble ro (ao + len * i.size) with
                                        | false => trivial
                                        | true => cases hq4 : flat new with
                                          | false => trivial
                                          | true =>
                                            have hsz : sz = i.size := Nat.eq_of_beq_eq_true hq1
                                            subst hsz
                                            unfold AR at ha
                                            simp only at ha
                                            obtain ⟨inf, hφ, rfl, rfl⟩ := ha
                                            by_cases hin : len + n ≤ cap + inf.slack
                                            · rw [hs1]
                                              obtain ⟨new2, m1, m2⟩ := srcCells_sound (P := P) h hx hsn
                                              exact append_in h hnx' hu hi hp hφ (fun t ht => (etNext_sound ht).2) hg hln hin hgt' (Nat.eq_of_beq_eq_true hq2) (Nat.le_of_ble_eq_true hq3) (by simpa [srcCells] using hso) m1 m2 (srcCells_length h hx hn hsn) hq4
                                            · have hlt2 : b < top := Nat.lt_trans (h.lt hφ) hnx'
                                              exact re (some ⟨inf.blk, inf.off + ao, none⟩) (cap + inf.slack) { H with locs := H.locs.del b } (ro - ao) (etNext et e) (fun t ht => (etNext_sound ht).1.symm) hs1 (by omega) (h.del hlt2) rfl rfl o1
                                | _ => trivial
              | sliceE =>
                simp only [VR] at hs
                obtain ⟨a', c, rfl⟩ := hs
                cases n with
                | succ n => trivial
                | zero =>
                  have hfc := src0_sound (P := P) (w := w) hx hn i.size
                  have hr := run_append_in (P := P) (ty := ty) hu hi hp (base := some a') (len := 0) (cap := c) (n := 0) hln (by omega) (new := []) hfc (w₁ := w) rfl
                  exact ⟨.slice (some a') 0 c, w, φ, by simp only [Sem.run_bind, hr, Result.andThen_ok, Sem.run_pure, Nat.add_zero], .refl φ w, by simp only [VR]; exact ⟨_, _, rfl⟩, h, rfl⟩
              | _ => trivial
    | _ => trivial
/-- An append of zeros to nothing. -/
theorem run_append_zero {P : Program} {w : World} {t e ty : TypeId} {ts : List TypeId} {i : TypeInfo} {z' : Value} (hu : P.underlying t = some (.slice e)) (hi : P.info? e = some i) (hz' : i.zero = some z') {t2 : TypeId} {k : IntKind} (ht : ts.head? = some t2) (hk : P.underlying t2 = some (.int k)) {kk : IntKind} {n : Nat} (hn : 0 < n) (hb : n * i.bytes ≤ 140737488355328) (hs : n < 1099511627776) (hsz : n * i.size ≠ 0) :
    (Builtin.append_ ⟨t :: ts⟩ ty #[.slice none 0 0, .int kk n]).run P w = .ok (.slice (some ⟨w.heap.size, 0, none⟩) n (grownCap w n 0 e)) (w.drew.alloc (.cells ⟨(Builtin.zeroCells z'.cells n).toList ++ (Builtin.zeroCells z'.cells (grownCap w n 0 e - n)).toList⟩ e)) := by
  have h0 : (⟨t :: ts⟩ : Array TypeId)[0]? = some t := by simp
  have hget : (⟨t :: ts⟩ : Array TypeId)[1]? = some t2 := by cases ts <;> simp_all
  have hfit := growslice_fits (need := n) (old := 0) (bytes := i.bytes) (by omega) hb
  have hti : ∀ w, (typeInfo e).run P w = .ok i w := fun w => by simp [typeInfo, hi]
  have hzv : ∀ w, (zeroValue e).run P w = .ok z' w := fun w => by simp [zeroValue, typeInfo, hi, hz']
  have wn : IntKind.i64.wrap (n : Int) = n := wrap_small (by omega) (by omega)
  have n0 : ¬ ((n : Int) < 0) := by omega
  have nb : ¬ (281474976710656 < (n : Int) * (i.bytes : Int)) := by
    have h3 : ((n * i.bytes : Nat) : Int) ≤ ((140737488355328 : Nat) : Int) := Int.ofNat_le.2 hb
    rw [Int.natCast_mul] at h3
    have e47 : ((140737488355328 : Nat) : Int) = 140737488355328 := rfl
    rw [e47] at h3
    omega
  have n1 : n ≠ 0 := by omega
  have n2 : ¬ (9223372036854775807 < (n : Int)) := by omega
  have n3 : ¬ (281474976710656 < Builtin.nextslicecap n 0 * i.bytes) := by omega
  have nf : (Question.appendCap n 0 e).forced = false := rfl
  have arr : ∀ (b : List Value) (c : Array Value), ((⟨b⟩ : Array Value) ++ c) = ⟨b ++ c.toList⟩ := fun b c => by apply Array.ext'; simp
  have zc : ∀ m, Builtin.zeroCells z'.cells m = ⟨(Builtin.zeroCells z'.cells m).toList⟩ := fun m => by simp
  simp [Builtin.append_, hget, run_underlying hu, run_underlying hk, run_sizeOf' hi, tsize_eq hi, asInt, asIntOf, wn, n0, nb, n1, n2, n3, nf, hti, hzv, hsz, newRow, grownCap, Builtin.firstCells]
  congr 2
  apply Array.ext'
  simp
/-- An append of so many zeros, to nothing. -/
def evAppendZ (P : Program) (H : VH) (t : TypeId) (xt : Option TypeId) (s x : VV) : Out :=
  match P.underlying t, xt with
  | some (.slice e), some t2 => match P.underlying t2, P.info? e, tzero P e with
    | some (.int _), some i, some z => match s, x with
      | .slice none 0 0, .int _ (.ofNat n) => match Nat.blt 0 n, Nat.ble (n * i.bytes) 140737488355328, Nat.blt n 1099511627776, Nat.beq (n * i.size) 0, Nat.beq z.cells.length i.size, Nat.blt H.next top with
        | true, true, true, false, true, true => .val (.slice (some ⟨.loc H.next, 0⟩) n n) (H.alloc (.cells (rep n z.cells) (some i.size) 0 (some e)))
        | _, _, _, _, _, _ => .bad
      | _, _ => .bad
    | _, _, _ => .bad
  | _, _ => .bad
theorem evAppendZ_sound [Ext] {P : Program} {w0 : World} {φ : Phi} {H : VH} {w : World} (h : HSim w0 φ H w) {t : TypeId} {ts : List TypeId} {ty : TypeId} {s x : VV} {s' x' : Value} (hs : VR φ s s') (hx : VR φ x x') :
    OutR w0 φ H w ((do pure (Next.value (← Builtin.append_ ⟨t :: ts⟩ ty #[s', x'])) : Sem Next).run P w) (evAppendZ P H t ts.head? s x) := by
  unfold evAppendZ
  split
  · rename_i e t2 hu ht
    split
    · rename_i k i z hk hi hz
      split
      · rename_i kk n
        split
        · rename_i g1 g2 g3 g4 g5 g6
          simp only [VR] at hs hx
          subst hs hx
          obtain ⟨z', hz1, hz2⟩ : ∃ z', i.zero = some z' ∧ VR φ z z' := by
            have hz0 := hz
            unfold tzero at hz0
            rw [hi] at hz0
            simp only at hz0
            cases hiz : i.zero with
            | none => rw [hiz] at hz0; simp at hz0
            | some z' => rw [hiz] at hz0; exact ⟨z', rfl, VR_emb φ z' z hz0⟩
          have zc := VR_cells (tzero_notAny hz) hz2
          have g5' : z.cells.length = i.size := Nat.eq_of_beq_eq_true g5
          have hl := VRs_length _ _ zc
          simp only [Array.length_toList] at hl
          have hr := run_append_zero (P := P) (w := w) (ty := ty) (ts := ts) hu hi hz1 ht hk (kk := kk) (lt_of_blt g1) (Nat.le_of_ble_eq_true g2) (lt_of_blt g3) (by intro e0; rw [e0] at g4; simp at g4)
          have hge : n ≤ grownCap w n 0 e := grownCap_ge w n 0 e
          have hrep := rep_sound zc n
          have hcells : VRs φ (rep n z.cells) (Builtin.zeroCells z'.cells n).toList := by
            have : Builtin.zeroCells z'.cells n = (Array.range (n * z.cells.length)).map (fun i => z'.cells[i % z'.cells.size]!) := by rw [hl]; rfl
            rw [this]; exact hrep
          have hc := (drew_sim h).cells (lt_of_blt g6) hcells e (some i.size) (grownCap w n 0 e - n) 0 (some e) (Builtin.zeroCells z'.cells (grownCap w n 0 e - n)).toList (0, 0) (by simp) (by simpa [spare] using grow_spare (w := w) (need := n) (cap := 0) (e := e) (by omega : z'.cells.size = i.size)) (Nat.zero_le _) (fun t ht => by cases ht; exact ⟨rfl, fun h => by cases h⟩)
          have hst : St φ w (φ.ext H.next ⟨w.heap.size, 0, grownCap w n 0 e - n⟩) (w.drew.alloc (.cells ⟨(Builtin.zeroCells z'.cells n).toList ++ (Builtin.zeroCells z'.cells (grownCap w n 0 e - n)).toList⟩ e)) :=
            (St.drew (φ := φ) (w := w) (w₁ := w.drew) rfl rfl rfl rfl).trans (St.alloc (drew_sim h) _ _)
          refine ⟨.slice (some ⟨w.heap.size, 0, none⟩) n (grownCap w n 0 e), _, _, by simp only [Sem.run_bind, Int.ofNat_eq_natCast, hr, Result.andThen_ok, Sem.run_pure], hst, ?_, hc, rfl⟩
          have := VR_newSlice (φ := φ) (n := H.next) (b := w.heap.size) (s := grownCap w n 0 e - n) (l := n) (c := n)
          rwa [show n + (grownCap w n 0 e - n) = grownCap w n 0 e by omega] at this
        · trivial
      · trivial
    · trivial
  · trivial
end
end Go.Ev
