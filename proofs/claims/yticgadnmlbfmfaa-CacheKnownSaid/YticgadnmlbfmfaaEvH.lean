/- Engine, part H: maps, append, copy. -/
import Derived.Test.YticgadnmlbfmfaaEvG
namespace Go.Ev
noncomputable section
/-! ### maps -/
def setAt {α : Type} : List α → Nat → α → List α
  | [], _, _ => []
  | x :: l, n, y => match n with | 0 => y :: l | m + 1 => x :: setAt l m y
theorem findK_at {E : Env} {k : VV} : ∀ (xs : List (VV × VV × Nat)) (i j : Nat) (v : VV), findK E k xs i = some (some (j, v)) → ∃ p e, j = i + p ∧ xs[p]? = some e ∧ keyEq E k e.1 = some true ∧ e.2.1 = v
  | [], i, j, v, h => by simp [findK] at h
  | x :: xs, i, j, v, h => by
    simp only [findK] at h
    cases hq : keyEq E k x.1 with
    | none => rw [hq] at h; cases h
    | some q =>
      rw [hq] at h
      cases q with
      | true =>
        simp only [Option.some.injEq, Prod.mk.injEq] at h
        exact ⟨0, x, by omega, rfl, hq, h.2⟩
      | false =>
        obtain ⟨p, e, h1, h2, h3, h4⟩ := findK_at xs (i + 1) j v h
        exact ⟨p + 1, e, by omega, by simpa using h2, h3, h4⟩
theorem ERs_get {φ : Phi} : ∀ (xs : List (VV × VV × Nat)) (es : List MapEntry), ERs φ xs es → ∀ (i : Nat) (x : VV × VV × Nat), xs[i]? = some x → ∃ e, es[i]? = some e ∧ VR φ x.1 e.key ∧ VR φ x.2.1 e.val ∧ x.2.2 = e.born
  | [], _, _, i, x, h => by simp at h
  | x :: xs, es, h, i, y, hy => by
    obtain ⟨z, zs, rfl, h1, h2, h3, h4⟩ := h
    cases i with
    | zero => simp at hy; subst hy; exact ⟨z, rfl, h1, h2, h3⟩
    | succ i => simp at hy ⊢; exact ERs_get xs zs h4 i y hy
theorem ERs_set {φ : Phi} : ∀ (xs : List (VV × VV × Nat)) (es : List MapEntry), ERs φ xs es → ∀ (i : Nat) (x : VV × VV × Nat) (e : MapEntry), VR φ x.1 e.key → VR φ x.2.1 e.val → x.2.2 = e.born → ERs φ (setAt xs i x) (es.set i e)
  | [], _, h, i, x, e, _, _, _ => by simp only [ERs] at h; subst h; simp [setAt, ERs]
  | y :: xs, es, h, i, x, e, h1, h2, h3 => by
    obtain ⟨z, zs, rfl, k1, k2, k3, k4⟩ := h
    cases i with
    | zero => simp only [setAt, List.set_cons_zero, ERs]; exact ⟨e, zs, rfl, h1, h2, h3, k4⟩
    | succ i => simp only [setAt, List.set_cons_succ, ERs]; exact ⟨z, _, rfl, k1, k2, k3, ERs_set xs zs k4 i x e h1 h2 h3⟩
theorem ERs_snoc {φ : Phi} : ∀ (xs : List (VV × VV × Nat)) (es : List MapEntry), ERs φ xs es → ∀ (x : VV × VV × Nat) (e : MapEntry), VR φ x.1 e.key → VR φ x.2.1 e.val → x.2.2 = e.born → ERs φ (xs ++ [x]) (es ++ [e])
  | [], _, h, x, e, h1, h2, h3 => by simp only [ERs] at h; subst h; simp only [List.nil_append, ERs]; exact ⟨e, [], rfl, h1, h2, h3, rfl⟩
  | y :: xs, es, h, x, e, h1, h2, h3 => by
    obtain ⟨z, zs, rfl, k1, k2, k3, k4⟩ := h
    simp only [List.cons_append, ERs]
    exact ⟨z, _, rfl, k1, k2, k3, ERs_snoc xs zs k4 x e h1 h2 h3⟩
theorem run_setObj {P : Program} {w : World} {r : Nat} {o o₁ : Obj} (h : w.heap[r]? = some o) (hn : ∀ c e f, o ≠ .cells c e f) : (setObj r o₁).run P w = .ok () { w with heap := w.heap.setIfInBounds r o₁ } ∧ Upd w { w with heap := w.heap.setIfInBounds r o₁ } r o₁ := by
  have hlt := (Array.getElem?_eq_some_iff.1 h).1
  refine ⟨?_, ⟨rfl, rfl, rfl, by simp, by simp [hlt], fun k hk => by simp only [Array.getElem?_setIfInBounds]; rw [if_neg (fun e => hk e.symm)]⟩⟩
  cases o <;> first | exact absurd rfl (hn _ _ _) | simp only [setObj, Sem.run, h]
theorem sameBits_of [Ext] {E : Env} {w0 : World} {φ : Phi} (he : EnvOK E φ w0) {k y : VV} {k' y' : Value} (h : keyEq E k y = some true) (hk : VR φ k k') (hy : VR φ y y') (n : Nat) : Instr.sameBits n y' k' = true := by
  cases k with
  | int kk a => cases y with
    | int kk' b =>
      simp only [keyEq] at h
      cases hq : kEq kk kk' with
      | false => rw [hq] at h; cases h
      | true =>
        rw [hq] at h
        have e : kk = kk' := of_decide_eq_true hq
        simp only [Option.some.injEq, beq_iff_eq] at h
        simp only [VR] at hk hy; subst hk; subst hy; subst e; subst h
        cases n <;> simp [Instr.sameBits]
    | sint kk' j =>
      obtain ⟨kk, u, v, rfl, rfl, e⟩ := symEql_sound he (by simpa only [keyEq] using h) hk hy
      have e' : u = v := by simpa using e.symm
      subst e'
      cases n <;> simp [Instr.sameBits]
    | _ => simp [keyEq] at h
  | sint kk j =>
    obtain ⟨kk, u, v, rfl, rfl, e⟩ := symEql_sound he (by simpa only [keyEq] using h) hk hy
    have e' : u = v := by simpa using e.symm
    subst e'
    cases n <;> simp [Instr.sameBits]
  | string s => cases y with
    | string s' =>
      simp only [keyEq, Option.some.injEq] at h
      rw [strEq_eq] at h
      simp only [VR] at hk hy; subst hk; subst hy
      have e : s.toList = s'.toList := by simpa using h
      cases n <;> simp only [Instr.sameBits, beq_toListBytes, e] <;> simp
    | _ => simp [keyEq] at h
  | _ => simp [keyEq] at h
def evUpdate (P : Program) (H : VH) (t : TypeId) (m k v : VV) : Out :=
  match P.underlying t, m with
  | some (.map kt _), .map (some (.loc i)) => match P.underlying kt, H.locs.get i with
    | some kd, some (.map es c) => match keyD kd k, findK H.base k es 0 with
      | true, some (some (j, _)) => match lget es j with
        | some e => .skip { H with locs := H.locs.put i (.map (setAt es j (k, v, e.2.2)) c) }
        | none => .bad
      | true, some none => .skip { H with locs := H.locs.put i (.map (es ++ [(k, v, c)]) (c + 1)) }
      | _, _ => .bad
    | _, _ => .bad
  | _, _ => .bad
theorem evUpdate_sound [Ext] {P : Program} {w0 : World} {φ : Phi} {H : VH} {w : World} (h : HSim w0 φ H w) {t : TypeId} {m k v : VV} {m' k' v' : Value} (hm : VR φ m m') (hk : VR φ k k') (hv : VR φ v v') :
    OutR w0 φ H w ((do Instr.mapUpdate t m' k' v'; pure Next.skip : Sem Next).run P w) (evUpdate P H t m k v) := by
  unfold evUpdate
  cases hu : P.underlying t with
  | none => trivial
  | some d => cases d with
    | map kt et => cases m with
      | map b => cases b with
        | none => trivial
        | some b => cases b with
          | base r => trivial
          | sym r => trivial
          | loc i =>
            simp only
            cases hkt : P.underlying kt with
            | none => trivial
            | some kd => cases hg : H.locs.get i with
              | none => trivial
              | some o => cases o with
                | map es c =>
                  simp only
                  cases hkd : keyD kd k with
                  | false => trivial
                  | true =>
                    simp only [VR, BR] at hm
                    obtain ⟨r, ⟨inf, hφ, rfl⟩, rfl⟩ := hm
                    obtain ⟨inf', o', hφ', hw, ⟨es', rfl, hes⟩, _⟩ := h.live i _ hg
                    rw [hφ] at hφ'; cases hφ'
                    have hck : ∀ e : Bool, (Instr.checkKey e 10000 kt k').run P w = .ok () w := fun e => run_checkKey (P := P) (w := w) hkt hkd hk e 9999
                    cases hf : findK H.base k es 0 with
                    | none => trivial
                    | some rr =>
                      obtain ⟨r', k1, k2⟩ := findK_sound h.env hkd hk es es' 0 rr hes hf
                      have hfk : (Instr.findKey kt k' es').run P w = .ok r' w := by simp [Instr.findKey, run_underlying hkt, k1]
                      cases rr with
                      | none =>
                        simp only at k2
                        subst k2
                        simp only
                        obtain ⟨s1, s2⟩ := run_setObj (P := P) (o₁ := .map ((⟨es'⟩ : Array MapEntry).push { key := k', val := v', born := c }) (c + 1)) hw (by simp)
                        refine ⟨_, φ, ?_, St.upd hφ s2, h.put hg hφ s2 ⟨es' ++ [{ key := k', val := v', born := c }], by simp, ERs_snoc _ _ hes _ _ hk hv rfl⟩, rfl⟩
                        simp only [Instr.mapUpdate, Sem.run_bind, run_underlying hu, Result.andThen_ok, run_getObj_map hw, hck, hfk, s1, Sem.run_pure]
                      | some jv =>
                        obtain ⟨j, v0⟩ := jv
                        simp only at k2
                        obtain ⟨v0', rfl, _⟩ := k2
                        obtain ⟨p, e, rfl, e1, e2, _⟩ := findK_at es 0 j v0 hf
                        simp only [Nat.zero_add] at *
                        rw [lget_eq, e1]
                        simp only
                        obtain ⟨e', g1, g2, g3, g4⟩ := ERs_get _ _ hes p e e1
                        have hsb := sameBits_of h.env e2 hk g2 10000
                        have hlt : p < es'.length := (List.getElem?_eq_some_iff.1 g1).1
                        obtain ⟨s1, s2⟩ := run_setObj (P := P) (o₁ := .map ((⟨es'⟩ : Array MapEntry).modify p fun e => { e with key := k', val := v' }) c) hw (by simp)
                        refine ⟨_, φ, ?_, St.upd hφ s2, h.put hg hφ s2 ⟨es'.set p { e' with key := k', val := v' }, ?_, ERs_set _ _ hes _ _ _ hk hv g4⟩, rfl⟩
                        · have hks : (Instr.keyThatStays (((⟨es'⟩ : Array MapEntry)[p]?).map (·.key) |>.getD k') k').run P w = .ok k' w := by
                            simp [Instr.keyThatStays, g1, hsb]
                          simp only [Instr.mapUpdate, Sem.run_bind, run_underlying hu, Result.andThen_ok, run_getObj_map hw, hck, hfk, hks, s1, Sem.run_pure]
                        · congr 1
                          apply Array.ext'
                          simp only [Array.toList_modify]
                          apply List.ext_getElem?
                          intro q
                          rw [List.getElem?_modify, List.getElem?_set]
                          by_cases hq : p = q
                          · subst hq; rw [g1]; simp [hlt]
                          · simp [hq]
                | _ => trivial
      | _ => trivial
    | _ => cases m <;> trivial
/-! ### delete; iterators over maps -/
def dropAt {α : Type} : List α → Nat → List α
  | [], _ => []
  | x :: l, n => match n with
    | 0 => l
    | n + 1 => x :: dropAt l n
theorem ERs_drop {φ : Phi} : ∀ (xs : List (VV × VV × Nat)) (es : List MapEntry), ERs φ xs es → ∀ i, ERs φ (dropAt xs i) (es.eraseIdx i)
  | [], es, h, i => by simp only [ERs] at h; subst h; simp [dropAt, ERs]
  | x :: xs, es, h, i => by
    obtain ⟨z, zs, rfl, k1, k2, k3, k4⟩ := h
    cases i with
    | zero => simpa only [dropAt, List.eraseIdx_cons_zero] using k4
    | succ i => simp only [dropAt, List.eraseIdx_cons_succ, ERs]; exact ⟨z, _, rfl, k1, k2, k3, ERs_drop xs zs k4 i⟩
def evDelete (P : Program) (H : VH) (t : TypeId) (m k : VV) : Out :=
  match P.underlying t, m with
  | some (.map kt _), .map (some (.loc i)) => match P.underlying kt, H.locs.get i with
    | some kd, some (.map es c) => match keyD kd k, findK H.base k es 0 with
      | true, some (some (j, _)) => .val (.tuple []) { H with locs := H.locs.put i (.map (dropAt es j) c) }
      | true, some none => .val (.tuple []) { H with locs := H.locs.put i (.map es c) }
      | _, _ => .bad
    | _, _ => .bad
  | _, _ => .bad
theorem VR_unit0 (φ : Phi) : VR φ (.tuple []) (.tuple #[]) := by simp only [VR]; exact ⟨[], by simp [VRs], rfl⟩
theorem evDelete_sound [Ext] {P : Program} {w0 : World} {φ : Phi} {H : VH} {w : World} (h : HSim w0 φ H w) {t : TypeId} {m k : VV} {m' k' : Value} (hm : VR φ m m') (hk : VR φ k k') (ts : List TypeId) (ty : TypeId) :
    OutR w0 φ H w ((do pure (Next.value (← Builtin.delete_ ⟨t :: ts⟩ ty #[m', k'])) : Sem Next).run P w) (evDelete P H t m k) := by
  unfold evDelete
  split
  · rename_i kt et i hu
    split
    · rename_i kd es c hkt hg
      split
      · rename_i j v0 hkd hf
        simp only [VR, BR] at hm
        obtain ⟨r, ⟨inf, hφ, rfl⟩, rfl⟩ := hm
        obtain ⟨inf', o', hφ', hw, ⟨es', rfl, hes⟩, _⟩ := h.live i _ hg
        rw [hφ] at hφ'; cases hφ'
        have hck : ∀ e : Bool, (Instr.checkKey e 10000 kt k').run P w = .ok () w := fun e => run_checkKey (P := P) (w := w) hkt hkd hk e 9999
        obtain ⟨r', k1, v0', rfl, _⟩ := findK_sound h.env hkd hk es es' 0 _ hes hf
        have hfk : (Instr.findKey kt k' es').run P w = .ok (some (j, v0')) w := by simp [Instr.findKey, run_underlying hkt, k1]
        obtain ⟨s1, s2⟩ := run_setObj (P := P) (o₁ := .map ((⟨es'⟩ : Array MapEntry).eraseIdxIfInBounds j) c) hw (by simp)
        refine ⟨_, _, φ, ?_, St.upd hφ s2, VR_unit0 φ, h.put hg hφ s2 ⟨es'.eraseIdx j, ?_, ERs_drop _ _ hes j⟩, rfl⟩
        · simp only [Builtin.delete_, Sem.run_bind, run_underlying hu, Result.andThen_ok, run_getObj_map hw, hck, hfk, s1, Sem.run_pure, List.getElem?_toArray, List.getElem?_cons_zero, List.getElem?_cons_succ]
        · congr 1
          apply Array.ext'
          simp
      · rename_i hkd hf
        simp only [VR, BR] at hm
        obtain ⟨r, ⟨inf, hφ, rfl⟩, rfl⟩ := hm
        obtain ⟨inf', o', hφ', hw, ⟨es', rfl, hes⟩, _⟩ := h.live i _ hg
        rw [hφ] at hφ'; cases hφ'
        have hck : ∀ e : Bool, (Instr.checkKey e 10000 kt k').run P w = .ok () w := fun e => run_checkKey (P := P) (w := w) hkt hkd hk e 9999
        obtain ⟨r', k1, rfl⟩ := findK_sound h.env hkd hk es es' 0 _ hes hf
        have hfk : (Instr.findKey kt k' es').run P w = .ok none w := by simp [Instr.findKey, run_underlying hkt, k1]
        obtain ⟨s1, s2⟩ := run_setObj (P := P) (o₁ := .map (⟨es'⟩ : Array MapEntry) c) hw (by simp)
        refine ⟨_, _, φ, ?_, St.upd hφ s2, VR_unit0 φ, h.put hg hφ s2 ⟨es', rfl, hes⟩, rfl⟩
        simp only [Builtin.delete_, Sem.run_bind, run_underlying hu, Result.andThen_ok, run_getObj_map hw, hck, hfk, s1, Sem.run_pure, List.getElem?_toArray, List.getElem?_cons_zero, List.getElem?_cons_succ]
      · trivial
    · trivial
  · trivial
/-- A range over a map begins. -/
def evRange (P : Program) (H : VH) (t : TypeId) (m : VV) : Out :=
  match P.underlying t, m with
  | some (.map _ _), .map (some (.loc i)) => match H.locs.get i, Nat.blt H.next top with
    | some (.map _ c), true => .val (.ptr (some ⟨.loc H.next, 0⟩)) (H.alloc (.miter i c [] c))
    | _, _ => .bad
  | _, _ => .bad
theorem evRange_sound [Ext] {P : Program} {w0 : World} {φ : Phi} {H : VH} {w : World} (h : HSim w0 φ H w) {t : TypeId} {m : VV} {m' : Value} (hm : VR φ m m') :
    OutR w0 φ H w ((do pure (Next.value (← Instr.range t m')) : Sem Next).run P w) (evRange P H t m) := by
  unfold evRange
  split
  · rename_i kt et i hu
    split
    · rename_i es c hg hn
      simp only [VR, BR] at hm
      obtain ⟨r, ⟨inf, hφ, rfl⟩, rfl⟩ := hm
      obtain ⟨inf', o', hφ', hw, ⟨es', rfl, hes⟩, _⟩ := h.live i _ hg
      rw [hφ] at hφ'; cases hφ'
      refine ⟨_, _, _, ?_, St.alloc h _ 0, VR_new, h.alloc (lt_of_blt hn) 0 _ (.mapIter (some inf.blk) c #[] c) ⟨rfl, inf, (Phi.le_ext _ (h.fresh _ (Nat.le_refl _))).1 _ _ hφ, rfl⟩, rfl⟩
      simp only [Instr.range, Sem.run_bind, run_underlying hu, Result.andThen_ok, run_getObj_map hw, run_newObj, Sem.run_pure]
      rfl
    · trivial
  · trivial
/-! ### what an append or a copy reads -/
def srcLen : VV → Option Nat
  | .slice none 0 _ => some 0
  | .slice (some _) n _ => some n
  | .sliceE => some 0
  | .string s => some s.size
  | _ => none
def strCells : List UInt8 → List VV
  | [] => []
  | b :: l => .int .u8 b.toNat :: strCells l
def srcCells (H : VH) (size n : Nat) : VV → Option (List VV)
  | .slice none 0 _ => some []
  | .slice (some a) _ _ => hload H a (n * size)
  | .sliceE => match n with | 0 => some [] | _ => none
  | .string s => match Nat.beq n s.size, Nat.beq size 1 with | true, true => some (strCells s.data.toList) | _, _ => none
  | _ => none
theorem strCells_sound {φ : Phi} : ∀ (l : List UInt8), VRs φ (strCells l) (l.map fun b => Value.int .u8 b.toNat)
  | [] => by simp [strCells, VRs]
  | b :: l => by simp only [strCells, List.map_cons, VRs]; exact ⟨_, _, rfl, by simp [VR], strCells_sound l⟩
theorem srcLen_sound {P : Program} {φ : Phi} {w : World} {x : VV} {x' : Value} (hx : VR φ x x') {n : Nat} (h : srcLen x = some n) : (Builtin.lenOf x').run P w = .ok n w := by
  cases x with
  | slice p l c => cases p with
    | none =>
      simp only [VR] at hx; subst hx
      cases l with
      | zero => simp only [srcLen, Option.some.injEq] at h; subst h; rfl
      | succ l => simp [srcLen] at h
    | some a => simp only [VR] at hx; obtain ⟨_, _, _, rfl⟩ := hx; simp only [srcLen, Option.some.injEq] at h; subst h; rfl
  | sliceE => simp only [VR] at hx; obtain ⟨_, _, rfl⟩ := hx; simp only [srcLen, Option.some.injEq] at h; subst h; rfl
  | string s => simp only [VR] at hx; subst hx; simp only [srcLen, Option.some.injEq] at h; subst h; rfl
  | _ => simp [srcLen] at h
theorem srcCells_sound [Ext] {P : Program} {w0 : World} {φ : Phi} {H : VH} {w : World} (h : HSim w0 φ H w) {x : VV} {x' : Value} (hx : VR φ x x') {size n : Nat} {l : List VV} (hl : srcCells H size n x = some l) :
    ∃ l', (Builtin.firstCells size n x').run P w = .ok ⟨l'⟩ w ∧ VRs φ l l' := by
  cases x with
  | slice p k c => cases p with
    | none =>
      simp only [VR] at hx; subst hx
      cases k with
      | zero => simp only [srcCells, Option.some.injEq] at hl; subst hl; exact ⟨[], rfl, by simp [VRs]⟩
      | succ k => simp [srcCells] at hl
    | some a =>
      simp only [VR] at hx
      obtain ⟨a', s, ha, rfl⟩ := hx
      obtain ⟨vs, h1, h2, _, h4⟩ := hload_sound h ha hl
      refine ⟨vs, ?_, h1⟩
      have hrun := run_loadCells_list (P := P) w a' vs h4
      rw [h2] at hrun
      exact hrun
  | sliceE =>
    simp only [VR] at hx
    obtain ⟨a', c, rfl⟩ := hx
    cases n with
    | zero => simp only [srcCells, Option.some.injEq] at hl; subst hl; exact ⟨[], by simp [Builtin.firstCells, loadCells, loadCellsFrom], by simp [VRs]⟩
    | succ n => simp [srcCells] at hl
  | string s =>
    simp only [VR] at hx; subst hx
    simp only [srcCells] at hl
    cases hb : Nat.beq n s.size with
    | false => rw [hb] at hl; cases hl
    | true =>
      cases hb1 : Nat.beq size 1 with
      | false => rw [hb, hb1] at hl; cases hl
      | true =>
      rw [hb, hb1] at hl
      simp only [Option.some.injEq] at hl
      subst hl
      have e : n = s.size := Nat.eq_of_beq_eq_true hb
      subst e
      refine ⟨s.data.toList.map fun b => Value.int .u8 b.toNat, ?_, strCells_sound _⟩
      simp only [Builtin.firstCells, Sem.run_pure]
      congr 1
      apply Array.ext'
      have : s.extract 0 s.size = s := by
        apply ByteArray.ext
        simp
      rw [this]
      simp
  | _ => simp [srcCells] at hl

theorem strCells_length : ∀ (l : List UInt8), (strCells l).length = l.length
  | [] => rfl
  | b :: l => by simp [strCells, strCells_length l]
theorem hload_length [Ext] {w0 : World} {φ : Phi} {H : VH} {w : World} (h : HSim w0 φ H w) {a : VA} {a' : Addr} {s n : Nat} (ha : AR φ a a' s) {xs : List VV} (hl : hload H a n = some xs) : xs.length = n := by
  obtain ⟨vs, h1, h2, _, _⟩ := hload_sound h ha hl
  rw [VRs_length _ _ h1, h2]
theorem srcCells_length [Ext] {w0 : World} {φ : Phi} {H : VH} {w : World} (h : HSim w0 φ H w) {x : VV} {x' : Value} (hx : VR φ x x') {size n : Nat} (hn : srcLen x = some n) {l : List VV} (hl : srcCells H size n x = some l) : l.length = n * size := by
  cases x with
  | slice p k c => cases p with
    | none => cases k with
      | zero => simp only [srcLen, Option.some.injEq] at hn; subst hn; simp only [srcCells, Option.some.injEq] at hl; subst hl; simp
      | succ k => simp [srcCells] at hl
    | some a =>
      simp only [VR] at hx
      obtain ⟨a', s, ha, rfl⟩ := hx
      exact hload_length h ha hl
  | sliceE => simp only [srcLen, Option.some.injEq] at hn; subst hn; simp only [srcCells, Option.some.injEq] at hl; subst hl; simp
  | string s =>
    simp only [srcCells] at hl
    cases hb : Nat.beq n s.size with
    | false => rw [hb] at hl; cases hl
    | true => cases hb1 : Nat.beq size 1 with
      | false => rw [hb, hb1] at hl; cases hl
      | true =>
        rw [hb, hb1] at hl
        simp only [Option.some.injEq] at hl
        subst hl
        rw [strCells_length, Nat.eq_of_beq_eq_true hb1, Nat.eq_of_beq_eq_true hb]
        simp
  | _ => simp [srcCells] at hl

/-! ### append -/
/-- Is the second argument of an append plain data (not the length of a made slice)? -/
def plainArg (P : Program) : Option TypeId → Bool
  | none => true
  | some t => match P.underlying t with
    | some (.int _) => false
    | some _ => true
    | none => false
def etNext (et : Option TypeId) (e : TypeId) : Option TypeId := match et with
  | some t => match Nat.beq t e with
    | true => some e
    | false => none
  | none => none
theorem etNext_sound {et : Option TypeId} {e t : TypeId} (h : etNext et e = some t) : t = e ∧ et = some t := by
  unfold etNext at h
  split at h
  · split at h
    · rename_i u _ hb
      have : u = e := Nat.eq_of_beq_eq_true hb
      subst this
      cases h
      exact ⟨rfl, rfl⟩
    · cases h
  · cases h
def evAppend (P : Program) (H : VH) (t : TypeId) (xt : Option TypeId) (s x : VV) : Out :=
  match P.underlying t with
  | some (.slice e) => match plainArg P xt, P.info? e, tzero P e, srcLen x with
    | true, some i, some z, some n => match s with
      | .slice base len cap => .ite (Nat.ble (len + n) cap)
          (match n with
            | 0 => .val (.slice base len cap) H
            | n + 1 => match base with
              | none => .bad
              | some a => match srcCells H i.size (n + 1) x with
                | none => .bad
                | some new => match hstore H (a.add (len * i.size)) new with
                  | some H₁ => .val (.slice (some a) (len + (n + 1)) cap) H₁
                  | none => .bad)
          (.chk (Nat.ble ((len + n) * i.bytes) 140737488355328) (.chk (Nat.blt (len + n) 1099511627776) (match Nat.beq z.cells.length i.size, Nat.blt H.next top with
            | true, true => match srcCells H i.size len (.slice base len cap), srcCells H i.size n x with
              | some old, some new => match base with
                | none => .val (.slice (some ⟨.loc H.next, 0⟩) (len + n) (len + n)) (H.alloc (.cells (old ++ new) (some i.size) 0 (some e)))
                | some a => match a.b with
                  | .base _ => .val (.slice (some ⟨.loc H.next, 0⟩) (len + n) (len + n)) (H.alloc (.cells (old ++ new) (some i.size) 0 (some e)))
                  | .sym _ => .bad
                  | .loc b => match H.locs.get b with
                    | some (.cells _ none _ _) => .val (.slice (some ⟨.loc H.next, 0⟩) (len + n) (len + n)) (H.alloc (.cells (old ++ new) (some i.size) 0 (some e)))
                    | some (.cells c (some sz) ro et) => match Nat.beq sz i.size, Nat.beq (a.o + cap * i.size) c.length, Nat.ble ro (a.o + len * i.size), flat new with
                      | true, true, true, true => .val (.slice (some ⟨.loc H.next, 0⟩) (len + n) (len + n)) { H with locs := (H.locs.del b).put H.next (.cells (old ++ new) (some i.size) (ro - a.o) (etNext et e)), next := H.next + 1 }
                      | _, _, _, _ => .bad
                    | _ => .bad
              | _, _ => .bad
            | _, _ => .bad)))
      | .sliceE => match n with
        | 0 => .val .sliceE H
        | _ + 1 => .bad
      | _ => .bad
    | _, _, _, _ => .bad
  | _ => .bad
theorem src0_sound {P : Program} {φ : Phi} {w : World} {x : VV} {x' : Value} (hx : VR φ x x') (h : srcLen x = some 0) (size : Nat) : (Builtin.firstCells size 0 x').run P w = .ok #[] w := by
  cases x with
  | slice p l c => cases p with
    | none => simp only [VR] at hx; subst hx; rfl
    | some a => simp only [VR] at hx; obtain ⟨_, _, _, rfl⟩ := hx; simp [Builtin.firstCells, loadCells, loadCellsFrom]
  | sliceE => simp only [VR] at hx; obtain ⟨_, _, rfl⟩ := hx; simp [Builtin.firstCells, loadCells, loadCellsFrom]
  | string s =>
    simp only [VR] at hx; subst hx
    simp only [Builtin.firstCells, Sem.run_pure]
    congr 1
    apply Array.ext'
    simp
  | _ => simp [srcLen] at h
def isIntD : TypeDesc → Bool
  | .int _ => true
  | _ => false
theorem zeros_false {P : Program} {xt : Option TypeId} (h : plainArg P xt = true) : xt = none ∨ ∃ t2 d, xt = some t2 ∧ P.underlying t2 = some d ∧ isIntD d = false := by
  cases xt with
  | none => exact .inl rfl
  | some t =>
    simp only [plainArg] at h
    cases hu : P.underlying t with
    | none => rw [hu] at h; cases h
    | some d =>
      rw [hu] at h
      refine .inr ⟨t, d, rfl, hu, ?_⟩
      cases d <;> first | rfl | (cases h)
section
variable {P : Program} {w : World} {t e ty : TypeId} {ts : List TypeId} {i : TypeInfo} {z' : Value}
set_option maxHeartbeats 4000000 in
/-- An append within the capacity. -/
theorem run_append_in (hu : P.underlying t = some (.slice e)) (hi : P.info? e = some i) (hp : plainArg P ts.head? = true) {base : Option Addr} {len cap n : Nat} {x' : Value} (hn : (Builtin.lenOf x').run P w = .ok n w) (hle : len + n ≤ cap)
    {new : List Value} (hnew : (Builtin.firstCells i.size n x').run P w = .ok ⟨new⟩ w) {w₁ : World} (hst : (match base with | some a => storeCells (a.add (len * i.size)) new | none => pure ()).run P w = .ok () w₁) :
    (Builtin.append_ ⟨t :: ts⟩ ty #[.slice base len cap, x']).run P w = .ok (.slice base (len + n) cap) w₁ := by
  have h0 : (⟨t :: ts⟩ : Array TypeId)[0]? = some t := by simp
  have hget : (⟨t :: ts⟩ : Array TypeId)[1]? = ts.head? := by cases ts <;> simp
  rcases zeros_false hp with hz | ⟨t2, d, hz, hu2, hd⟩
  · cases base with
    | none => simp at hst; subst hst; simp [Builtin.append_, hz, run_underlying hu, run_sizeOf' hi, tsize_eq hi, hn, hle, hnew, hget]
    | some a => simp at hst; simp [Builtin.append_, hz, run_underlying hu, run_sizeOf' hi, tsize_eq hi, hn, hle, hnew, hst, hget]
  · cases d <;> (try (cases hd; done)) <;> (cases base with
      | none => simp at hst; subst hst; simp [Builtin.append_, hz, run_underlying hu, run_sizeOf' hi, tsize_eq hi, hn, hle, hnew, run_underlying hu2, hget]
      | some a => simp at hst; simp [Builtin.append_, hz, run_underlying hu, run_sizeOf' hi, tsize_eq hi, hn, hle, hnew, hst, run_underlying hu2, hget])
set_option maxHeartbeats 4000000 in
/-- An append that needs a new array. -/
theorem run_append_out (hu : P.underlying t = some (.slice e)) (hi : P.info? e = some i) (hz' : i.zero = some z') (hp : plainArg P ts.head? = true) {base : Option Addr} {len cap n : Nat} {x' : Value} (hn : (Builtin.lenOf x').run P w = .ok n w) (hlt : cap < len + n)
    (hb : (len + n) * i.bytes ≤ 140737488355328) (hs : len + n < 1099511627776)
    {old new : List Value} (hold : (Builtin.firstCells i.size len (.slice base len cap)).run P w.drew = .ok ⟨old⟩ w.drew) (hnew : (Builtin.firstCells i.size n x').run P w.drew = .ok ⟨new⟩ w.drew) :
    (Builtin.append_ ⟨t :: ts⟩ ty #[.slice base len cap, x']).run P w = .ok (.slice (some ⟨w.heap.size, 0, none⟩) (len + n) (grownCap w (len + n) cap e)) (w.drew.alloc (.cells ⟨old ++ (new ++ (Builtin.zeroCells z'.cells (grownCap w (len + n) cap e - (len + n))).toList)⟩ e)) := by
  have h0 : (⟨t :: ts⟩ : Array TypeId)[0]? = some t := by simp
  have hget : (⟨t :: ts⟩ : Array TypeId)[1]? = ts.head? := by cases ts <;> simp
  have hfit := growslice_fits hlt hb
  have hti : ∀ w, (typeInfo e).run P w = .ok i w := fun w => by simp [typeInfo, hi]
  have hzv : ∀ w, (zeroValue e).run P w = .ok z' w := fun w => by simp [zeroValue, typeInfo, hi, hz']
  have n1 : ¬ (len + n ≤ cap) := by omega
  have n2 : ¬ (9223372036854775807 < (len : Int) + (n : Int)) := by omega
  have n3 : ¬ (281474976710656 < Builtin.nextslicecap (len + n) cap * i.bytes) := by omega
  have nf : (Question.appendCap (len + n) cap e).forced = false := rfl
  have arr : ∀ (a b : List Value) (c : Array Value), (⟨a⟩ : Array Value) ++ ((⟨b⟩ : Array Value) ++ c) = ⟨a ++ (b ++ c.toList)⟩ := fun a b c => by apply Array.ext'; simp
  rcases zeros_false hp with hz | ⟨t2, d, hz, hu2, hd⟩
  · simp [Builtin.append_, hz, run_underlying hu, run_sizeOf' hi, tsize_eq hi, hn, n1, n2, n3, nf, hti, hzv, hold, hnew, hget, newRow, grownCap, arr]
  · cases d <;> (try (cases hd; done)) <;> simp [Builtin.append_, hz, run_underlying hu, run_underlying hu2, run_sizeOf' hi, tsize_eq hi, hn, n1, n2, n3, nf, hti, hzv, hold, hnew, hget, newRow, grownCap, arr]
end
end
end Go.Ev
