/- Engine, part J: the dispatch of the operations that write, make memory or call. -/
import Derived.Test.YticgadnmlbfmfaaEvI
import Derived.Laws.Externs
namespace Go.Ev
noncomputable section
def evCopy (P : Program) (H : VH) (t : TypeId) (d x : VV) : Out :=
  match P.underlying t with
  | some (.slice e) => match P.info? e, srcLen x with
    | some i, some n => match d with
      | .slice (some a) m _ => match srcCells H i.size (Nat.min n m) x with
        | some l => match hstore H a l with
          | some H₁ => .val (.int .i64 (Nat.min n m)) H₁
          | none => .bad
        | none => .bad
      | .slice none 0 _ => match srcCells H i.size 0 x with
        | some _ => .val (.int .i64 (Nat.min n 0)) H
        | none => .bad
      | .sliceE => match srcCells H i.size 0 x with
        | some [] => .val (.int .i64 (Nat.min n 0)) H
        | _ => .bad
      | _ => .bad
    | _, _ => .bad
  | _ => .bad
theorem evCopy_sound [Ext] {P : Program} {w0 : World} {φ : Phi} {H : VH} {w : World} (h : HSim w0 φ H w) {t : TypeId} {ts : List TypeId} {ty : TypeId} {d x : VV} {d' x' : Value} (hd : VR φ d d') (hx : VR φ x x') :
    OutR w0 φ H w ((do pure (Next.value (← Builtin.copy_ ⟨t :: ts⟩ ty #[d', x'])) : Sem Next).run P w) (evCopy P H t d x) := by
  unfold evCopy
  cases hu : P.underlying t with
  | none => trivial
  | some dd => cases dd with
    | slice e =>
      simp only
      cases hi : P.info? e with
      | none => trivial
      | some i => cases hn : srcLen x with
        | none => trivial
        | some n =>
          simp only
          have hln := srcLen_sound (P := P) (w := w) hx hn
          have h0 : (⟨t :: ts⟩ : Array TypeId)[0]? = some t := by simp
          cases d with
          | slice p m c => cases p with
            | none => cases m with
              | zero =>
                simp only
                cases hs : srcCells H i.size 0 x with
                | none => trivial
                | some l =>
                  obtain ⟨l', f1, f2⟩ := srcCells_sound (P := P) h hx hs
                  simp only [VR] at hd
                  subst hd
                  refine ⟨.int .i64 (Nat.min n 0), w, φ, ?_, .refl φ w, by simp [VR], h, rfl⟩
                  simp [Builtin.copy_, run_underlying hu, hln, run_sizeOf' hi, tsize_eq hi, f1, goInt]
              | succ m => trivial
            | some a =>
              simp only
              cases hs : srcCells H i.size (Nat.min n m) x with
              | none => trivial
              | some l =>
                simp only
                cases hst : hstore H a l with
                | none => trivial
                | some H₁ =>
                  obtain ⟨l', f1, f2⟩ := srcCells_sound (P := P) h hx hs
                  simp only [VR] at hd
                  obtain ⟨a', s, ha, rfl⟩ := hd
                  obtain ⟨w₁, g1, g2, ⟨bi, binf, bo, hb1, hb2⟩, g4⟩ := hstore_sound (P := P) h ha hst f2
                  refine ⟨.int .i64 (Nat.min n m), w₁, φ, ?_, St.upd hb1 hb2, by simp [VR], g2, g4⟩
                  simp [Builtin.copy_, run_underlying hu, hln, run_sizeOf' hi, tsize_eq hi, f1, goInt, g1]
          | sliceE =>
            simp only
            cases hs : srcCells H i.size 0 x with
            | none => trivial
            | some l => cases l with
              | cons y l => trivial
              | nil =>
                obtain ⟨l', f1, f2⟩ := srcCells_sound (P := P) h hx hs
                simp only [VRs] at f2
                subst f2
                simp only [VR] at hd
                obtain ⟨a', c, rfl⟩ := hd
                refine ⟨.int .i64 (Nat.min n 0), w, φ, ?_, .refl φ w, by simp [VR], h, rfl⟩
                simp [Builtin.copy_, run_underlying hu, hln, run_sizeOf' hi, tsize_eq hi, f1, goInt, storeCells]
          | _ => trivial
    | _ => trivial
def evClear (P : Program) (H : VH) (t : TypeId) (x : VV) : Out :=
  match x with
  | .slice _ 0 _ | .sliceE | .map none => .val (.tuple []) H
  | .slice (some a) n _ => match P.underlying t with
    | some (.slice e) => match tzero P e with
      | some z => match hstore H a (rep n z.cells) with
        | some H₁ => .val (.tuple []) H₁
        | none => .bad
      | none => .bad
    | _ => .bad
  | _ => .bad
theorem VR_unit (φ : Phi) : VR φ (.tuple []) (.tuple #[]) := by simp only [VR]; exact ⟨[], by simp [VRs], rfl⟩
theorem evClear_sound [Ext] {P : Program} {w0 : World} {φ : Phi} {H : VH} {w : World} (h : HSim w0 φ H w) {t : TypeId} {d : TypeDesc} (hud : P.underlying t = some d) {ts : List TypeId} {ty : TypeId} {x : VV} {x' : Value} (hx : VR φ x x') :
    OutR w0 φ H w ((do pure (Next.value (← Builtin.clear_ ⟨t :: ts⟩ ty #[x'])) : Sem Next).run P w) (evClear P H t x) := by
  unfold evClear
  have triv : (∃ a c, x' = .slice a 0 c) ∨ x' = .map none → OutR w0 φ H w ((do pure (Next.value (← Builtin.clear_ ⟨t :: ts⟩ ty #[x'])) : Sem Next).run P w) (.val (.tuple []) H) := by
    intro hh
    refine ⟨.tuple #[], w, φ, ?_, .refl φ w, VR_unit φ, h, rfl⟩
    rcases hh with ⟨a, c, rfl⟩ | rfl
    · cases a <;> simp [Builtin.clear_, run_underlying hud]
    · simp [Builtin.clear_, run_underlying hud]
  cases x with
  | slice p n c =>
    cases n with
    | zero =>
      refine triv (.inl ?_)
      cases p <;> simp only [VR] at hx <;> (first | exact ⟨_, _, hx⟩ | (obtain ⟨_, _, _, rfl⟩ := hx; exact ⟨_, _, rfl⟩))
    | succ n => cases p with
      | none => trivial
      | some a =>
        simp only
        cases hu : P.underlying t with
        | none => trivial
        | some dd => cases dd with
          | slice e =>
            simp only
            cases hz : tzero P e with
            | none => trivial
            | some z =>
              simp only
              cases hst : hstore H a (rep (n + 1) z.cells) with
              | none => trivial
              | some H₁ =>
                simp only [VR] at hx
                obtain ⟨a', s, ha, rfl⟩ := hx
                obtain ⟨z', z1, z2⟩ := run_zero' (P := P) (w := w) hz φ
                have zc := VR_cells (tzero_notAny hz) z2
                have hl := VRs_length _ _ zc
                simp only [Array.length_toList] at hl
                have hr := rep_sound zc (n + 1)
                obtain ⟨w₁, g1, g2, ⟨bi, binf, bo, hb1, hb2⟩, g4⟩ := hstore_sound (P := P) h ha hst hr
                refine ⟨.tuple #[], w₁, φ, ?_, St.upd hb1 hb2, VR_unit φ, g2, g4⟩
                rw [hl] at g1
                have hzc : Builtin.zeroCells z'.cells (n + 1) = (Array.range ((n + 1) * z'.cells.size)).map (fun i => z'.cells[i % z'.cells.size]!) := rfl
                rw [← hzc] at g1
                simp [Builtin.clear_, run_underlying hu, z1, g1]
          | _ => trivial
  | sliceE => refine triv (.inl ?_); simp only [VR] at hx; obtain ⟨_, _, rfl⟩ := hx; exact ⟨_, _, rfl⟩
  | map b => cases b with
    | none => simp only [VR] at hx; exact triv (.inr hx)
    | some b => trivial
  | _ => trivial
/-! ### calls -/
/-! ### a string of a row of bytes -/
def maxN (a b : Nat) : Nat := match Nat.ble a b with | true => b | false => a
theorem maxN_left (a b : Nat) : a ≤ maxN a b := by
  unfold maxN; split
  · exact Nat.le_of_ble_eq_true (by assumption)
  · exact Nat.le_refl _
theorem maxN_right (a b : Nat) : b ≤ maxN a b := by
  unfold maxN; split
  · exact Nat.le_refl _
  · rename_i h
    rcases Nat.lt_or_ge b a with h1 | h1
    · omega
    · rw [Nat.ble_eq_true_of_le h1] at h; cases h
def evUStr (P : Program) (H : VH) (t : TypeId) (p n : VV) : Out :=
  match n with
  | .int .i64 (.ofNat 0) => match p with
    | .ptr _ => .val (.string .empty) H
    | _ => .bad
  | .int .i64 (.ofNat (.succ m)) => match P.underlying t, p with
    | some (.pointer e), .ptr (some ⟨.loc i, o⟩) => match P.info? e, H.locs.get i with
      | some j, some (.cells c g ro (some e')) => match Nat.beq e e', Nat.beq j.size 1, Nat.blt (.succ m) 9223372036854775807, hload H ⟨.loc i, o⟩ (.succ m) with
        | true, true, true, some l => match bytesOf l with
          | some b => .val (.string ⟨⟨byteList b⟩⟩) { H with locs := H.locs.put i (.cells c g (maxN ro (o + .succ m)) (some e')) }
          | none => .bad
        | _, _, _, _ => .bad
      | _, _ => .bad
    | _, _ => .bad
  | _ => .bad
theorem liesAt_byte {P : Program} {e : TypeId} (hc : P.cellsOf e = 1) (count off n : Nat) (hn : off + n ≤ count) : liesAt P P.depth e count off e n = true := by
  have hd : P.depth = (2 * (P.types.size + Made.depth) + 1) + 1 := rfl
  rw [hd]
  simp only [liesAt, Bool.or_eq_true]
  left
  rw [hd]
  simp [rowAt, hc, hn, sameLayout, Nat.mod_one]
theorem run_loadB {P : Program} {w : World} : ∀ (l : List Int) (a : Addr) (acc : ByteArray), a.spot = none → (∀ j x, l[j]? = some x → w.cell? (a.add j) = some (.int .u8 x)) → (loadBytes a acc l.length).run P w = .ok ⟨⟨acc.data.toList ++ byteList l⟩⟩ w
  | [], a, acc, _, _ => by simp [loadBytes, byteList]
  | x :: l, a, acc, hs, h => by
    have h0 : w.cell? a = some (.int .u8 x) := by
      have := h 0 x rfl
      rwa [Addr.add_none a hs, Nat.add_zero, show (⟨a.block, a.off, none⟩ : Addr) = a by cases a; simp_all] at this
    have ih := run_loadB (P := P) l (a.add 1) (acc.push x.toNat.toUInt8) (by rw [Addr.add_none a hs]) (fun j y hy => by
      have := h (j + 1) y (by simpa using hy)
      rw [Addr.add_none a hs] at this
      rw [Addr.add_none a hs, Addr.add_none _ rfl]
      simpa [Nat.add_comm, Nat.add_left_comm, Nat.add_assoc] using this)
    simp only [List.length_cons, loadBytes, Sem.run_bind, run_load, h0, Result.andThen]
    rw [ih]
    congr 1
    simp [ByteArray.push, byteList, UInt8.ofNat]
theorem freeze_upd {w : World} {b off n : Nat} {c : Array Value} {e : TypeId} {fr : Nat × Nat} (hw : w.heap[b]? = some (.cells c e fr)) (hn : n ≠ 0) :
    ∃ fr', Upd w (w.freeze ⟨b, off, none⟩ n) b (.cells c e fr') ∧ (∀ m, fr.2 ≤ m → off + n ≤ m → fr'.2 ≤ m) := by
  obtain ⟨lo, hi⟩ := fr
  have hlt := (Array.getElem?_eq_some_iff.1 hw).1
  refine ⟨if lo == hi then (off, off + n) else (min lo off, max hi (off + n)), ⟨?_, ?_, ?_, ?_, ?_, ?_⟩, ?_⟩
  · simp [World.freeze, hn]
  · simp [World.freeze, hn]
  · simp [World.freeze, hn]
  · simp [World.freeze, hn]
  · simp [World.freeze, hn, Array.getElem?_modify, hw]
  · intro k hk
    simp only [World.freeze, hn, if_false, Array.getElem?_modify]
    rw [if_neg (fun e => hk e.symm)]
  · intro m h1 h2
    simp only at h1
    split
    · exact h2
    · simp only; omega
theorem evUStr_sound [Ext] {P : Program} {w0 : World} {φ : Phi} {H : VH} {w : World} (h : HSim w0 φ H w) {t t2 ty : TypeId} {x y : VV} {x' y' : Value} (hx : VR φ x x') (hy : VR φ y y') :
    OutR w0 φ H w ((do pure (Next.value (← Builtin.unsafeString_ #[t, t2] ty #[x', y'])) : Sem Next).run P w) (evUStr P H t x y) := by
  unfold evUStr
  split
  · split
    · rename_i q
      simp only [VR] at hy
      subst hy
      have hp : ∃ q', x' = .pointer q' := by
        cases q with
        | none => simp only [VR] at hx; exact ⟨_, hx⟩
        | some a => simp only [VR] at hx; obtain ⟨_, _, _, rfl⟩ := hx; exact ⟨_, rfl⟩
      obtain ⟨q', rfl⟩ := hp
      have hr := Lib.run_unsafeString_none (P := P) w t t2 ty q'
      exact ⟨.string .empty, w, φ, by simp only [Sem.run_bind, Int.ofNat_eq_natCast, Int.natCast_zero, hr, Result.andThen_ok, Sem.run_pure], .refl φ w, by simp [VR], h, rfl⟩
    · trivial
  · rename_i m
    split
    · rename_i e i o hu
      split
      · rename_i j c g ro e' hj hg
        split
        · rename_i l b1 b2 b3 hl
          split
          · rename_i b hb
            have he : e = e' := Nat.eq_of_beq_eq_true b1
            subst he
            have hsz1 : j.size = 1 := Nat.eq_of_beq_eq_true b2
            have hmax := lt_of_blt b3
            simp only [VR] at hx hy
            subst hy
            obtain ⟨a', s, ha, rfl⟩ := hx
            obtain ⟨vs, v1, v2, _, v4⟩ := hload_sound h ha hl
            have hvs := bytesOf_sound _ _ _ v1 hb
            simp only [AR] at ha
            obtain ⟨inf, hφ, rfl, _⟩ := ha
            obtain ⟨inf', o', hφ', hw, ⟨c', e2, fr, rfl, hc⟩, hbase⟩ := h.live i _ hg
            rw [hφ] at hφ'; cases hφ'
            obtain ⟨rfl, _⟩ := hc.typ e rfl
            have hbl : b.length = m.succ := by rw [← v2, hvs]; simp
            have hcl : P.cellsOf e2 = 1 := by simp [Program.cellsOf, hj, hsz1]
            have hcs := hc.size
            have hlen : o + m.succ ≤ c.length := by
              unfold hload at hl
              simp only [hg] at hl
              obtain ⟨k1, _⟩ := takeN_eq _ _ _ hl
              rw [dropN_eq] at k1
              simp only [List.length_drop] at k1
              omega
            have hlies := liesAt_byte (P := P) hcl (c'.size / P.cellsOf e2) (inf.off + o) m.succ (by rw [hcl, Nat.div_one]; omega)
            have hlb := run_loadB (P := P) (w := w) b ⟨inf.blk, inf.off + o, none⟩ .empty rfl (fun k z hz => v4 k _ (by rw [hvs]; simp [hz]))
            rw [hbl] at hlb
            obtain ⟨fr', u1, u2⟩ := freeze_upd (off := inf.off + o) (n := m.succ) hw (by omega)
            have hrun : (Builtin.unsafeString_ #[t, t2] ty #[.pointer (some ⟨inf.blk, inf.off + o, none⟩), .int .i64 (Int.ofNat m.succ)]).run P w = .ok (.string ⟨⟨byteList b⟩⟩) (w.freeze ⟨inf.blk, inf.off + o, none⟩ m.succ) := by
              obtain ⟨m1, m2, m3, hdef⟩ : ∃ (m1 m2 : Sem PUnit) (m3 : Sem Value), Builtin.unsafeString_ #[t, t2] ty #[.pointer (some ⟨inf.blk, inf.off + o, none⟩), .int .i64 (Int.ofNat m.succ)] =
                  (do
                    let n ← asInt (.int .i64 (Int.ofNat m.succ))
                    if n < 0 then m1
                    if n > IntKind.i64.max then m2
                    if n = 0 then pure (.string .empty)
                    else if ← variablesAt ⟨inf.blk, inf.off + o, none⟩ (← elemOf t) n.toNat then do
                      let s ← loadBytes ⟨inf.blk, inf.off + o, none⟩ .empty n.toNat
                      freeze ⟨inf.blk, inf.off + o, none⟩ n.toNat
                      pure (.string s)
                    else m3) := ⟨_, _, _, rfl⟩
              rw [hdef]
              have hmx : IntKind.i64.max = 9223372036854775807 := rfl
              have hneg : ¬ ((m.succ : Nat) : Int) < 0 := by omega
              have h63 : ¬ (9223372036854775807 : Int) < ((m.succ : Nat) : Int) := by omega
              have hn0 : ¬ ((m.succ : Nat) : Int) = 0 := by omega
              have hsh : w.shape? inf.blk = some (e2, c'.size) := by simp [World.shape?, hw]
              have hel : (elemOf t).run P w = .ok e2 w := by simp [elemOf, run_underlying hu]
              have hva : (variablesAt ⟨inf.blk, inf.off + o, none⟩ e2 m.succ).run P w = .ok true w := by simp [variablesAt, hsh, hlies]
              have htn : (Int.ofNat m.succ).toNat = m.succ := rfl
              simp only [asInt, asIntOf, Sem.run_bind, Sem.run_pure, Result.andThen_ok, Int.ofNat_eq_natCast, hneg, hmx, h63, hn0, if_false, gt_iff_lt, hel, Int.toNat_natCast, hva, if_true, hlb]
              rfl
            refine ⟨.string ⟨⟨byteList b⟩⟩, _, φ, by simp only [Sem.run_bind, hrun, Result.andThen_ok, Sem.run_pure], St.upd hφ u1, by simp [VR], h.put hg hφ u1 ⟨c', e2, fr', rfl, ⟨hc.size, hc.fixed, hc.cell, ?_, hc.typ⟩⟩, rfl⟩
            refine u2 _ ?_ ?_
            · have := hc.low; have := maxN_left ro (o + m.succ); omega
            · have := maxN_right ro (o + m.succ); omega
          · trivial
        · trivial
      · trivial
    · trivial
  · trivial
/-- No function of the program asks how many goroutines there are. -/
def NoNG (P : Program) : Prop := ∀ (g : FuncId) (fn : Func), P.funcs[g]? = some fn → (fn.name == "runtime.NumGoroutine") = false
/-- Functions without a body: the one that hands back what it is given. -/
def evExt (H : VH) (fn : Func) (args : List VV) : Out :=
  match fn.name == "internal/abi.NoEscape", fn.origin == "", args with
  | true, true, [v] => .val v H
  | _, _, _ => .bad
def evEnter (P : Program) (H : VH) (g : FuncId) (args : List VV) : Out :=
  match P.funcs[g]? with
  | some fn => match fn.body with
    | some _ => .enter g args
    | none => evExt H fn args
  | none => .bad
theorem find_noEscape {fn : Func} (hn : fn.name = "internal/abi.NoEscape") (ho : fn.origin = "") : Extern.findNext fn = none ∧ Extern.find fn = some Extern.AbiNoEscape.same := by
  have h1 : Extern.allNextRows.lookup "internal/abi.NoEscape" = none := by kernel_rfl
  have h2 : Extern.allNextRows.lookup "" = none := by kernel_rfl
  have h3 : Extern.allGenericRows.lookup "internal/abi.NoEscape" = none := by kernel_rfl
  have h4 : Extern.allTypedRows.lookup "internal/abi.NoEscape" = none := by kernel_rfl
  have h5 : Extern.allRows.lookup "internal/abi.NoEscape" = some Extern.AbiNoEscape.same := by kernel_rfl
  constructor
  · simp only [Extern.findNext, hn, ho, h1, h2]; rfl
  · simp only [Extern.find, hn, h3, h4, h5]; rfl
theorem evExt_sound [Ext] {P : Program} (hng : NoNG P) {w0 : World} {φ : Phi} {H : VH} {w : World} (hs : HSim w0 φ H w) {g : FuncId} {fn : Func} (hf : P.funcs[g]? = some fn) (hb : fn.body = none) {args : List VV} {args' : List Value} (ha : VRs φ args args') :
    OutR w0 φ H w ((callFunc g ⟨args'⟩).run P w) (evExt H fn args) := by
  unfold evExt
  split
  · rename_i v h1 h2
    obtain ⟨e1, e2⟩ := find_noEscape (eq_of_beq h1) (eq_of_beq h2)
    simp only [VRs] at ha
    obtain ⟨v', l, rfl, hv, rfl⟩ := ha
    rw [run_callFunc_extern hf (hng g fn hf) (by simp [hb]) e1 e2]
    exact ⟨v', w, φ, rfl, .refl φ w, hv, hs, rfl⟩
  · trivial
theorem evEnter_sound [Ext] {P : Program} (hng : NoNG P) {w0 : World} {φ : Phi} {H : VH} {w : World} (hs : HSim w0 φ H w) {g : FuncId} {args : List VV} {args' : List Value} (ha : VRs φ args args') :
    OutR w0 φ H w ((callFunc g ⟨args'⟩).run P w) (evEnter P H g args) := by
  unfold evEnter
  cases hf : P.funcs[g]? with
  | none => trivial
  | some fn =>
    simp only
    cases hb : fn.body with
    | none => exact evExt_sound hng hs hf hb ha
    | some c =>
      simp only
      refine ⟨args', ?_, ha⟩
      have hn := hng g fn hf
      simp only [callFunc, Sem.run_bind, run_program, Result.andThen_ok, hf, hn, hb]
      simp
def evCallV (P : Program) (H : VH) (f : VV) (args : List VV) : Out :=
  match f with
  | .func (.func g) first cap => evEnter P H g (first ++ (args ++ cap))
  | .yield i => match H.locs.get i with
    | some (.loop _ _ _ _ params _ _) => match Nat.beq args.length params.length with
      | true => .round i args
      | false => .bad
    | _ => .bad
  | _ => .bad
/-- The method of an interface value's dynamic type, where it is the type's own and takes the value as it is. -/
def evMethod (P : Program) (t : TypeId) (name : String) : Option FuncId := match P.info? t with
  | some i => match i.methods.find? (·.name == name) with
    | some m => match m.path.toList, m.func, P.underlying t with
      | [], some (f, true), some (.pointer _) => some f
      | [], some (f, false), some d => match d with
        | .pointer _ => none
        | _ => some f
      | _, _, _ => none
    | none => none
  | none => none
theorem evMethod_sound {P : Program} {t : TypeId} {name : String} {f : FuncId} (h : evMethod P t name = some f) (v : Value) (args : Array Value) (w : World) : (callMethod (.iface t v) name args).run P w = (callFunc f (#[v] ++ args)).run P w := by
  unfold evMethod at h
  split at h
  · rename_i i hi
    split at h
    · rename_i m hm
      have hd : P.types.size + Made.depth = (P.types.size + (Made.depth - 1)) + 1 := rfl
      have hti : (typeInfo t).run P w = .ok i w := by simp [typeInfo, hi]
      have hmm : ∀ r : Value, (do let (xt, x) ← follow m.path.toList t (.val v); receiverAt xt x (match m.func with | some (_, b) => b | none => false) (if m.path.isEmpty then some ((name.splitOn ".").getLastD name) else none) : Sem Value).run P w = .ok r w → (∃ b, m.func = some (f, b)) → (method (P.types.size + Made.depth) t v name).run P w = .ok (f, r) w := by
        intro r hr ⟨b, hb⟩
        rw [hd]
        simp only [method, Sem.run_bind, hti, Result.andThen_ok, hm]
        simp only [Sem.run_bind, hb] at hr ⊢
        cases hf : (follow m.path.toList t (.val v)).run P w with
        | ok xx w' =>
          rw [hf] at hr
          simp only [Result.andThen_ok] at hr ⊢
          rw [hr]
          rfl
        | halt hh w' => rw [hf] at hr; cases hr
      split at h
      · rename_i f' e hp hfn hu
        cases h
        have := hmm v (by simp [hp, hfn, follow, receiverAt, run_underlying hu, Place.get]) ⟨true, hfn⟩
        simp only [callMethod, Sem.run_bind, run_program, Result.andThen_ok, this]
      · rename_i f' d hp hfn hu
        split at h
        · cases h
        · rename_i hnp
          cases h
          have := hmm v (by
            simp only [hp, hfn, follow, receiverAt, Sem.run_bind, Sem.run_pure, Result.andThen_ok, run_underlying hu]
            cases d <;> first | exact absurd rfl (hnp _) | rfl) ⟨false, hfn⟩
          simp only [callMethod, Sem.run_bind, run_program, Result.andThen_ok, this]
      · cases h
    · cases h
  · cases h
theorem HSim.sub [Ext] {w0 : World} {φ : Phi} {K H : VH} {w : World} (h : HSim w0 φ K w) (hb : H.base = K.base) (hn : H.next = K.next) (hl : ∀ i x, H.locs.get i = some x → K.locs.get i = some x) : HSim w0 φ H w :=
  ⟨by rw [hb]; exact h.env, by rw [hb]; exact h.base, h.old, h.own, by rw [hn]; exact h.small, fun i x hx => by rw [hb]; exact h.live i x (hl i x hx), fun i j oi oj inf jnf h1 h2 h3 h4 h5 => h.inj i j oi oj inf jnf (hl _ _ h1) (hl _ _ h2) h3 h4 h5, by rw [hn]; exact h.fresh, h.bound⟩
theorem bytesOf_map : ∀ (l : List UInt8), bytesOf (l.map fun b => VV.int .u8 b.toNat) = some (l.map fun b => (b.toNat : Int))
  | [] => rfl
  | b :: l => by simp only [List.map_cons, bytesOf, bytesOf_map l]
theorem byteList_map : ∀ (l : List UInt8), byteList (l.map fun b => (b.toNat : Int)) = l
  | [] => rfl
  | b :: l => by simp only [List.map_cons, byteList, byteList_map l, Int.toNat_natCast, UInt8.ofNat_toNat]
/-- The string that is a text's bytes; the text is done. -/
def evUTxt (P : Program) (H : VH) (t : TypeId) (p : VV) (ps : List VV) : Out := match P.underlying t, p with
  | some (.pointer e), .ptr (some ⟨.loc i, 0⟩) => match P.info? e, H.locs.get i with
    | some j, some (.txt ps' (some e')) => match Nat.beq e e', Nat.beq j.size 1, sEqs ps ps', someT H.base ps, szT H.base ps with
      | true, true, true, true, some m => match decide (m < 9223372036854775807), Nat.blt H.next top with
        | true, true => .val (.cat ps) { H with locs := H.locs.del i }
        | _, _ => .bad
      | _, _, _, _, _ => .bad
    | _, _ => .bad
  | _, _ => .bad
theorem evUTxt_sound [Ext] {P : Program} {w0 : World} {φ : Phi} {H : VH} {w : World} (h : HSim w0 φ H w) {t t2 ty : TypeId} {x : VV} {ps : List VV} {x' y' : Value} (hx : VR φ x x') (hy : VR φ (.tlen ps) y') :
    OutR w0 φ H w ((do pure (Next.value (← Builtin.unsafeString_ #[t, t2] ty #[x', y'])) : Sem Next).run P w) (evUTxt P H t x ps) := by
  unfold evUTxt
  split
  · rename_i e i hu
    split
    · rename_i j ps' e' hj hg
      split
      · rename_i m b1 b2 b3 b4 b5
        split
        · rename_i b6 b7
          have := Nat.eq_of_beq_eq_true b1
          subst this
          have := sEqs_eq b3
          subst this
          simp only [VR] at hy
          obtain ⟨u, u1, rfl⟩ := hy
          have hpos := someT_sound h.env b4 u1
          have hsz := szT_sound h.env b5 u1
          have hm := of_decide_eq_true b6
          obtain ⟨inf, o', k1, k2, ⟨u', k3, c', e2, fr, rfl, k4⟩, k5⟩ := h.live _ _ hg
          rw [u1] at k3
          cases k3
          have hi : i < top := Nat.lt_trans (h.lt k1) (lt_of_blt b7)
          have hS : HSim w0 φ { H with locs := H.locs.put i (.cells (txtCells u) (some 1) 0 (some e)) } w := h.put hg k1 ⟨rfl, rfl, rfl, rfl, k2, fun _ _ => rfl⟩ ⟨c', e2, fr, rfl, k4⟩
          have hgS : (H.locs.put i (.cells (txtCells u) (some 1) 0 (some e))).get i = some (.cells (txtCells u) (some 1) 0 (some e)) := TT.get_put_same _ _ _ hi
          obtain ⟨q, hq⟩ : ∃ q, u.size = q + 1 := ⟨u.size - 1, by omega⟩
          have hld : hload { H with locs := H.locs.put i (.cells (txtCells u) (some 1) 0 (some e)) } ⟨.loc i, 0⟩ (q + 1) = some (txtCells u) := by
            unfold hload
            simp only [hgS]
            rw [← hq, ← txtCells_len]
            exact takeN_all _
          have key := evUStr_sound (P := P) (t2 := t2) (ty := ty) (t := t) hS hx (y := .int .i64 (Int.ofNat (q + 1))) (y' := .int .i64 u.size) (by simp only [VR, hq]; rfl)
          have hev : evUStr P { H with locs := H.locs.put i (.cells (txtCells u) (some 1) 0 (some e)) } t (.ptr (some ⟨.loc i, 0⟩)) (.int .i64 (Int.ofNat (q + 1))) = .val (.string u) { H with locs := (H.locs.put i (.cells (txtCells u) (some 1) 0 (some e))).put i (.cells (txtCells u) (some 1) (maxN 0 (0 + (q + 1))) (some e)) } := by
            have hb : bytesOf (txtCells u) = some (u.data.toList.map fun b => (b.toNat : Int)) := bytesOf_map _
            have hlt : Nat.blt (q + 1) 9223372036854775807 = true := Nat.ble_eq_true_of_le (by omega)
            have hee : Nat.beq e e = true := by simp
            unfold evUStr
            simp only [hu, hj, hgS, hee, b2, hlt, hld, hb, byteList_map]
          rw [hev] at key
          obtain ⟨v', w₁, φ₁, r1, r2, r3, r4, r5⟩ := key
          refine ⟨v', w₁, φ₁, r1, r2, ?_, r4.sub rfl rfl fun j x hx => ?_, rfl⟩
          · simp only [VR] at r3 ⊢
            exact ⟨u, by rw [r2.le.2]; exact u1, r3⟩
          · have hx' : (H.locs.del i).get j = some x := hx
            by_cases e : j = i
            · subst e
              rw [TT.get_del_same _ _ hi] at hx'
              cases hx'
            · rw [TT.get_del_other _ _ _ e] at hx'
              show ((H.locs.put i _).put i _).get j = some x
              rw [TT.get_put_other _ _ _ _ e, TT.get_put_other _ _ _ _ e]
              exact hx'
        · trivial
      · trivial
    · trivial
  · trivial
/-- The entry that an iterator found last. -/
def bornAt (b : Nat) : List (VV × VV × Nat) → Option (VV × VV)
  | [] => none
  | e :: l => match Nat.beq e.2.2 b with
    | true => some (e.1, e.2.1)
    | false => bornAt b l
def lastN : List Nat → Option Nat
  | [] => none
  | x :: l => match l with
    | [] => some x
    | y :: l => lastN (y :: l)
theorem lastN_eq : ∀ (l : List Nat), lastN l = l.getLast?
  | [] => rfl
  | [x] => rfl
  | x :: y :: l => by rw [List.getLast?_cons_cons]; exact lastN_eq (y :: l)
theorem bornAt_sound {φ : Phi} {b : Nat} {k v : VV} : ∀ (xs : List (VV × VV × Nat)) (es : List MapEntry), ERs φ xs es → bornAt b xs = some (k, v) → ∃ e, es.find? (·.born == b) = some e ∧ VR φ k e.key ∧ VR φ v e.val
  | [], _, _, h => by cases h
  | x :: xs, es, hr, h => by
    obtain ⟨z, zs, rfl, k1, k2, k3, k4⟩ := hr
    simp only [bornAt] at h
    rw [k3] at h
    cases hb : Nat.beq z.born b with
    | true =>
      rw [hb] at h
      simp only [Option.some.injEq, Prod.mk.injEq] at h
      obtain ⟨rfl, rfl⟩ := h
      refine ⟨z, ?_, k1, k2⟩
      rw [List.find?_cons, show (z.born == b) = true from beq_iff_eq.2 (Nat.eq_of_beq_eq_true hb)]
    | false =>
      rw [hb] at h
      obtain ⟨e, e1, e2⟩ := bornAt_sound xs zs k4 h
      refine ⟨e, ?_, e2⟩
      rw [List.find?_cons, show (z.born == b) = false from beq_eq_false_iff_ne.2 (Nat.ne_of_beq_eq_false hb)]
      exact e1
def evEntry (H : VH) (p : VV) : Out := match p with
  | .ptr (some ⟨.loc j, 0⟩) => match H.locs.get j with
    | some (.miter i _ seen last) => match H.locs.get i, lastN seen with
      | some (.map es c), some b => match Nat.beq c last, bornAt b es with
        | true, some (k, v) => .val (.tuple [k, v]) H
        | _, _ => .bad
      | _, _ => .bad
    | _ => .bad
  | _ => .bad
theorem evEntry_sound [Ext] {P : Program} {w0 : World} {φ : Phi} {H : VH} {w : World} (hs : HSim w0 φ H w) {p : VV} {p' : Value} (hp : VR φ p p') :
    OutR w0 φ H w ((do pure (Next.value (← Instr.entry p')) : Sem Next).run P w) (evEntry H p) := by
  unfold evEntry
  split
  · rename_i j
    split
    · rename_i i since seen last hj
      split
      · rename_i es c b hi hl
        split
        · rename_i k v hc hb
          simp only [VR] at hp
          obtain ⟨a', s, ha, rfl⟩ := hp
          unfold AR at ha
          obtain ⟨inf, hφ, h1, h2⟩ := ha
          obtain ⟨inf1, o1, q1, q2, ⟨q0, inf2, q3, rfl⟩, q4⟩ := hs.live j _ hj
          rw [hφ] at q1; cases q1
          obtain ⟨inf3, o3, r1, r2, ⟨es', rfl, r3⟩, r4⟩ := hs.live i _ hi
          rw [q3] at r1; cases r1
          have ha' : a' = ⟨inf.blk, 0, none⟩ := by rw [h1, q0]; rfl
          subst ha'
          obtain ⟨e, e1, e2, e3⟩ := bornAt_sound es es' r3 hb
          have hcl : c = last := Nat.eq_of_beq_eq_true hc
          subst hcl
          rw [lastN_eq] at hl
          have hv : VR φ (.tuple [k, v]) (.tuple #[e.key, e.val]) := by
            simp only [VR]
            refine ⟨[e.key, e.val], ?_, rfl⟩
            unfold VRs
            refine ⟨_, _, rfl, e2, ?_⟩
            unfold VRs
            refine ⟨_, _, rfl, e3, ?_⟩
            unfold VRs
            rfl
          refine ⟨_, w, φ, ?_, .refl φ w, hv, hs, rfl⟩
          have hback : (⟨seen⟩ : Array Nat).back? = some b := by rw [← Array.getLast?_toList]; exact hl
          have hfind : (⟨es'⟩ : Array MapEntry).find? (·.born == b) = some e := by rw [← Array.find?_toList]; exact e1
          simp [Instr.entry, getObj, Sem.run_bind, Sem.run, q2, r2, Result.andThen, hback, hfind]
        · trivial
      · trivial
    · trivial
  · trivial
def orOut (r t : Out) : Out := match r with
  | .bad => t
  | r => r
theorem orOut_sound [Ext] {w0 : World} {φ : Phi} {H : VH} {w : World} {r : Result Next} {x y : Out} (h1 : OutR w0 φ H w r x) (h2 : OutR w0 φ H w r y) : OutR w0 φ H w r (orOut x y) := by
  unfold orOut
  split
  · exact h2
  · exact h1
def evCallE (P : Program) (c : Call) (a : VT) (H : VH) : Out :=
  match c.callee with
  | .invoke r n => match evOperand a r, evOperands a c.args.toList with
    | some (.iface t v), some vs => match evMethod P t n with
      | some f => evEnter P H f (v :: vs)
      | none => .bad
    | _, _ => .bad
  | .value f => match evOperand a f, evOperands a c.args.toList with
    | some f, some vs => evCallV P H f vs
    | _, _ => .bad
  | .builtin b => match b, c.args, c.argTypes with
    | .append, ⟨[s, x]⟩, ⟨t :: ts⟩ => match evOperand a s, evOperand a x with
      | some s, some x => match plainArg P ts.head? with
        | true => match s with
          | .lsl b n m => evAppendL P H t ts.head? b n m x
          | .tsl b ps => evAppendT P H t ts.head? (.tsl b ps) x
          | s => orOut (orOut (evAppend P H t ts.head? s x) (evAppendT P H t ts.head? s x)) (evAppendS P H t ts.head? s x)
        | false => evAppendZ P H t ts.head? s x
      | _, _ => .bad
    | .copy, ⟨[d, x]⟩, ⟨t :: _⟩ => match evOperand a d, evOperand a x with
      | some d, some x => evCopy P H t d x
      | _, _ => .bad
    | .clear, ⟨[x]⟩, ⟨t :: _⟩ => match evOperand a x, P.underlying t with
      | some x, some _ => evClear P H t x
      | _, _ => .bad
    | .delete, ⟨[m, k]⟩, ⟨t :: _⟩ => match evOperand a m, evOperand a k with
      | some m, some k => evDelete P H t m k
      | _, _ => .bad
    | .unsafeString, ⟨[x, y]⟩, ⟨[t, _]⟩ => match evOperand a x, evOperand a y with
      | some x, some y => match y with
        | .tlen ps => evUTxt P H t x ps
        | y => evUStr P H t x y
      | _, _ => .bad
    | _, _, _ => .bad
/-- An operation that writes, makes memory or calls. -/
def evE (P : Program) (o : Op) (a : VT) (H : VH) : Out :=
  match o with
  | .alloc _ | .box _ _ | .buildSlice _ _ _ | .makeMap _ _ | .makeSlice _ _ _ => newOf H (evNew P o a)
  | .store t x y => match evOperand a x, evOperand a y, P.info? t with
    | some (.ptr (some ad)), some v, some i => match Nat.beq v.cells.length i.size, hstoreA H ad v.cells with
      | true, some H₁ => .skip H₁
      | _, _ => .bad
    | _, _, _ => .bad
  | .mapUpdate t m k v | .insert t m k v => match evOperand a m, evOperand a k, evOperand a v with
    | some m, some k, some v => evUpdate P H t m k v
    | _, _, _ => .bad
  | .call c => evCallE P c a H
  | .range t x => match evOperand a x with
    | some x => evRange P H t x
    | none => .bad
  | .entry x => match evOperand a x with
    | some x => evEntry H x
    | none => .bad
  | _ => .bad
theorem evCallE_sound [Ext] {P : Program} (hng : NoNG P) {w0 : World} {φ : Phi} {a : VT} {act : Act} {H : VH} {w : World} (ht : TR φ a act.tmps) (hs : HSim w0 φ H w) (c : Call) (o : Oper) (ho : o.op = .call c) :
    OutR w0 φ H w ((execOp act.eval o).run P w) (evCallE P c a H) := by
  obtain ⟨cal, args, ts⟩ := c
  unfold evCallE
  cases cal with
  | invoke r n =>
    simp only
    cases hr : evOperand a r with
    | none => trivial
    | some rv => cases hv : evOperands a args.toList with
      | none => cases rv <;> trivial
      | some vs => cases rv with
        | iface t v =>
          simp only
          cases hm : evMethod P t n with
          | none => trivial
          | some f =>
            have hrr := evOperand_sound ht hr
            have hvr := evOperands_sound ht _ _ hv
            simp only [VR] at hrr
            obtain ⟨v', h1, h2⟩ := hrr
            have he := evEnter_sound hng hs (g := f) (show VRs φ (v :: vs) (v' :: args.toList.map act.eval) by simp only [VRs]; exact ⟨_, _, rfl, h1, hvr⟩)
            have hrun : (execOp act.eval o).run P w = (callFunc f ⟨v' :: args.toList.map act.eval⟩).run P w := by
              unfold execOp
              rw [ho]
              simp only [resolve, h2, Sem.run_bind, Sem.run_pure, Result.andThen_ok]
              unfold invoke
              simp only
              have e0 : (#[Value.iface t v'] ++ args.map act.eval)[0]? = some (.iface t v') := by
                first | rfl | (rw [Array.getElem?_append_left (Nat.zero_lt_one)]; rfl)
              have e1 : (#[Value.iface t v'] ++ args.map act.eval).extract 1 (#[Value.iface t v'] ++ args.map act.eval).size = args.map act.eval := by
                apply Array.ext'
                simp
                rw [List.take_of_length_le (by simp)]
              rw [e0]
              simp only [e1]
              rw [evMethod_sound hm]
              congr 2
              apply Array.ext'
              simp
            rw [hrun]
            exact he
        | _ => trivial
  | builtin b =>
    simp only
    have run : ∀ (args' : Array Value), args.map act.eval = args' → (execOp act.eval o).run P w = (builtin b ts o.type (args.map fun | .const _ => true | _ => false) args').run P w := by
      intro args' h
      unfold execOp
      rw [ho]
      simp [resolve, h, invoke]
      rfl
    split
    · rename_i s x t ts'
      rw [run #[act.eval s, act.eval x] (by simp)]
      cases h1 : evOperand a s with
      | none => trivial
      | some u => cases h2 : evOperand a x with
        | none => trivial
        | some v =>
          simp only
          cases plainArg P ts'.head? with
          | true => cases u <;> first
            | exact evAppendL_sound hs (evOperand_sound ht h1) (evOperand_sound ht h2)
            | exact evAppendT_sound hs (evOperand_sound ht h1) (evOperand_sound ht h2)
            | exact orOut_sound (orOut_sound (evAppend_sound hs (evOperand_sound ht h1) (evOperand_sound ht h2)) (evAppendT_sound hs (evOperand_sound ht h1) (evOperand_sound ht h2))) (evAppendS_sound hs (evOperand_sound ht h1) (evOperand_sound ht h2))
          | false => exact evAppendZ_sound hs (evOperand_sound ht h1) (evOperand_sound ht h2)
    · rename_i d x t ts'
      rw [run #[act.eval d, act.eval x] (by simp)]
      cases h1 : evOperand a d with
      | none => trivial
      | some u => cases h2 : evOperand a x with
        | none => trivial
        | some v => exact evCopy_sound hs (evOperand_sound ht h1) (evOperand_sound ht h2)
    · rename_i x t ts'
      rw [run #[act.eval x] (by simp)]
      cases h1 : evOperand a x with
      | none => trivial
      | some u => cases h2 : P.underlying t with
        | none => trivial
        | some d => exact evClear_sound hs h2 (evOperand_sound ht h1)
    · rename_i m k t ts'
      rw [run #[act.eval m, act.eval k] (by simp)]
      cases h1 : evOperand a m with
      | none => trivial
      | some u => cases h2 : evOperand a k with
        | none => trivial
        | some v => exact evDelete_sound hs (evOperand_sound ht h1) (evOperand_sound ht h2) _ _
    · rename_i x y t t2
      rw [run #[act.eval x, act.eval y] (by simp)]
      cases h1 : evOperand a x with
      | none => trivial
      | some u => cases h2 : evOperand a y with
        | none => trivial
        | some v => cases v <;> first
          | exact evUTxt_sound hs (evOperand_sound ht h1) (evOperand_sound ht h2)
          | exact evUStr_sound hs (evOperand_sound ht h1) (evOperand_sound ht h2)
    · trivial
  | value f =>
    simp only
    cases hf : evOperand a f with
    | none => trivial
    | some fv => cases hv : evOperands a args.toList with
      | none => trivial
      | some vs =>
        simp only
        have hfr := evOperand_sound ht hf
        have hvr := evOperands_sound ht _ _ hv
        unfold evCallV
        cases fv with
        | func fn first cap =>
          cases fn with
          | func g =>
            simp only [VR] at hfr
            obtain ⟨first', cap', _, h1, h2, h3⟩ := hfr
            have he := evEnter_sound hng hs (g := g) (VRs_append h1 (VRs_append hvr h2))
            have hrun : (execOp act.eval o).run P w = (callFunc g ⟨first' ++ (args.toList.map act.eval ++ cap')⟩).run P w := by
              unfold execOp
              rw [ho]
              simp only [resolve, h3, Deferred.ofValue, Sem.run_bind, Sem.run_pure, Result.andThen_ok, invoke]
              congr 2
              apply Array.ext'
              simp
            rw [hrun]
            exact he
          | _ => trivial
        | yield i =>
          simp only
          cases hg : H.locs.get i with
          | none => trivial
          | some vo => cases vo with
            | loop st pend tm nt params asg body =>
              simp only
              cases hb : Nat.beq vs.length params.length with
              | false => trivial
              | true =>
                obtain ⟨inf, o', h1, h2, ⟨tmps', fn, d, rfl, h3, h4⟩, _⟩ := hs.live i _ hg
                simp only [VR] at hfr
                obtain ⟨inf', h1', hfe⟩ := hfr
                rw [h1] at h1'; cases h1'
                have hl := VRs_length _ _ hvr
                have hlen : (args.toList.map act.eval).length = params.length := by rw [← hl]; exact Nat.eq_of_beq_eq_true hb
                refine ⟨inf, _, args.toList.map act.eval, h1, h2, by simpa using hlen, hvr, ?_⟩
                unfold execOp
                rw [ho]
                have hge : (getObj inf.blk).run P w = .ok (.loop { state := st, pending := pend, fn := fn, tmps := tmps', params := ⟨params⟩, assign := asg, body := body, defers := d }) w := by simp [getObj, Sem.run, h2]
                have hsz : (args.map act.eval).size = params.length := by rw [← hlen]; simp
                have hargs : args.map act.eval = ⟨args.toList.map act.eval⟩ := by apply Array.ext'; simp
                have hgl : (Instr.getLoop inf.blk).run P w = .ok { state := st, pending := pend, fn := fn, tmps := tmps', params := ⟨params⟩, assign := asg, body := body, defers := d } w := by simp [Instr.getLoop, hge]
                have hne : ¬ ((#[] ++ args.map act.eval : Array Value).size ≠ (⟨params⟩ : Array Tmp).size) := by simpa using hsz
                simp only [resolve, hfe, Deferred.ofValue, Sem.run_bind, Sem.run_pure, Result.andThen_ok, invoke, Instr.yield, hgl]
                rw [if_neg hne]
                simp only [Sem.run_pure]
                rw [← hargs]
                simp only [Array.empty_append]
            | _ => trivial
        | _ => trivial
theorem evE_sound [Ext] {P : Program} (hng : NoNG P) {w0 : World} {φ : Phi} {a : VT} {act : Act} {H : VH} {w : World} (ht : TR φ a act.tmps) (hs : HSim w0 φ H w) (o : Oper) :
    OutR w0 φ H w ((execOp act.eval o).run P w) (evE P o.op a H) := by
  obtain ⟨dst, op, type, pos, after, guard⟩ := o
  simp only
  cases op with
  | alloc t => exact newOf_sound hs fun k vo h => evNew_sound ht _ h
  | box t x => exact newOf_sound hs fun k vo h => evNew_sound ht _ h
  | buildSlice t len parts => exact newOf_sound hs fun k vo h => evNew_sound ht _ h
  | makeMap t r => exact newOf_sound hs fun k vo h => evNew_sound ht _ h
  | makeSlice t l c => exact newOf_sound hs fun k vo h => evNew_sound ht _ h
  | store t x y =>
    simp only [evE]
    cases hx : evOperand a x with
    | none => trivial
    | some u => cases u with
      | ptr p => cases p with
        | none => cases hy : evOperand a y <;> cases hi : P.info? t <;> trivial
        | some ad => cases hy : evOperand a y with
          | none => trivial
          | some v => cases hi : P.info? t with
            | none => trivial
            | some i =>
              simp only
              cases hb : Nat.beq v.cells.length i.size with
              | false => trivial
              | true => cases hst : hstoreA H ad v.cells with
                | none => trivial
                | some H₁ =>
                  have hxr := evOperand_sound ht hx
                  have hyr := VR_cells (evOperand_notAny hy) (evOperand_sound ht hy)
                  simp only [VR] at hxr
                  obtain ⟨a', s, ha, hxe⟩ := hxr
                  obtain ⟨w₁, g1, g2, ⟨bi, binf, bo, hb1, hb2⟩, g4⟩ := hstoreA_sound (P := P) hs ha hst hyr
                  refine ⟨w₁, φ, ?_, St.upd hb1 hb2, g2, g4⟩
                  have hl := VRs_length _ _ hyr
                  simp only [Array.length_toList] at hl
                  have hsz : (act.eval y).cells.size = i.size := by rw [← hl]; exact Nat.eq_of_beq_eq_true hb
                  simp [execOp, Instr.storeAt, hxe, Instr.sureAddr, storeVar, run_sizeOf' hi, tsize_eq hi, hsz, g1]
      | _ => cases hy : evOperand a y <;> cases hi : P.info? t <;> trivial
  | entry x =>
    simp only [evE]
    cases hx : evOperand a x with
    | none => trivial
    | some u => exact evEntry_sound hs (evOperand_sound ht hx)
  | range t x =>
    simp only [evE]
    cases hx : evOperand a x with
    | none => trivial
    | some u => exact evRange_sound hs (evOperand_sound ht hx)
  | mapUpdate t m k v =>
    simp only [evE]
    cases hm : evOperand a m with
    | none => trivial
    | some x => cases hk : evOperand a k with
      | none => trivial
      | some y => cases hv : evOperand a v with
        | none => trivial
        | some z => exact evUpdate_sound hs (evOperand_sound ht hm) (evOperand_sound ht hk) (evOperand_sound ht hv)
  | insert t m k v =>
    simp only [evE]
    cases hm : evOperand a m with
    | none => trivial
    | some x => cases hk : evOperand a k with
      | none => trivial
      | some y => cases hv : evOperand a v with
        | none => trivial
        | some z => exact evUpdate_sound hs (evOperand_sound ht hm) (evOperand_sound ht hk) (evOperand_sound ht hv)
  | call c => exact evCallE_sound hng ht hs c _ rfl
  | _ => trivial
end
end Go.Ev
