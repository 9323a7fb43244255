/- Engine, part J: the dispatch of the operations that write, make memory or call. -/
import Derived.Test.YtgbhmkdldfhamaaEvI
namespace Go.Ev
noncomputable section
def evCopy (P : Program) (H : VH) (t : TypeId) (d x : VV) : Out :=
  match P.underlying t with
  | some (.slice e) => match P.info? e, srcLen x with
    | some i, some n => match d with
      | .slice (some a) m _ => match srcCells H i.size (Nat.min n m) x with
        | some l => match hstore H a l with
          | some H₁ => .val (.int .i64 (Nat.min n m)) H₁
          | none => .bad
        | none => .bad
      | .slice none 0 _ => match srcCells H i.size 0 x with
        | some _ => .val (.int .i64 (Nat.min n 0)) H
        | none => .bad
      | .sliceE => match srcCells H i.size 0 x with
        | some [] => .val (.int .i64 (Nat.min n 0)) H
        | _ => .bad
      | _ => .bad
    | _, _ => .bad
  | _ => .bad
theorem evCopy_sound {P : Program} {w0 : World} {φ : Phi} {H : VH} {w : World} (h : HSim w0 φ H w) {t : TypeId} {ts : List TypeId} {ty : TypeId} {d x : VV} {d' x' : Value} (hd : VR φ d d') (hx : VR φ x x') :
    OutR w0 φ H w ((do pure (Next.value (← Builtin.copy_ ⟨t :: ts⟩ ty #[d', x'])) : Sem Next).run P w) (evCopy P H t d x) := by
  unfold evCopy
  cases hu : P.underlying t with
  | none => trivial
  | some dd => cases dd with
    | slice e =>
      simp only
      cases hi : P.info? e with
      | none => trivial
      | some i => cases hn : srcLen x with
        | none => trivial
        | some n =>
          simp only
          have hln := srcLen_sound (P := P) (w := w) hx hn
          have h0 : (⟨t :: ts⟩ : Array TypeId)[0]? = some t := by simp
          cases d with
          | slice p m c => cases p with
            | none => cases m with
              | zero =>
                simp only
                cases hs : srcCells H i.size 0 x with
                | none => trivial
                | some l =>
                  obtain ⟨l', f1, f2⟩ := srcCells_sound (P := P) h hx hs
                  simp only [VR] at hd
                  subst hd
                  refine ⟨.int .i64 (Nat.min n 0), w, φ, ?_, .refl φ w, by simp [VR], h, rfl⟩
                  simp [Builtin.copy_, run_underlying hu, hln, run_sizeOf' hi, tsize_eq hi, f1, goInt]
              | succ m => trivial
            | some a =>
              simp only
              cases hs : srcCells H i.size (Nat.min n m) x with
              | none => trivial
              | some l =>
                simp only
                cases hst : hstore H a l with
                | none => trivial
                | some H₁ =>
                  obtain ⟨l', f1, f2⟩ := srcCells_sound (P := P) h hx hs
                  simp only [VR] at hd
                  obtain ⟨a', s, ha, rfl⟩ := hd
                  obtain ⟨w₁, g1, g2, ⟨bi, binf, bo, hb1, hb2⟩, g4⟩ := hstore_sound (P := P) h ha hst f2
                  refine ⟨.int .i64 (Nat.min n m), w₁, φ, ?_, St.upd hb1 hb2, by simp [VR], g2, g4⟩
                  simp [Builtin.copy_, run_underlying hu, hln, run_sizeOf' hi, tsize_eq hi, f1, goInt, g1]
          | sliceE =>
            simp only
            cases hs : srcCells H i.size 0 x with
            | none => trivial
            | some l => cases l with
              | cons y l => trivial
              | nil =>
                obtain ⟨l', f1, f2⟩ := srcCells_sound (P := P) h hx hs
                simp only [VRs] at f2
                subst f2
                simp only [VR] at hd
                obtain ⟨a', c, rfl⟩ := hd
                refine ⟨.int .i64 (Nat.min n 0), w, φ, ?_, .refl φ w, by simp [VR], h, rfl⟩
                simp [Builtin.copy_, run_underlying hu, hln, run_sizeOf' hi, tsize_eq hi, f1, goInt, storeCells]
          | _ => trivial
    | _ => trivial
def evClear (P : Program) (H : VH) (t : TypeId) (x : VV) : Out :=
  match x with
  | .slice _ 0 _ | .sliceE | .map none => .val (.tuple []) H
  | .slice (some a) n _ => match P.underlying t with
    | some (.slice e) => match tzero P e with
      | some z => match hstore H a (rep n z.cells) with
        | some H₁ => .val (.tuple []) H₁
        | none => .bad
      | none => .bad
    | _ => .bad
  | _ => .bad
theorem VR_unit (φ : Phi) : VR φ (.tuple []) (.tuple #[]) := by simp only [VR]; exact ⟨[], by simp [VRs], rfl⟩
theorem evClear_sound {P : Program} {w0 : World} {φ : Phi} {H : VH} {w : World} (h : HSim w0 φ H w) {t : TypeId} {d : TypeDesc} (hud : P.underlying t = some d) {ts : List TypeId} {ty : TypeId} {x : VV} {x' : Value} (hx : VR φ x x') :
    OutR w0 φ H w ((do pure (Next.value (← Builtin.clear_ ⟨t :: ts⟩ ty #[x'])) : Sem Next).run P w) (evClear P H t x) := by
  unfold evClear
  have triv : (∃ a c, x' = .slice a 0 c) ∨ x' = .map none → OutR w0 φ H w ((do pure (Next.value (← Builtin.clear_ ⟨t :: ts⟩ ty #[x'])) : Sem Next).run P w) (.val (.tuple []) H) := by
    intro hh
    refine ⟨.tuple #[], w, φ, ?_, .refl φ w, VR_unit φ, h, rfl⟩
    rcases hh with ⟨a, c, rfl⟩ | rfl
    · cases a <;> simp [Builtin.clear_, run_underlying hud]
    · simp [Builtin.clear_, run_underlying hud]
  cases x with
  | slice p n c =>
    cases n with
    | zero =>
      refine triv (.inl ?_)
      cases p <;> simp only [VR] at hx <;> (first | exact ⟨_, _, hx⟩ | (obtain ⟨_, _, _, rfl⟩ := hx; exact ⟨_, _, rfl⟩))
    | succ n => cases p with
      | none => trivial
      | some a =>
        simp only
        cases hu : P.underlying t with
        | none => trivial
        | some dd => cases dd with
          | slice e =>
            simp only
            cases hz : tzero P e with
            | none => trivial
            | some z =>
              simp only
              cases hst : hstore H a (rep (n + 1) z.cells) with
              | none => trivial
              | some H₁ =>
                simp only [VR] at hx
                obtain ⟨a', s, ha, rfl⟩ := hx
                obtain ⟨z', z1, z2⟩ := run_zero' (P := P) (w := w) hz φ
                have zc := VR_cells z2
                have hl := VRs_length _ _ zc
                simp only [Array.length_toList] at hl
                have hr := rep_sound zc (n + 1)
                obtain ⟨w₁, g1, g2, ⟨bi, binf, bo, hb1, hb2⟩, g4⟩ := hstore_sound (P := P) h ha hst hr
                refine ⟨.tuple #[], w₁, φ, ?_, St.upd hb1 hb2, VR_unit φ, g2, g4⟩
                rw [hl] at g1
                have hzc : Builtin.zeroCells z'.cells (n + 1) = (Array.range ((n + 1) * z'.cells.size)).map (fun i => z'.cells[i % z'.cells.size]!) := rfl
                rw [← hzc] at g1
                simp [Builtin.clear_, run_underlying hu, z1, g1]
          | _ => trivial
  | sliceE => refine triv (.inl ?_); simp only [VR] at hx; obtain ⟨_, _, rfl⟩ := hx; exact ⟨_, _, rfl⟩
  | map b => cases b with
    | none => simp only [VR] at hx; exact triv (.inr hx)
    | some b => trivial
  | _ => trivial
/-! ### calls -/
def evEnter (P : Program) (g : FuncId) (args : List VV) : Out :=
  match P.funcs[g]? with
  | some fn => match fn.body with
    | some _ => .enter g args
    | none => .bad
  | none => .bad
/-- No function of the program asks how many goroutines there are. -/
def NoNG (P : Program) : Prop := ∀ (g : FuncId) (fn : Func), P.funcs[g]? = some fn → (fn.name == "runtime.NumGoroutine") = false
theorem evEnter_sound {P : Program} (hng : NoNG P) {w0 : World} {φ : Phi} {H : VH} {w : World} {g : FuncId} {args : List VV} {args' : List Value} (ha : VRs φ args args') :
    OutR w0 φ H w ((callFunc g ⟨args'⟩).run P w) (evEnter P g args) := by
  unfold evEnter
  cases hf : P.funcs[g]? with
  | none => trivial
  | some fn =>
    simp only
    cases hb : fn.body with
    | none => trivial
    | some c =>
      simp only
      refine ⟨args', ?_, ha⟩
      have hn := hng g fn hf
      simp only [callFunc, Sem.run_bind, run_program, Result.andThen_ok, hf, hn, hb]
      simp
def evCallV (P : Program) (f : VV) (args : List VV) : Out :=
  match f with
  | .func (.func g) first cap => evEnter P g (first ++ (args ++ cap))
  | _ => .bad
def evCallE (P : Program) (c : Call) (a : VT) (H : VH) : Out :=
  match c.callee with
  | .value f => match evOperand a f, evOperands a c.args.toList with
    | some f, some vs => evCallV P f vs
    | _, _ => .bad
  | .builtin b => match b, c.args, c.argTypes with
    | .append, ⟨[s, x]⟩, ⟨t :: ts⟩ => match evOperand a s, evOperand a x with
      | some s, some x => evAppend P H t ts.head? s x
      | _, _ => .bad
    | .copy, ⟨[d, x]⟩, ⟨t :: _⟩ => match evOperand a d, evOperand a x with
      | some d, some x => evCopy P H t d x
      | _, _ => .bad
    | .clear, ⟨[x]⟩, ⟨t :: _⟩ => match evOperand a x, P.underlying t with
      | some x, some _ => evClear P H t x
      | _, _ => .bad
    | _, _, _ => .bad
  | _ => .bad
/-- An operation that writes, makes memory or calls. -/
def evE (P : Program) (o : Op) (a : VT) (H : VH) : Out :=
  match o with
  | .alloc t => match tzero P t with
    | some z => newPtr H z.cells
    | none => .bad
  | .box _ x => match evOperand a x with
    | some v => newPtr H v.cells
    | none => .bad
  | .buildSlice t len ⟨parts⟩ => match evParts a parts with
    | some ps => evBuildSlice P H t len ps
    | none => .bad
  | .store t x y => match evOperand a x, evOperand a y, P.info? t with
    | some (.ptr (some ad)), some v, some i => match Nat.beq v.cells.length i.size, hstore H ad v.cells with
      | true, some H₁ => .skip H₁
      | _, _ => .bad
    | _, _, _ => .bad
  | .makeMap t r => match Nat.blt H.next top, r with
    | true, none => .val (.map (some (.loc H.next))) (H.alloc (.map [] 0))
    | true, some r => match P.underlying t, evOperand a r with
      | some (.map _ _), some (.int _ _) => .val (.map (some (.loc H.next))) (H.alloc (.map [] 0))
      | _, _ => .bad
    | _, _ => .bad
  | .makeSlice t l c => match evOperand a l, evOperand a c with
    | some l, some c => evMakeSlice P H t l c
    | _, _ => .bad
  | .mapUpdate t m k v | .insert t m k v => match evOperand a m, evOperand a k, evOperand a v with
    | some m, some k, some v => evUpdate P H t m k v
    | _, _, _ => .bad
  | .call c => evCallE P c a H
  | _ => .bad
theorem makeMap_sound {w0 : World} {φ : Phi} {H : VH} {w : World} (h : HSim w0 φ H w) (hn : H.next < top) {r : Result Next} (hr : r = .ok (.value (.map (some w.heap.size))) (w.alloc (.map #[] 0))) :
    OutR w0 φ H w r (.val (.map (some (.loc H.next))) (H.alloc (.map [] 0))) := by
  refine ⟨_, _, _, hr, St.alloc h _ 0, ?_, h.alloc hn 0 _ _ ⟨[], rfl, rfl⟩, rfl⟩
  simp only [VR, BR]
  exact ⟨_, ⟨_, Phi.ext_self _ _ _, rfl⟩, rfl⟩
theorem evCallE_sound {P : Program} (hng : NoNG P) {w0 : World} {φ : Phi} {a : VT} {act : Act} {H : VH} {w : World} (ht : TR φ a act.tmps) (hs : HSim w0 φ H w) (c : Call) (o : Oper) (ho : o.op = .call c) :
    OutR w0 φ H w ((execOp act.eval o).run P w) (evCallE P c a H) := by
  obtain ⟨cal, args, ts⟩ := c
  unfold evCallE
  cases cal with
  | invoke r n => trivial
  | builtin b =>
    simp only
    have run : ∀ (args' : Array Value), args.map act.eval = args' → (execOp act.eval o).run P w = (builtin b ts o.type (args.map fun | .const _ => true | _ => false) args').run P w := by
      intro args' h
      unfold execOp
      rw [ho]
      simp [resolve, h, invoke]
      rfl
    split
    · rename_i s x t ts'
      rw [run #[act.eval s, act.eval x] (by simp)]
      cases h1 : evOperand a s with
      | none => trivial
      | some u => cases h2 : evOperand a x with
        | none => trivial
        | some v => exact evAppend_sound hs (evOperand_sound ht h1) (evOperand_sound ht h2)
    · rename_i d x t ts'
      rw [run #[act.eval d, act.eval x] (by simp)]
      cases h1 : evOperand a d with
      | none => trivial
      | some u => cases h2 : evOperand a x with
        | none => trivial
        | some v => exact evCopy_sound hs (evOperand_sound ht h1) (evOperand_sound ht h2)
    · rename_i x t ts'
      rw [run #[act.eval x] (by simp)]
      cases h1 : evOperand a x with
      | none => trivial
      | some u => cases h2 : P.underlying t with
        | none => trivial
        | some d => exact evClear_sound hs h2 (evOperand_sound ht h1)
    · trivial
  | value f =>
    simp only
    cases hf : evOperand a f with
    | none => trivial
    | some fv => cases hv : evOperands a args.toList with
      | none => trivial
      | some vs =>
        simp only
        have hfr := evOperand_sound ht hf
        have hvr := evOperands_sound ht _ _ hv
        unfold evCallV
        cases fv with
        | func fn first cap =>
          cases fn with
          | func g =>
            simp only [VR] at hfr
            obtain ⟨first', cap', _, h1, h2, h3⟩ := hfr
            have he := evEnter_sound hng (w0 := w0) (H := H) (w := w) (g := g) (VRs_append h1 (VRs_append hvr h2))
            have hrun : (execOp act.eval o).run P w = (callFunc g ⟨first' ++ (args.toList.map act.eval ++ cap')⟩).run P w := by
              unfold execOp
              rw [ho]
              simp only [resolve, h3, Deferred.ofValue, Sem.run_bind, Sem.run_pure, Result.andThen_ok, invoke]
              congr 2
              apply Array.ext'
              simp
            rw [hrun]
            exact he
          | _ => trivial
        | _ => trivial
theorem evE_sound {P : Program} (hng : NoNG P) {w0 : World} {φ : Phi} {a : VT} {act : Act} {H : VH} {w : World} (ht : TR φ a act.tmps) (hs : HSim w0 φ H w) (o : Oper) :
    OutR w0 φ H w ((execOp act.eval o).run P w) (evE P o.op a H) := by
  obtain ⟨dst, op, type, pos, after, guard⟩ := o
  simp only
  cases op with
  | alloc t =>
    simp only [evE]
    cases hz : tzero P t with
    | none => trivial
    | some z =>
      obtain ⟨z', z1, z2⟩ := run_zero' (P := P) (w := w) hz φ
      refine newPtr_sound hs (VR_cells z2) (e := t) ?_
      simp [execOp, Instr.alloc, z1, newVar, newRow]
  | box t x =>
    simp only [evE]
    cases hx : evOperand a x with
    | none => trivial
    | some v =>
      refine newPtr_sound hs (VR_cells (evOperand_sound ht hx)) (e := t) ?_
      simp [execOp, Instr.box, newVar, newRow]
  | buildSlice t len parts =>
    obtain ⟨parts⟩ := parts
    simp only [evE]
    cases hp : evParts a parts with
    | none => trivial
    | some ps =>
      obtain ⟨h1, h2⟩ := evParts_sound ht parts ps hp
      have := evBuildSlice_sound (P := P) (t := t) (len := len) hs h1 h2
      simpa [execOp] using this
  | store t x y =>
    simp only [evE]
    cases hx : evOperand a x with
    | none => trivial
    | some u => cases u with
      | ptr p => cases p with
        | none => cases hy : evOperand a y <;> cases hi : P.info? t <;> trivial
        | some ad => cases hy : evOperand a y with
          | none => trivial
          | some v => cases hi : P.info? t with
            | none => trivial
            | some i =>
              simp only
              cases hb : Nat.beq v.cells.length i.size with
              | false => trivial
              | true => cases hst : hstore H ad v.cells with
                | none => trivial
                | some H₁ =>
                  have hxr := evOperand_sound ht hx
                  have hyr := VR_cells (evOperand_sound ht hy)
                  simp only [VR] at hxr
                  obtain ⟨a', s, ha, hxe⟩ := hxr
                  obtain ⟨w₁, g1, g2, ⟨bi, binf, bo, hb1, hb2⟩, g4⟩ := hstore_sound (P := P) hs ha hst hyr
                  refine ⟨w₁, φ, ?_, St.upd hb1 hb2, g2, g4⟩
                  have hl := VRs_length _ _ hyr
                  simp only [Array.length_toList] at hl
                  have hsz : (act.eval y).cells.size = i.size := by rw [← hl]; exact Nat.eq_of_beq_eq_true hb
                  simp [execOp, Instr.storeAt, hxe, Instr.sureAddr, storeVar, run_sizeOf' hi, tsize_eq hi, hsz, g1]
      | _ => cases hy : evOperand a y <;> cases hi : P.info? t <;> trivial
  | makeMap t r =>
    simp only [evE]
    cases hn : Nat.blt H.next top with
    | false => trivial
    | true => cases r with
      | none =>
        refine makeMap_sound hs (lt_of_blt hn) ?_
        simp [execOp, Instr.makeMap]
      | some r =>
        simp only
        cases hu : P.underlying t with
        | none => trivial
        | some d => cases d with
          | map k e => cases hr : evOperand a r with
            | none => trivial
            | some v => cases v with
              | int kk n =>
                have hv := evOperand_sound ht hr
                simp only [VR] at hv
                refine makeMap_sound hs (lt_of_blt hn) ?_
                simp [execOp, Instr.makeMap, run_underlying hu, hv, asInt, asIntOf]
              | _ => trivial
          | _ => cases evOperand a r <;> trivial
  | makeSlice t l c =>
    simp only [evE]
    cases hl : evOperand a l with
    | none => trivial
    | some u => cases hc : evOperand a c with
      | none => trivial
      | some v => exact evMakeSlice_sound hs (evOperand_sound ht hl) (evOperand_sound ht hc)
  | mapUpdate t m k v =>
    simp only [evE]
    cases hm : evOperand a m with
    | none => trivial
    | some x => cases hk : evOperand a k with
      | none => trivial
      | some y => cases hv : evOperand a v with
        | none => trivial
        | some z => exact evUpdate_sound hs (evOperand_sound ht hm) (evOperand_sound ht hk) (evOperand_sound ht hv)
  | insert t m k v =>
    simp only [evE]
    cases hm : evOperand a m with
    | none => trivial
    | some x => cases hk : evOperand a k with
      | none => trivial
      | some y => cases hv : evOperand a v with
        | none => trivial
        | some z => exact evUpdate_sound hs (evOperand_sound ht hm) (evOperand_sound ht hk) (evOperand_sound ht hv)
  | call c => exact evCallE_sound hng ht hs c _ rfl
  | _ => trivial
end
end Go.Ev
