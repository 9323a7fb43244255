/- Engine, part J: the dispatch of the operations that write, make memory or call. -/
import Derived.Test.YtficgiepkbljcaaGreatEvI
namespace Go.Ev
noncomputable section
def evCopy (P : Program) (H : VH) (t : TypeId) (d x : VV) : Out :=
  match P.underlying t with
  | some (.slice e) => match P.info? e, srcLen x with
    | some i, some n => match d with
      | .slice (some a) m _ => match srcCells H i.size (Nat.min n m) x with
        | some l => match hstore H a l with
          | some H₁ => .val (.int .i64 (Nat.min n m)) H₁
          | none => .bad
        | none => .bad
      | .slice none 0 _ => match srcCells H i.size 0 x with
        | some _ => .val (.int .i64 (Nat.min n 0)) H
        | none => .bad
      | .sliceE => match srcCells H i.size 0 x with
        | some [] => .val (.int .i64 (Nat.min n 0)) H
        | _ => .bad
      | _ => .bad
    | _, _ => .bad
  | _ => .bad
theorem evCopy_sound {P : Program} {w0 : World} {φ : Phi} {H : VH} {w : World} (h : HSim w0 φ H w) {t : TypeId} {ts : List TypeId} {ty : TypeId} {d x : VV} {d' x' : Value} (hd : VR φ d d') (hx : VR φ x x') :
    OutR w0 φ H w ((do pure (Next.value (← Builtin.copy_ ⟨t :: ts⟩ ty #[d', x'])) : Sem Next).run P w) (evCopy P H t d x) := by
  unfold evCopy
  cases hu : P.underlying t with
  | none => trivial
  | some dd => cases dd with
    | slice e =>
      simp only
      cases hi : P.info? e with
      | none => trivial
      | some i => cases hn : srcLen x with
        | none => trivial
        | some n =>
          simp only
          have hln := srcLen_sound (P := P) (w := w) hx hn
          have h0 : (⟨t :: ts⟩ : Array TypeId)[0]? = some t := by simp
          cases d with
          | slice p m c => cases p with
            | none => cases m with
              | zero =>
                simp only
                cases hs : srcCells H i.size 0 x with
                | none => trivial
                | some l =>
                  obtain ⟨l', f1, f2⟩ := srcCells_sound (P := P) h hx hs
                  simp only [VR] at hd
                  subst hd
                  refine ⟨.int .i64 (Nat.min n 0), w, φ, ?_, .refl φ w, by simp [VR], h, rfl⟩
                  simp [Builtin.copy_, run_underlying hu, hln, run_sizeOf' hi, tsize_eq hi, f1, goInt]
              | succ m => trivial
            | some a =>
              simp only
              cases hs : srcCells H i.size (Nat.min n m) x with
              | none => trivial
              | some l =>
                simp only
                cases hst : hstore H a l with
                | none => trivial
                | some H₁ =>
                  obtain ⟨l', f1, f2⟩ := srcCells_sound (P := P) h hx hs
                  simp only [VR] at hd
                  obtain ⟨a', s, ha, rfl⟩ := hd
                  obtain ⟨w₁, g1, g2, ⟨bi, binf, bo, hb1, hb2⟩, g4⟩ := hstore_sound (P := P) h ha hst f2
                  refine ⟨.int .i64 (Nat.min n m), w₁, φ, ?_, St.upd hb1 hb2, by simp [VR], g2, g4⟩
                  simp [Builtin.copy_, run_underlying hu, hln, run_sizeOf' hi, tsize_eq hi, f1, goInt, g1]
          | sliceE =>
            simp only
            cases hs : srcCells H i.size 0 x with
            | none => trivial
            | some l => cases l with
              | cons y l => trivial
              | nil =>
                obtain ⟨l', f1, f2⟩ := srcCells_sound (P := P) h hx hs
                simp only [VRs] at f2
                subst f2
                simp only [VR] at hd
                obtain ⟨a', c, rfl⟩ := hd
                refine ⟨.int .i64 (Nat.min n 0), w, φ, ?_, .refl φ w, by simp [VR], h, rfl⟩
                simp [Builtin.copy_, run_underlying hu, hln, run_sizeOf' hi, tsize_eq hi, f1, goInt, storeCells]
          | _ => trivial
    | _ => trivial
def evClear (P : Program) (H : VH) (t : TypeId) (x : VV) : Out :=
  match x with
  | .slice _ 0 _ | .sliceE | .map none => .val (.tuple []) H
  | .slice (some a) n _ => match P.underlying t with
    | some (.slice e) => match tzero P e with
      | some z => match hstore H a (rep n z.cells) with
        | some H₁ => .val (.tuple []) H₁
        | none => .bad
      | none => .bad
    | _ => .bad
  | _ => .bad
theorem VR_unit (φ : Phi) : VR φ (.tuple []) (.tuple #[]) := by simp only [VR]; exact ⟨[], by simp [VRs], rfl⟩
theorem evClear_sound {P : Program} {w0 : World} {φ : Phi} {H : VH} {w : World} (h : HSim w0 φ H w) {t : TypeId} {d : TypeDesc} (hud : P.underlying t = some d) {ts : List TypeId} {ty : TypeId} {x : VV} {x' : Value} (hx : VR φ x x') :
    OutR w0 φ H w ((do pure (Next.value (← Builtin.clear_ ⟨t :: ts⟩ ty #[x'])) : Sem Next).run P w) (evClear P H t x) := by
  unfold evClear
  have triv : (∃ a c, x' = .slice a 0 c) ∨ x' = .map none → OutR w0 φ H w ((do pure (Next.value (← Builtin.clear_ ⟨t :: ts⟩ ty #[x'])) : Sem Next).run P w) (.val (.tuple []) H) := by
    intro hh
    refine ⟨.tuple #[], w, φ, ?_, .refl φ w, VR_unit φ, h, rfl⟩
    rcases hh with ⟨a, c, rfl⟩ | rfl
    · cases a <;> simp [Builtin.clear_, run_underlying hud]
    · simp [Builtin.clear_, run_underlying hud]
  cases x with
  | slice p n c =>
    cases n with
    | zero =>
      refine triv (.inl ?_)
      cases p <;> simp only [VR] at hx <;> (first | exact ⟨_, _, hx⟩ | (obtain ⟨_, _, _, rfl⟩ := hx; exact ⟨_, _, rfl⟩))
    | succ n => cases p with
      | none => trivial
      | some a =>
        simp only
        cases hu : P.underlying t with
        | none => trivial
        | some dd => cases dd with
          | slice e =>
            simp only
            cases hz : tzero P e with
            | none => trivial
            | some z =>
              simp only
              cases hst : hstore H a (rep (n + 1) z.cells) with
              | none => trivial
              | some H₁ =>
                simp only [VR] at hx
                obtain ⟨a', s, ha, rfl⟩ := hx
                obtain ⟨z', z1, z2⟩ := run_zero' (P := P) (w := w) hz φ
                have zc := VR_cells (tzero_notAny hz) z2
                have hl := VRs_length _ _ zc
                simp only [Array.length_toList] at hl
                have hr := rep_sound zc (n + 1)
                obtain ⟨w₁, g1, g2, ⟨bi, binf, bo, hb1, hb2⟩, g4⟩ := hstore_sound (P := P) h ha hst hr
                refine ⟨.tuple #[], w₁, φ, ?_, St.upd hb1 hb2, VR_unit φ, g2, g4⟩
                rw [hl] at g1
                have hzc : Builtin.zeroCells z'.cells (n + 1) = (Array.range ((n + 1) * z'.cells.size)).map (fun i => z'.cells[i % z'.cells.size]!) := rfl
                rw [← hzc] at g1
                simp [Builtin.clear_, run_underlying hu, z1, g1]
          | _ => trivial
  | sliceE => refine triv (.inl ?_); simp only [VR] at hx; obtain ⟨_, _, rfl⟩ := hx; exact ⟨_, _, rfl⟩
  | map b => cases b with
    | none => simp only [VR] at hx; exact triv (.inr hx)
    | some b => trivial
  | _ => trivial
/-! ### calls -/
def evEnter (P : Program) (g : FuncId) (args : List VV) : Out :=
  match P.funcs[g]? with
  | some fn => match fn.body with
    | some _ => .enter g args
    | none => .bad
  | none => .bad
/-- No function of the program asks how many goroutines there are. -/
def NoNG (P : Program) : Prop := ∀ (g : FuncId) (fn : Func), P.funcs[g]? = some fn → (fn.name == "runtime.NumGoroutine") = false
theorem evEnter_sound {P : Program} (hng : NoNG P) {w0 : World} {φ : Phi} {H : VH} {w : World} {g : FuncId} {args : List VV} {args' : List Value} (ha : VRs φ args args') :
    OutR w0 φ H w ((callFunc g ⟨args'⟩).run P w) (evEnter P g args) := by
  unfold evEnter
  cases hf : P.funcs[g]? with
  | none => trivial
  | some fn =>
    simp only
    cases hb : fn.body with
    | none => trivial
    | some c =>
      simp only
      refine ⟨args', ?_, ha⟩
      have hn := hng g fn hf
      simp only [callFunc, Sem.run_bind, run_program, Result.andThen_ok, hf, hn, hb]
      simp
def evCallV (P : Program) (H : VH) (f : VV) (args : List VV) : Out :=
  match f with
  | .func (.func g) first cap => evEnter P g (first ++ (args ++ cap))
  | .yield i => match H.locs.get i with
    | some (.loop _ _ _ _ params _ _) => match Nat.beq args.length params.length with
      | true => .round i args
      | false => .bad
    | _ => .bad
  | _ => .bad
def evCallE (P : Program) (c : Call) (a : VT) (H : VH) : Out :=
  match c.callee with
  | .value f => match evOperand a f, evOperands a c.args.toList with
    | some f, some vs => evCallV P H f vs
    | _, _ => .bad
  | .builtin b => match b, c.args, c.argTypes with
    | .append, ⟨[s, x]⟩, ⟨t :: ts⟩ => match evOperand a s, evOperand a x with
      | some s, some x => match plainArg P ts.head? with
        | true => evAppend P H t ts.head? s x
        | false => evAppendZ P H t ts.head? s x
      | _, _ => .bad
    | .copy, ⟨[d, x]⟩, ⟨t :: _⟩ => match evOperand a d, evOperand a x with
      | some d, some x => evCopy P H t d x
      | _, _ => .bad
    | .clear, ⟨[x]⟩, ⟨t :: _⟩ => match evOperand a x, P.underlying t with
      | some x, some _ => evClear P H t x
      | _, _ => .bad
    | _, _, _ => .bad
  | _ => .bad
/-- An operation that writes, makes memory or calls. -/
def evE (P : Program) (o : Op) (a : VT) (H : VH) : Out :=
  match o with
  | .alloc _ | .box _ _ | .buildSlice _ _ _ | .makeMap _ _ | .makeSlice _ _ _ => newOf H (evNew P o a)
  | .store t x y => match evOperand a x, evOperand a y, P.info? t with
    | some (.ptr (some ad)), some v, some i => match Nat.beq v.cells.length i.size, hstore H ad v.cells with
      | true, some H₁ => .skip H₁
      | _, _ => .bad
    | _, _, _ => .bad
  | .mapUpdate t m k v | .insert t m k v => match evOperand a m, evOperand a k, evOperand a v with
    | some m, some k, some v => evUpdate P H t m k v
    | _, _, _ => .bad
  | .call c => evCallE P c a H
  | _ => .bad
theorem evCallE_sound {P : Program} (hng : NoNG P) {w0 : World} {φ : Phi} {a : VT} {act : Act} {H : VH} {w : World} (ht : TR φ a act.tmps) (hs : HSim w0 φ H w) (c : Call) (o : Oper) (ho : o.op = .call c) :
    OutR w0 φ H w ((execOp act.eval o).run P w) (evCallE P c a H) := by
  obtain ⟨cal, args, ts⟩ := c
  unfold evCallE
  cases cal with
  | invoke r n => trivial
  | builtin b =>
    simp only
    have run : ∀ (args' : Array Value), args.map act.eval = args' → (execOp act.eval o).run P w = (builtin b ts o.type (args.map fun | .const _ => true | _ => false) args').run P w := by
      intro args' h
      unfold execOp
      rw [ho]
      simp [resolve, h, invoke]
      rfl
    split
    · rename_i s x t ts'
      rw [run #[act.eval s, act.eval x] (by simp)]
      cases h1 : evOperand a s with
      | none => trivial
      | some u => cases h2 : evOperand a x with
        | none => trivial
        | some v =>
          simp only
          cases plainArg P ts'.head? with
          | true => exact evAppend_sound hs (evOperand_sound ht h1) (evOperand_sound ht h2)
          | false => exact evAppendZ_sound hs (evOperand_sound ht h1) (evOperand_sound ht h2)
    · rename_i d x t ts'
      rw [run #[act.eval d, act.eval x] (by simp)]
      cases h1 : evOperand a d with
      | none => trivial
      | some u => cases h2 : evOperand a x with
        | none => trivial
        | some v => exact evCopy_sound hs (evOperand_sound ht h1) (evOperand_sound ht h2)
    · rename_i x t ts'
      rw [run #[act.eval x] (by simp)]
      cases h1 : evOperand a x with
      | none => trivial
      | some u => cases h2 : P.underlying t with
        | none => trivial
        | some d => exact evClear_sound hs h2 (evOperand_sound ht h1)
    · trivial
  | value f =>
    simp only
    cases hf : evOperand a f with
    | none => trivial
    | some fv => cases hv : evOperands a args.toList with
      | none => trivial
      | some vs =>
        simp only
        have hfr := evOperand_sound ht hf
        have hvr := evOperands_sound ht _ _ hv
        unfold evCallV
        cases fv with
        | func fn first cap =>
          cases fn with
          | func g =>
            simp only [VR] at hfr
            obtain ⟨first', cap', _, h1, h2, h3⟩ := hfr
            have he := evEnter_sound hng (w0 := w0) (H := H) (w := w) (g := g) (VRs_append h1 (VRs_append hvr h2))
            have hrun : (execOp act.eval o).run P w = (callFunc g ⟨first' ++ (args.toList.map act.eval ++ cap')⟩).run P w := by
              unfold execOp
              rw [ho]
              simp only [resolve, h3, Deferred.ofValue, Sem.run_bind, Sem.run_pure, Result.andThen_ok, invoke]
              congr 2
              apply Array.ext'
              simp
            rw [hrun]
            exact he
          | _ => trivial
        | yield i =>
          simp only
          cases hg : H.locs.get i with
          | none => trivial
          | some vo => cases vo with
            | loop st pend tm nt params asg body =>
              simp only
              cases hb : Nat.beq vs.length params.length with
              | false => trivial
              | true =>
                obtain ⟨inf, o', h1, h2, ⟨tmps', fn, d, rfl, h3, h4⟩, _⟩ := hs.live i _ hg
                simp only [VR] at hfr
                obtain ⟨inf', h1', hfe⟩ := hfr
                rw [h1] at h1'; cases h1'
                have hl := VRs_length _ _ hvr
                have hlen : (args.toList.map act.eval).length = params.length := by rw [← hl]; exact Nat.eq_of_beq_eq_true hb
                refine ⟨inf, _, args.toList.map act.eval, h1, h2, by simpa using hlen, hvr, ?_⟩
                unfold execOp
                rw [ho]
                have hge : (getObj inf.blk).run P w = .ok (.loop { state := st, pending := pend, fn := fn, tmps := tmps', params := ⟨params⟩, assign := asg, body := body, defers := d }) w := by simp [getObj, Sem.run, h2]
                have hsz : (args.map act.eval).size = params.length := by rw [← hlen]; simp
                have hargs : args.map act.eval = ⟨args.toList.map act.eval⟩ := by apply Array.ext'; simp
                have hgl : (Instr.getLoop inf.blk).run P w = .ok { state := st, pending := pend, fn := fn, tmps := tmps', params := ⟨params⟩, assign := asg, body := body, defers := d } w := by simp [Instr.getLoop, hge]
                have hne : ¬ ((#[] ++ args.map act.eval : Array Value).size ≠ (⟨params⟩ : Array Tmp).size) := by simpa using hsz
                simp only [resolve, hfe, Deferred.ofValue, Sem.run_bind, Sem.run_pure, Result.andThen_ok, invoke, Instr.yield, hgl]
                rw [if_neg hne]
                simp only [Sem.run_bind, Sem.run_pure, Result.andThen_ok]
                rw [← hargs]
                simp only [Array.empty_append]
            | _ => trivial
        | _ => trivial
theorem evE_sound {P : Program} (hng : NoNG P) {w0 : World} {φ : Phi} {a : VT} {act : Act} {H : VH} {w : World} (ht : TR φ a act.tmps) (hs : HSim w0 φ H w) (o : Oper) :
    OutR w0 φ H w ((execOp act.eval o).run P w) (evE P o.op a H) := by
  obtain ⟨dst, op, type, pos, after, guard⟩ := o
  simp only
  cases op with
  | alloc t => exact newOf_sound hs fun k vo h => evNew_sound ht _ h
  | box t x => exact newOf_sound hs fun k vo h => evNew_sound ht _ h
  | buildSlice t len parts => exact newOf_sound hs fun k vo h => evNew_sound ht _ h
  | makeMap t r => exact newOf_sound hs fun k vo h => evNew_sound ht _ h
  | makeSlice t l c => exact newOf_sound hs fun k vo h => evNew_sound ht _ h
  | store t x y =>
    simp only [evE]
    cases hx : evOperand a x with
    | none => trivial
    | some u => cases u with
      | ptr p => cases p with
        | none => cases hy : evOperand a y <;> cases hi : P.info? t <;> trivial
        | some ad => cases hy : evOperand a y with
          | none => trivial
          | some v => cases hi : P.info? t with
            | none => trivial
            | some i =>
              simp only
              cases hb : Nat.beq v.cells.length i.size with
              | false => trivial
              | true => cases hst : hstore H ad v.cells with
                | none => trivial
                | some H₁ =>
                  have hxr := evOperand_sound ht hx
                  have hyr := VR_cells (evOperand_notAny hy) (evOperand_sound ht hy)
                  simp only [VR] at hxr
                  obtain ⟨a', s, ha, hxe⟩ := hxr
                  obtain ⟨w₁, g1, g2, ⟨bi, binf, bo, hb1, hb2⟩, g4⟩ := hstore_sound (P := P) hs ha hst hyr
                  refine ⟨w₁, φ, ?_, St.upd hb1 hb2, g2, g4⟩
                  have hl := VRs_length _ _ hyr
                  simp only [Array.length_toList] at hl
                  have hsz : (act.eval y).cells.size = i.size := by rw [← hl]; exact Nat.eq_of_beq_eq_true hb
                  simp [execOp, Instr.storeAt, hxe, Instr.sureAddr, storeVar, run_sizeOf' hi, tsize_eq hi, hsz, g1]
      | _ => cases hy : evOperand a y <;> cases hi : P.info? t <;> trivial
  | mapUpdate t m k v =>
    simp only [evE]
    cases hm : evOperand a m with
    | none => trivial
    | some x => cases hk : evOperand a k with
      | none => trivial
      | some y => cases hv : evOperand a v with
        | none => trivial
        | some z => exact evUpdate_sound hs (evOperand_sound ht hm) (evOperand_sound ht hk) (evOperand_sound ht hv)
  | insert t m k v =>
    simp only [evE]
    cases hm : evOperand a m with
    | none => trivial
    | some x => cases hk : evOperand a k with
      | none => trivial
      | some y => cases hv : evOperand a v with
        | none => trivial
        | some z => exact evUpdate_sound hs (evOperand_sound ht hm) (evOperand_sound ht hk) (evOperand_sound ht hv)
  | call c => exact evCallE_sound hng ht hs c _ rfl
  | _ => trivial
end
end Go.Ev
