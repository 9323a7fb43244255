/- Engine, part B: the virtual heap, its relation to the real heap, and the heap's operations. -/
import Derived.Test.YticgadnmlbfmfaaEvA
namespace Go.Ev
noncomputable section
/-- What is said besides of what the symbols stand for. -/
class Ext where
  ok : Rho → World → Prop
abbrev VT := TT VV
def tget (a : VT) (t : Nat) : VV := match a.get t with | some v => v | none => vundef
inductive VO where
  | cells (c : List VV) (g : Option Nat) (ro : Nat) (et : Option TypeId)
  | list (j n sz : Nat) (tail : List VV) (et : Option TypeId)
  | txt (ps : List VV) (et : Option TypeId)
  | map (es : List (VV × VV × Nat)) (clock : Nat)
  | mapU (es : List (VV × VV))
  | loop (st : LoopState) (pend : Option Code) (tmps : VT) (nt : Nat) (params : List Tmp) (assign body : Code)
  | siter (s : ByteArray) (pos : Nat)
  | miter (i since : Nat) (seen : List Nat) (last : Nat)
/-- What is known of an old block. -/
inductive BO where
  | cells (c : List Value)
  | map (es : List MapEntry) (clock : Nat)
def BOR : BO → Obj → Prop
  | .cells c, o => ∃ c' e fr, o = .cells c' e fr ∧ c'.toList = c
  | .map es k, o => o = .map ⟨es⟩ k
/-- Functions that facts name. -/
inductive FO where
  | min
  | max
  | un (op : UnOp)
  | conv (k : IntKind)
  | cutS
  | sidx
  | isB
/-- How lists hang together. -/
inductive LO where
  | upd (o : Nat)
/-- What is known of symbols: intervals of integers; operators, lengths and indexes at symbols; cells of blocks; lists. -/
inductive Fact where
  | bin (op : BinOp) (x y r : VV)
  | len (str : Bool) (x r : VV)
  | at (size : Nat) (x i : VV) (r : VA)
  | cut (size : Nat) (x : VV) (lo hi : Option VV) (r : VV)
  | fn (o : FO) (xs : List VV) (r : VV)
  | mem (x : VV) (j n sz : Nat)
  | lst (o : LO) (js : List Nat) (xs : List VV) (r : Nat)
structure Env where
  blk : Nat → Option BO
  ivl : Nat → Int × Int
  tab : List Fact
  sblk : Nat → Option (List VV)
def Env.none : Env := ⟨fun _ => .none, fun _ => (0, 0), [], fun _ => .none⟩
structure VH where
  base : Env
  locs : TT VO
  next : Nat
/-- A value that hangs on symbols alone. -/
def sval (ρ : Rho) : VV → Option Value
  | .bool b => some (.bool b)
  | .int k n => some (.int k n)
  | .string s => some (.string s)
  | .sint k i => some (.int k (ρ.int i))
  | .sym i => some (ρ.val i)
  | .ptr none => some (.pointer none)
  | .ptr (some ⟨.sym i, o⟩) => some (.pointer (some ⟨ρ.blk i, ρ.off i + o, none⟩))
  | .slice none l c => some (.slice none l c)
  | .cat ps => match textS ρ ps with
    | some s => some (.string s)
    | none => none
  | .tlen ps => match textS ρ ps with
    | some s => some (.int .i64 s.size)
    | none => none
  | _ => none
theorem sval_VR {φ : Phi} {x : VV} {v v' : Value} (h : sval φ.ρ x = some v) (k : VR φ x v') : v' = v := by
  cases x with
  | ptr a =>
    cases a with
    | none => simp [sval] at h; subst h; simpa only [VR] using k
    | some a =>
      obtain ⟨b, o⟩ := a
      cases b with
      | sym i =>
        simp [sval] at h; subst h
        simp only [VR, AR] at k
        obtain ⟨a', s, ⟨rfl, _⟩, rfl⟩ := k
        rfl
      | _ => simp [sval] at h
  | slice a l c => cases a with
    | none => simp [sval] at h; subst h; simpa only [VR] using k
    | some a => simp [sval] at h
  | cat ps =>
    simp only [sval] at h
    split at h
    · rename_i s hs
      simp only [Option.some.injEq] at h
      subst h
      simp only [VR] at k
      obtain ⟨t, h1, h2⟩ := k
      rw [hs] at h1
      cases h1
      exact h2
    · cases h
  | tlen ps =>
    simp only [sval] at h
    split at h
    · rename_i s hs
      simp only [Option.some.injEq] at h
      subst h
      simp only [VR] at k
      obtain ⟨t, h1, h2⟩ := k
      rw [hs] at h1
      cases h1
      exact h2
    · cases h
  | _ => first
    | (simp [sval] at h; done)
    | (simp only [sval, Option.some.injEq] at h; subst h; simpa only [VR] using k)
theorem VR_sval {φ : Phi} {x : VV} {v : Value} (h : sval φ.ρ x = some v) : VR φ x v := by
  cases x with
  | ptr a =>
    cases a with
    | none => simp [sval] at h; subst h; simp only [VR]
    | some a =>
      obtain ⟨b, o⟩ := a
      cases b with
      | sym i =>
        simp [sval] at h; subst h
        simp only [VR, AR]
        exact ⟨_, 0, ⟨rfl, rfl⟩, rfl⟩
      | _ => simp [sval] at h
  | slice a l c => cases a with
    | none => simp [sval] at h; subst h; simp only [VR]
    | some a => simp [sval] at h
  | cat ps =>
    simp only [sval] at h
    split at h
    · rename_i s hs
      simp only [Option.some.injEq] at h
      subst h
      simp only [VR]
      exact ⟨s, hs, rfl⟩
    · cases h
  | tlen ps =>
    simp only [sval] at h
    split at h
    · rename_i s hs
      simp only [Option.some.injEq] at h
      subst h
      simp only [VR]
      exact ⟨s, hs, rfl⟩
    · cases h
  | _ => first
    | (simp [sval] at h; done)
    | (simp only [sval, Option.some.injEq] at h; subst h; simp only [VR])
def lenV (str : Bool) (v : Value) (n : Nat) : Prop := match str with
  | true => ∃ s, v = .string s ∧ n = s.size
  | false => ∃ a c, v = .slice a n c
/-- A bound of a slice: none stands for a number. -/
def sbound (ρ : Rho) (d : Nat) : Option VV → Option Int
  | none => some d
  | some x => match sval ρ x with
    | some (.int _ n) => some n
    | _ => none
def FOsem : FO → List Value → Value → Prop
  | .min, [.int k a, .int _ b], v => v = .int k (if b < a then b else a)
  | .max, [.int k a, .int _ b], v => v = .int k (if b > a then b else a)
  | .un op, [.int k a], v => ∀ (P : Program) (w : World), (Op.unary op (.int k a)).run P w = .ok v w
  | .conv k, [.int _ a], v => v = .int k (k.wrap a)
  | .cutS, [.string s, .int _ l, .int _ h], v => 0 ≤ l ∧ l ≤ h ∧ h ≤ s.size ∧ v = .string (s.extract l.toNat h.toNat)
  | .isB, [.bool b], v => v = .bool b
  | .sidx, [.string s, .int _ i], v => 0 ≤ i ∧ ∃ b, s.data.toList[i.toNat]? = some b ∧ v = .int .u8 b.toNat
  | _, _, _ => False
def svals (ρ : Rho) : List VV → Option (List Value)
  | [] => some []
  | x :: l => match sval ρ x, svals ρ l with
    | some v, some vs => some (v :: vs)
    | _, _ => none
/-- A value that is the same whatever the blocks are called. -/
def GV (ρ : Rho) (y : VV) (v : Value) : Prop := closedV y = true ∧ ∀ f, VR ⟨f, ρ⟩ y v
def LOsem (ρ : Rho) : LO → List Nat → List VV → Nat → Prop
  | .upd o, [j], [x], r => ∃ y v, sval ρ x = some v ∧ GV ρ y v ∧ ρ.lst r = (ρ.lst j).set o y
  | _, _, _, _ => False
def FactOK (ρ : Rho) : Fact → Prop
  | .mem _ _ _ _ => False
  | .lst o js xs r => LOsem ρ o js xs r
  | .fn o xs r => ∃ vs v, svals ρ xs = some vs ∧ sval ρ r = some v ∧ FOsem o vs v
  | .bin op x y r => ∃ a b v, sval ρ x = some a ∧ sval ρ y = some b ∧ sval ρ r = some v ∧ (∀ cs, a ≠ .agg cs) ∧ a ≠ .nilIface ∧ ∀ (P : Program) (t : TypeId) (w : World), (binOp op t a b).run P w = .ok v w
  | .len str x r => ∃ v n, sval ρ x = some v ∧ lenV str v n ∧ sval ρ r = some (.int .i64 n)
  | .at size x i r => ∃ a l c k n j, sval ρ x = some (.slice (some a) l c) ∧ a.spot = none ∧ sval ρ i = some (.int k n) ∧ 0 ≤ n ∧ n < l ∧ r.b = .sym j ∧ ρ.blk j = a.block ∧ ρ.off j + r.o = a.off + n.toNat * size
  | .cut size x lo hi r => ∃ a l c m n, sval ρ x = some (.slice a l c) ∧ sbound ρ 0 lo = some m ∧ sbound ρ l hi = some n ∧ 0 ≤ m ∧ m ≤ n ∧ n ≤ c ∧ sval ρ r = some (.slice (if c = m.toNat then a else a.map (·.add (m.toNat * size))) (n.toNat - m.toNat) (c - m.toNat))
/-- A slice of old memory that is a list. -/
def MemL (ρ : Rho) (w0 : World) (x : VV) (j n sz : Nat) : Prop := ∃ a l c, sval ρ x = some (.slice a l c) ∧ ρ.int n = l ∧ (ρ.lst j).length = l * sz ∧
  (0 < l → ∃ ad, a = some ad ∧ ad.spot = none ∧ ad.block < w0.heap.size ∧ ∀ k y, (ρ.lst j)[k]? = some y → ∃ v, w0.cell? (ad.add k) = some v ∧ GV ρ y v)
def FactW (ρ : Rho) (w0 : World) : Fact → Prop
  | .mem x j n sz => MemL ρ w0 x j n sz
  | f => FactOK ρ f
theorem FactOK.w {ρ : Rho} {w0 : World} {f : Fact} (h : FactOK ρ f) : FactW ρ w0 f := by
  cases f with
  | mem => cases h
  | _ => exact h
structure EnvOK [Ext] (E : Env) (φ : Phi) (w0 : World) : Prop where
  ext : Ext.ok φ.ρ w0
  ivl : ∀ i, (E.ivl i).1 ≤ φ.ρ.int i ∧ φ.ρ.int i ≤ (E.ivl i).2
  tab : ∀ f ∈ E.tab, FactW φ.ρ w0 f
  sblk : ∀ i c, E.sblk i = some c → φ.ρ.blk i < w0.heap.size ∧ ∀ j x, c[j]? = some x → ∃ v, w0.cell? ⟨φ.ρ.blk i, φ.ρ.off i + j, none⟩ = some v ∧ VR φ x v
theorem EnvOK.mono [Ext] {E : Env} {φ ψ : Phi} {w0 : World} (h : φ.le ψ) (k : EnvOK E φ w0) : EnvOK E ψ w0 := by
  obtain ⟨h0, h1, h2, h3⟩ := k
  refine ⟨by rw [h.2]; exact h0, by rw [h.2]; exact h1, by rw [h.2]; exact h2, fun i c hc => ?_⟩
  rw [h.2]
  obtain ⟨g1, g2⟩ := h3 i c hc
  exact ⟨g1, fun j x hx => let ⟨v, e1, e2⟩ := g2 j x hx; ⟨v, e1, e2.mono h⟩⟩
def TR (φ : Phi) (a : VT) (tmps : Array Value) : Prop := ∀ t, VR φ (tget a t) (tmps.getD t undef)
theorem TR.mono {φ ψ : Phi} (h : φ.le ψ) {a : VT} {tmps : Array Value} (k : TR φ a tmps) : TR ψ a tmps := fun t => (k t).mono h
def ERs (φ : Phi) : List (VV × VV × Nat) → List MapEntry → Prop
  | [], l => l = []
  | x :: xs, l => ∃ y ys, l = y :: ys ∧ VR φ x.1 y.key ∧ VR φ x.2.1 y.val ∧ x.2.2 = y.born ∧ ERs φ xs ys
theorem ERs.mono {φ ψ : Phi} (h : φ.le ψ) : ∀ (xs : List (VV × VV × Nat)) (es : List MapEntry), ERs φ xs es → ERs ψ xs es
  | [], _, k => k
  | x :: xs, es, k => by
    obtain ⟨y, ys, h1, h2, h3, h4, h5⟩ := k
    exact ⟨y, ys, h1, h2.mono h, h3.mono h, h4, ERs.mono h xs ys h5⟩
/-- Entries, whenever they were born. -/
def EUs (φ : Phi) : List (VV × VV) → List MapEntry → Prop
  | [], l => l = []
  | x :: xs, l => ∃ y ys, l = y :: ys ∧ VR φ x.1 y.key ∧ VR φ x.2 y.val ∧ EUs φ xs ys
theorem EUs.mono {φ ψ : Phi} (h : φ.le ψ) : ∀ (xs : List (VV × VV)) (es : List MapEntry), EUs φ xs es → EUs ψ xs es
  | [], _, k => k
  | x :: xs, es, k => by
    obtain ⟨y, ys, h1, h2, h3, h5⟩ := k
    exact ⟨y, ys, h1, h2.mono h, h3.mono h, EUs.mono h xs ys h5⟩
/-- So many cells a block has behind what is known of it. -/
def spare (g : Option Nat) (s : Nat) : Nat := match g with | some z => s * z | none => 0
structure CR (φ : Phi) (inf : Inf) (c : List VV) (g : Option Nat) (ro : Nat) (et : Option TypeId) (c' : Array Value) (e : TypeId) (fr : Nat × Nat) : Prop where
  size : inf.off + c.length + spare g inf.slack ≤ c'.size
  fixed : g = none → inf.slack = 0
  cell : ∀ j x, c[j]? = some x → ∃ y, c'[inf.off + j]? = some y ∧ VR φ x y
  low : fr.2 ≤ inf.off + ro
  typ : ∀ t, et = some t → e = t ∧ (g = none → inf.off = 0 ∧ c'.size = c.length)
theorem CR.free {φ : Phi} {inf : Inf} {c : List VV} {g : Option Nat} {ro : Nat} {et : Option TypeId} {c' : Array Value} {e : TypeId} {fr : Nat × Nat} (k : CR φ inf c g ro et c' e fr) : ∀ j, ro ≤ j → j < c.length + spare g inf.slack → ¬ (fr.1 ≤ inf.off + j ∧ inf.off + j < fr.2) :=
  fun j h _ ⟨_, h2⟩ => by have := k.low; omega
def txtCells (s : ByteArray) : List VV := s.data.toList.map fun b => .int .u8 b.toNat
def OR (φ : Phi) (inf : Inf) : VO → Obj → Prop
  | .txt ps et, o => ∃ s, textS φ.ρ ps = some s ∧ ∃ c' e fr, o = .cells c' e fr ∧ CR φ inf (txtCells s) (some 1) 0 et c' e fr
  | .cells c g ro et, o => ∃ c' e fr, o = .cells c' e fr ∧ CR φ inf c g ro et c' e fr
  | .list j n sz tail et, o => 0 ≤ φ.ρ.int n ∧ (φ.ρ.lst j).length = (φ.ρ.int n).toNat * sz ∧ ∃ c' e fr, o = .cells c' e fr ∧ CR φ inf (φ.ρ.lst j ++ tail) (some sz) 0 et c' e fr
  | .map es clock, o => ∃ es', o = .map ⟨es'⟩ clock ∧ ERs φ es es'
  | .mapU es, o => ∃ es' c l, o = .map ⟨es'⟩ c ∧ List.Perm l es ∧ EUs φ l es'
  | .loop st pend tmps nt params assign body, o => ∃ tmps' fn d, o = .loop { state := st, pending := pend, fn, tmps := tmps', params := ⟨params⟩, assign, body, defers := d } ∧ TR φ tmps tmps' ∧ nt ≤ tmps'.size
  | .siter s pos, o => o = .stringIter s pos
  | .miter i since seen last, o => inf.off = 0 ∧ ∃ inf', φ i = some inf' ∧ o = .mapIter (some inf'.blk) since ⟨seen⟩ last
theorem CR.mono {φ ψ : Phi} (h : φ.le ψ) {inf : Inf} {c : List VV} {g : Option Nat} {ro : Nat} {et : Option TypeId} {c' : Array Value} {e : TypeId} {fr : Nat × Nat} (k : CR φ inf c g ro et c' e fr) : CR ψ inf c g ro et c' e fr :=
  ⟨k.size, k.fixed, fun j x hx => let ⟨y, h1, h2⟩ := k.cell j x hx; ⟨y, h1, h2.mono h⟩, k.low, k.typ⟩
theorem OR.mono {φ ψ : Phi} (h : φ.le ψ) {inf : Inf} {o : VO} {o' : Obj} (k : OR φ inf o o') : OR ψ inf o o' := by
  cases o with
  | cells c g ro et => obtain ⟨c', e, fr, h1, h2⟩ := k; exact ⟨c', e, fr, h1, h2.mono h⟩
  | txt ps et =>
    obtain ⟨s, h0, c', e, fr, h2, h3⟩ := k
    exact ⟨s, by rw [h.2]; exact h0, c', e, fr, h2, h3.mono h⟩
  | list j n sz tail et =>
    obtain ⟨h0, h1, c', e, fr, h2, h3⟩ := k
    exact ⟨by rw [h.2]; exact h0, by rw [h.2]; exact h1, c', e, fr, h2, by rw [h.2]; exact h3.mono h⟩
  | map es clock => obtain ⟨es', h1, h2⟩ := k; exact ⟨es', h1, h2.mono h⟩
  | mapU es => obtain ⟨es', c, l, h1, h2, h3⟩ := k; exact ⟨es', c, l, h1, h2, EUs.mono h l es' h3⟩
  | loop st pend tmps nt params assign body => obtain ⟨t', f, d, h1, h2, h3⟩ := k; exact ⟨t', f, d, h1, h2.mono h, h3⟩
  | siter s pos => exact k
  | miter i since seen last => obtain ⟨h0, inf', h1, h2⟩ := k; exact ⟨h0, inf', h.1 _ _ h1, h2⟩
/-- What a step leaves of the world besides the heap. -/
structure WK (w w' : World) : Prop where
  os : w'.os = w.os
  tape : w'.tape = w.tape
  output : w'.output = w.output
  size : w.heap.size ≤ w'.heap.size
theorem WK.refl (w : World) : WK w w := ⟨rfl, rfl, rfl, Nat.le_refl _⟩
theorem WK.trans {a b c : World} (h : WK a b) (k : WK b c) : WK a c := ⟨k.os.trans h.os, k.tape.trans h.tape, k.output.trans h.output, Nat.le_trans h.size k.size⟩
structure HSim [Ext] (w0 : World) (φ : Phi) (H : VH) (w : World) : Prop where
  env : EnvOK H.base φ w0
  base : ∀ r b, H.base.blk r = some b → ∃ o, w.heap[r]? = some o ∧ BOR b o
  old : ∀ k, k < w0.heap.size → w.heap[k]? = w0.heap[k]?
  own : ∀ i inf, φ i = some inf → w0.heap.size ≤ inf.blk
  small : H.next ≤ top
  live : ∀ i o, H.locs.get i = some o → ∃ inf o', φ i = some inf ∧ w.heap[inf.blk]? = some o' ∧ OR φ inf o o' ∧ H.base.blk inf.blk = none
  inj : ∀ i j oi oj inf jnf, H.locs.get i = some oi → H.locs.get j = some oj → φ i = some inf → φ j = some jnf → inf.blk = jnf.blk → i = j
  fresh : ∀ i, H.next ≤ i → φ i = none
  bound : ∀ i inf, φ i = some inf → inf.blk < w.heap.size
theorem HSim.lt [Ext] {w0 : World} {φ : Phi} {H : VH} {w : World} (h : HSim w0 φ H w) {i : Nat} {inf : Inf} (k : φ i = some inf) : i < H.next := by
  rcases Nat.lt_or_ge i H.next with hlt | hge
  · exact hlt
  · rw [h.fresh i hge] at k; cases k
theorem HSim.oldSize [Ext] {w0 : World} {φ : Phi} {H : VH} {w : World} (h : HSim w0 φ H w) : w0.heap.size ≤ w.heap.size := by
  rcases Nat.eq_zero_or_pos w0.heap.size with h0 | h0
  · omega
  · have := h.old (w0.heap.size - 1) (by omega)
    have h1 : (w0.heap[w0.heap.size - 1]?).isSome := by simp; omega
    rw [← this] at h1
    have h2 := (Array.getElem?_eq_some_iff.1 (Option.eq_some_of_isSome h1)).1
    omega
/-- The heap alone counts. -/
theorem HSim.heap [Ext] {w0 : World} {φ : Phi} {H : VH} {w w' : World} (h : HSim w0 φ H w) (e : w'.heap = w.heap) : HSim w0 φ H w' :=
  ⟨h.env, by rw [e]; exact h.base, by rw [e]; exact h.old, h.own, h.small, by rw [e]; exact h.live, h.inj, h.fresh, by rw [e]; exact h.bound⟩
/-- Fewer blocks are known. -/
theorem HSim.del [Ext] {w0 : World} {φ : Phi} {H : VH} {w : World} (h : HSim w0 φ H w) {i : Nat} (hi : i < top) : HSim w0 φ { H with locs := H.locs.del i } w := by
  have sub : ∀ j o, (H.locs.del i).get j = some o → H.locs.get j = some o := by
    intro j o hj
    by_cases e : j = i
    · subst e; rw [TT.get_del_same _ _ hi] at hj; cases hj
    · rwa [TT.get_del_other _ _ _ e] at hj
  exact ⟨h.env, h.base, h.old, h.own, h.small, fun j o hj => h.live j o (sub j o hj), fun a b oa ob ia ib ha hb => h.inj a b oa ob ia ib (sub _ _ ha) (sub _ _ hb), h.fresh, h.bound⟩
/-- A new block. -/
def Phi.ext (φ : Phi) (n : Nat) (inf : Inf) : Phi := ⟨fun i => if i = n then some inf else φ i, φ.ρ⟩
theorem Phi.le_ext {φ : Phi} {n : Nat} (inf : Inf) (h : φ n = none) : φ.le (φ.ext n inf) := by
  refine ⟨?_, rfl⟩
  intro i x hx
  show (if i = n then some inf else φ i) = some x
  split
  · rename_i e; subst e; rw [h] at hx; cases hx
  · exact hx
theorem Phi.ext_self (φ : Phi) (n : Nat) (inf : Inf) : φ.ext n inf n = some inf := by simp [Phi.ext]
def VH.alloc (H : VH) (o : VO) : VH := { H with locs := H.locs.put H.next o, next := H.next + 1 }
theorem HSim.alloc [Ext] {w0 : World} {φ : Phi} {H : VH} {w : World} (h : HSim w0 φ H w) (hn : H.next < top) (s : Nat) (o : VO) (o' : Obj) (ho : OR (φ.ext H.next ⟨w.heap.size, 0, s⟩) ⟨w.heap.size, 0, s⟩ o o') :
    HSim w0 (φ.ext H.next ⟨w.heap.size, 0, s⟩) (H.alloc o) (w.alloc o') := by
  have hf := h.fresh H.next (Nat.le_refl _)
  have hle := Phi.le_ext (φ := φ) ⟨w.heap.size, 0, s⟩ hf
  have hold : ∀ k, k < w.heap.size → (w.alloc o').heap[k]? = w.heap[k]? := fun k hk => by
    show (w.heap.push o')[k]? = _
    rw [Array.getElem?_push, if_neg (by omega)]
  have hnew : (w.alloc o').heap[w.heap.size]? = some o' := by show (w.heap.push o')[w.heap.size]? = _; simp
  have hgo : ∀ j x, (H.locs.put H.next o).get j = some x → j ≠ H.next → H.locs.get j = some x := fun j x hx e => by rwa [TT.get_put_other _ _ _ _ e] at hx
  have hsz : w0.heap.size ≤ w.heap.size := h.oldSize
  refine ⟨h.env.mono hle, ?_, ?_, ?_, ?_, ?_, ?_, ?_, ?_⟩
  · intro r x hx
    obtain ⟨ob, hw, hr⟩ := h.base r x hx
    rw [hold r (Array.getElem?_eq_some_iff.1 hw).1]
    exact ⟨ob, hw, hr⟩
  · intro k hk
    rw [hold k (by omega)]
    exact h.old k hk
  · intro i inf hi
    simp only [Phi.ext] at hi
    split at hi
    · cases hi; exact hsz
    · exact h.own i inf hi
  · exact hn
  · intro i x hx
    by_cases e : i = H.next
    · subst e
      rw [show (H.alloc o).locs = H.locs.put H.next o from rfl, TT.get_put_same _ _ _ hn] at hx
      cases hx
      refine ⟨_, o', Phi.ext_self _ _ _, hnew, ho, ?_⟩
      show H.base.blk w.heap.size = none
      cases hb : H.base.blk w.heap.size with
      | none => rfl
      | some y => obtain ⟨ob, hw, _⟩ := h.base _ y hb; have := (Array.getElem?_eq_some_iff.1 hw).1; omega
    · obtain ⟨inf, x', h1, h2, h3, h4⟩ := h.live i x (hgo i x hx e)
      exact ⟨inf, x', hle.1 i inf h1, by rw [hold _ (h.bound i inf h1)]; exact h2, h3.mono hle, h4⟩
  · intro i j oi oj inf jnf hi hj hfi hfj hb
    have old : ∀ k y, k ≠ H.next → φ.ext H.next ⟨w.heap.size, 0, s⟩ k = some y → φ k = some y := fun k y hk e => by simpa [Phi.ext, hk] using e
    by_cases ei : i = H.next
    · by_cases ej : j = H.next
      · rw [ei, ej]
      · have hj' := old j _ ej hfj
        subst ei
        rw [Phi.ext_self] at hfi
        cases hfi
        have := h.bound j jnf hj'
        simp at hb; omega
    · have hi' := old i _ ei hfi
      by_cases ej : j = H.next
      · subst ej
        rw [Phi.ext_self] at hfj
        cases hfj
        have := h.bound i inf hi'
        simp at hb; omega
      · exact h.inj i j oi oj inf jnf (hgo i _ hi ei) (hgo j _ hj ej) hi' (old j _ ej hfj) hb
  · intro i hi
    have hi' : H.next + 1 ≤ i := hi
    show (if _ then _ else _) = none
    rw [if_neg (by omega)]
    exact h.fresh i (by omega)
  · intro i inf hi
    show inf.blk < (w.alloc o').heap.size
    rw [World.size_alloc]
    simp only [Phi.ext] at hi
    split at hi
    · cases hi; simp
    · have := h.bound i inf hi; omega
/-- One real block turned. -/
structure Upd (w w₁ : World) (b : Nat) (o : Obj) : Prop where
  os : w₁.os = w.os
  tape : w₁.tape = w.tape
  output : w₁.output = w.output
  size : w₁.heap.size = w.heap.size
  here : w₁.heap[b]? = some o
  there : ∀ k, k ≠ b → w₁.heap[k]? = w.heap[k]?
theorem Upd.wk {w w₁ : World} {b : Nat} {o : Obj} (h : Upd w w₁ b o) : WK w w₁ := ⟨h.os, h.tape, h.output, by rw [h.size]; exact Nat.le_refl _⟩
theorem HSim.put [Ext] {w0 : World} {φ : Phi} {H : VH} {w w₁ : World} (h : HSim w0 φ H w) {i : Nat} {o : VO} {inf : Inf} (hi : H.locs.get i = some o) (hφ : φ i = some inf) {o₁ : VO} {o₁' : Obj}
    (u : Upd w w₁ inf.blk o₁') (ho : OR φ inf o₁ o₁') : HSim w0 φ { H with locs := H.locs.put i o₁ } w₁ := by
  have hlt : i < top := Nat.lt_of_lt_of_le (h.lt hφ) h.small
  obtain ⟨inf', _, hφ', _, _, hb⟩ := h.live i o hi
  rw [hφ] at hφ'; cases hφ'
  have hgo : ∀ j x, (H.locs.put i o₁).get j = some x → j ≠ i → H.locs.get j = some x := fun j x hx e => by rwa [TT.get_put_other _ _ _ _ e] at hx
  have was : ∀ j x, (H.locs.put i o₁).get j = some x → ∃ y, H.locs.get j = some y := fun j x hx => by
    by_cases e : j = i
    · subst e; exact ⟨o, hi⟩
    · exact ⟨x, hgo j x hx e⟩
  refine ⟨h.env, ?_, ?_, h.own, h.small, ?_, ?_, h.fresh, ?_⟩
  · intro r x hx
    rw [u.there r (fun e => by rw [e] at hx; rw [hb] at hx; cases hx)]
    exact h.base r x hx
  · intro k hk
    have := h.own i inf hφ
    rw [u.there k (by omega)]
    exact h.old k hk
  · intro j x hx
    by_cases e : j = i
    · subst e
      rw [TT.get_put_same _ _ _ hlt] at hx
      cases hx
      exact ⟨inf, o₁', hφ, u.here, ho, hb⟩
    · obtain ⟨jnf, x', h1, h2, h3, h4⟩ := h.live j x (hgo j x hx e)
      refine ⟨jnf, x', h1, ?_, h3, h4⟩
      rw [u.there _ (fun eb => e (h.inj j i x o jnf inf (hgo j x hx e) hi h1 hφ eb))]
      exact h2
  · intro a b oa ob ia ib ha hb' h1 h2 h3
    obtain ⟨ya, ha'⟩ := was a oa ha
    obtain ⟨yb, hb''⟩ := was b ob hb'
    exact h.inj a b ya yb ia ib ha' hb'' h1 h2 h3
  · intro j jnf hj
    rw [u.size]; exact h.bound j jnf hj
/-- A block that was grown in place: the elder name is no more, a new one stands for it. -/
theorem HSim.regrow [Ext] {w0 : World} {φ : Phi} {H : VH} {w w₁ : World} (h : HSim w0 φ H w) {i : Nat} {o : VO} {inf : Inf} (hi : H.locs.get i = some o) (hφ : φ i = some inf) {o₁ : VO} {o₁' : Obj} (jnf : Inf) (hj : jnf.blk = inf.blk)
    (u : Upd w w₁ inf.blk o₁') (ho : OR (φ.ext H.next jnf) jnf o₁ o₁') (ht : H.next < top) :
    HSim w0 (φ.ext H.next jnf) { H with locs := (H.locs.del i).put H.next o₁, next := H.next + 1 } w₁ := by
  have hlt : i < top := Nat.lt_trans (h.lt hφ) ht
  have hin : i ≠ H.next := Nat.ne_of_lt (h.lt hφ)
  obtain ⟨inf', _, hφ', _, _, hb⟩ := h.live i o hi
  rw [hφ] at hφ'; cases hφ'
  have hle := Phi.le_ext (φ := φ) jnf (h.fresh H.next (Nat.le_refl _))
  have old : ∀ k y, k ≠ H.next → φ.ext H.next jnf k = some y → φ k = some y := fun k y hk e => by simpa [Phi.ext, hk] using e
  have hgo : ∀ j x, ((H.locs.del i).put H.next o₁).get j = some x → j ≠ H.next → j ≠ i ∧ H.locs.get j = some x := fun j x hx e => by
    rw [TT.get_put_other _ _ _ _ e] at hx
    by_cases e' : j = i
    · subst e'; rw [TT.get_del_same _ _ hlt] at hx; cases hx
    · exact ⟨e', by rwa [TT.get_del_other _ _ _ e'] at hx⟩
  refine ⟨h.env.mono hle, ?_, ?_, ?_, ht, ?_, ?_, ?_, ?_⟩
  · intro r x hx
    rw [u.there r (fun e => by rw [e] at hx; rw [hb] at hx; cases hx)]
    exact h.base r x hx
  · intro k hk
    have := h.own i inf hφ
    rw [u.there k (by omega)]
    exact h.old k hk
  · intro k knf hk
    simp only [Phi.ext] at hk
    split at hk
    · cases hk; rw [hj]; exact h.own i inf hφ
    · exact h.own k knf hk
  · intro j x hx
    by_cases e : j = H.next
    · subst e
      rw [show ((H.locs.del i).put H.next o₁).get H.next = some o₁ from TT.get_put_same _ _ _ ht] at hx
      cases hx
      exact ⟨jnf, o₁', Phi.ext_self _ _ _, by rw [hj]; exact u.here, ho, by rw [hj]; exact hb⟩
    · obtain ⟨e', hx'⟩ := hgo j x hx e
      obtain ⟨knf, x', h1, h2, h3, h4⟩ := h.live j x hx'
      refine ⟨knf, x', hle.1 j knf h1, ?_, h3.mono hle, h4⟩
      rw [u.there _ (fun eb => e' (h.inj j i x o knf inf hx' hi h1 hφ eb))]
      exact h2
  · intro a b oa ob ia ib ha hb' h1 h2 h3
    by_cases ea : a = H.next
    · by_cases eb : b = H.next
      · rw [ea, eb]
      · obtain ⟨e', hx'⟩ := hgo b ob hb' eb
        subst ea
        rw [Phi.ext_self] at h1
        cases h1
        exact absurd (h.inj b i ob o ib inf hx' hi (old b _ eb h2) hφ (by rw [← h3, hj])) e'
    · obtain ⟨e', hx'⟩ := hgo a oa ha ea
      by_cases eb : b = H.next
      · subst eb
        rw [Phi.ext_self] at h2
        cases h2
        exact absurd (h.inj a i oa o ia inf hx' hi (old a _ ea h1) hφ (by rw [h3, hj])) e'
      · obtain ⟨_, hy'⟩ := hgo b ob hb' eb
        exact h.inj a b oa ob ia ib hx' hy' (old a _ ea h1) (old b _ eb h2) h3
  · intro k hk
    have hk' : H.next + 1 ≤ k := hk
    show (if _ then _ else _) = none
    rw [if_neg (by omega)]
    exact h.fresh k (by omega)
  · intro k knf hk
    rw [u.size]
    simp only [Phi.ext] at hk
    split at hk
    · cases hk; rw [hj]; exact h.bound i inf hφ
    · exact h.bound k knf hk

/-! ### Loading and storing -/
/-- Is a value one cell? -/
def flat1 : VV → Bool
  | .agg _ | .tuple _ | .any => false
  | _ => true
def flat : List VV → Bool
  | [] => true
  | v :: l => match flat1 v with | true => flat l | false => false
theorem VR_flat1 {φ : Phi} {x : VV} {v : Value} (h : VR φ x v) (hx : flat1 x = true) : v.oneCell' = true := by
  cases x with
  | agg cs => simp [flat1] at hx
  | tuple cs => simp [flat1] at hx
  | any => simp [flat1] at hx
  | one => simpa only [VR] using h
  | sym i => simp only [VR] at h; rw [h]; exact φ.ρ.one i
  | _ =>
    revert h
    (first
      | (cases ‹Option VA› <;> simp only [VR])
      | (cases ‹Option VB› <;> simp only [VR])
      | (simp only [VR]))
    all_goals (first
      | (rintro rfl; rfl)
      | (rintro ⟨_, _, _, rfl⟩; rfl)
      | (rintro ⟨_, _, rfl⟩; rfl)
      | (rintro ⟨_, _, _, _, _, rfl⟩; rfl))
theorem VRs_flat {φ : Phi} : ∀ (xs : List VV) (vs : List Value), VRs φ xs vs → flat xs = true → ∀ v ∈ vs, v.oneCell' = true
  | [], vs, h, _, v, hv => by simp only [VRs] at h; subst h; cases hv
  | x :: xs, vs, h, hf, v, hv => by
    simp only [VRs] at h
    obtain ⟨y, ys, rfl, h2, h3⟩ := h
    have hx : flat1 x = true := by unfold flat at hf; cases h1 : flat1 x with
      | true => rfl
      | false => rw [h1] at hf; cases hf
    have hxs : flat xs = true := by unfold flat at hf; rw [hx] at hf; exact hf
    rcases List.mem_cons.1 hv with rfl | hv
    · exact VR_flat1 h2 hx
    · exact VRs_flat xs ys h3 hxs v hv
def hload (H : VH) (a : VA) (n : Nat) : Option (List VV) :=
  match a.b with
  | .loc i => match H.locs.get i with
    | some (.cells c _ _ _) => takeN n (dropN a.o c)
    | _ => none
  | .sym i => match H.base.sblk i with
    | some c => takeN n (dropN a.o c)
    | none => none
  | .base r => match H.base.blk r with
    | some (.cells c) => match takeN n (dropN a.o c) with
      | some l => embs l
      | none => none
    | _ => none
def hstore (H : VH) (a : VA) (vs : List VV) : Option VH :=
  match a.b with
  | .loc i => match H.locs.get i with
    | some (.cells c g ro et) => match Nat.ble ro a.o, flat vs with
      | true, true => match over c a.o vs with
        | some c' => some { H with locs := H.locs.put i (.cells c' g ro et) }
        | none => none
      | _, _ => none
    | _ => none
  | _ => none
theorem cell?_at {w : World} {b o : Nat} {c : Array Value} {e : TypeId} {fr : Nat × Nat} (h : w.heap[b]? = some (.cells c e fr)) : w.cell? ⟨b, o, none⟩ = c[o]? := by
  simp [World.cell?, h]
theorem frozen?_at {w : World} {b o : Nat} {c : Array Value} {e : TypeId} {fr : Nat × Nat} (h : w.heap[b]? = some (.cells c e fr)) : w.frozen? ⟨b, o, none⟩ = (decide (fr.1 ≤ o) && decide (o < fr.2)) := by
  obtain ⟨lo, hi⟩ := fr
  simp [World.frozen?, h]
theorem embs_get : ∀ (vs : List Value) (xs : List VV), embs vs = some xs → xs.length = vs.length
  | [], _, h => by simp only [embs, Option.some.injEq] at h; subst h; rfl
  | v :: vs, xs, h => by
    simp only [embs] at h
    cases hv : emb v with
    | none => rw [hv] at h; simp at h
    | some y => cases hr : embs vs with
      | none => rw [hv, hr] at h; simp at h
      | some ys => rw [hv, hr] at h; simp at h; subst h; simp [embs_get vs ys hr]
/-- What is loaded is there: related values, cell by cell. -/
theorem hload_sound [Ext] {w0 : World} {φ : Phi} {H : VH} {w : World} (h : HSim w0 φ H w) {a : VA} {a' : Addr} {s n : Nat} (ha : AR φ a a' s) {xs : List VV} (hl : hload H a n = some xs) :
    ∃ vs, VRs φ xs vs ∧ vs.length = n ∧ a'.spot = none ∧ ∀ j v, vs[j]? = some v → w.cell? (a'.add j) = some v := by
  have hadd : ∀ (b o j : Nat), (⟨b, o, none⟩ : Addr).add j = ⟨b, o + j, none⟩ := by intro b o j; unfold Addr.add; split <;> simp_all
  unfold hload at hl
  cases hb : a.b with
  | loc i =>
    rw [hb] at hl
    simp only at hl
    cases hg : H.locs.get i with
    | none => rw [hg] at hl; simp at hl
    | some o =>
      rw [hg] at hl
      cases o with
      | cells c g ro et =>
        simp only at hl
        obtain ⟨hn, rfl⟩ := takeN_eq _ _ _ hl
        rw [dropN_eq] at hn
        simp only [List.length_drop] at hn
        unfold AR at ha
        rw [hb] at ha
        obtain ⟨inf, hφ, rfl, rfl⟩ := ha
        obtain ⟨inf', o', hφ', hw, ⟨c', e, fr, rfl, hc⟩, _⟩ := h.live i _ hg
        rw [hφ] at hφ'; cases hφ'
        have hsz := hc.size
        refine ⟨(c'.toList.drop (inf.off + a.o)).take n, ?_, ?_, rfl, ?_⟩
        · refine VRs_of_get _ _ ?_ ?_
          · rw [dropN_eq]; simp; omega
          · intro j x v hx hv
            rw [dropN_eq, List.getElem?_take] at hx
            rw [List.getElem?_take] at hv
            split at hx
            · rename_i hj
              rw [if_pos hj] at hv
              rw [List.getElem?_drop] at hx hv
              obtain ⟨y, hy, hr⟩ := hc.cell _ x hx
              rw [Array.getElem?_toList, show inf.off + a.o + j = inf.off + (a.o + j) by omega, hy] at hv
              cases hv; exact hr
            · cases hx
        · simp; omega
        · intro j v hv
          rw [List.getElem?_take] at hv
          split at hv
          · rw [List.getElem?_drop, Array.getElem?_toList] at hv
            rw [hadd, cell?_at hw]; exact hv
          · cases hv
      | _ => simp at hl
  | sym i =>
    rw [hb] at hl
    simp only at hl
    cases hg : H.base.sblk i with
    | none => rw [hg] at hl; simp at hl
    | some c =>
      rw [hg] at hl
      simp only at hl
      obtain ⟨hn, rfl⟩ := takeN_eq _ _ _ hl
      rw [dropN_eq] at hn
      simp only [List.length_drop] at hn
      unfold AR at ha
      rw [hb] at ha
      obtain ⟨rfl, rfl⟩ := ha
      obtain ⟨hb1, hc⟩ := h.env.sblk i c hg
      have cl : ∀ j x, c[j]? = some x → ∃ v, w.cell? ⟨φ.ρ.blk i, φ.ρ.off i + j, none⟩ = some v ∧ VR φ x v := by
        intro j x hx
        obtain ⟨v, e1, e2⟩ := hc j x hx
        exact ⟨v, by rw [← e1]; unfold World.cell?; rw [h.old _ hb1], e2⟩
      let g : Nat → Value := fun j => match w.cell? ⟨φ.ρ.blk i, φ.ρ.off i + a.o + j, none⟩ with | some v => v | none => undef
      refine ⟨(List.range n).map g, ?_, by simp, rfl, ?_⟩
      · refine VRs_of_get _ _ (by rw [dropN_eq]; simp; omega) ?_
        intro j x v hx hv
        rw [dropN_eq, List.getElem?_take] at hx
        split at hx
        · rename_i hj
          rw [List.getElem?_drop] at hx
          simp only [List.getElem?_map, List.getElem?_range hj, Option.map_some, Option.some.injEq] at hv
          obtain ⟨u, e1, e2⟩ := cl _ x hx
          subst hv
          simp only [g]
          rw [show φ.ρ.off i + a.o + j = φ.ρ.off i + (a.o + j) by omega, e1]
          exact e2
        · cases hx
      · intro j v hv
        have hj : j < n := by
          rcases Nat.lt_or_ge j n with hlt | hge
          · exact hlt
          · rw [List.getElem?_eq_none (by simp; omega)] at hv; cases hv
        simp only [List.getElem?_map, List.getElem?_range hj, Option.map_some, Option.some.injEq] at hv
        rw [hadd]
        obtain ⟨u, e1, _⟩ := cl (a.o + j) (c[a.o + j]'(by omega)) (by simp)
        subst hv
        simp only [g]
        rw [show φ.ρ.off i + a.o + j = φ.ρ.off i + (a.o + j) from Nat.add_assoc _ _ _, e1]
  | base r =>
    rw [hb] at hl
    simp only at hl
    cases hg : H.base.blk r with
    | none => rw [hg] at hl; simp at hl
    | some o =>
      rw [hg] at hl
      cases o with
      | cells c =>
        simp only at hl
        cases ht : takeN n (dropN a.o c) with
        | none => rw [ht] at hl; simp at hl
        | some l =>
          rw [ht] at hl
          simp only at hl
          obtain ⟨hn, rfl⟩ := takeN_eq _ _ _ ht
          rw [dropN_eq] at hn hl
          obtain ⟨ob, hw, c', e, fr, rfl, rfl⟩ := h.base r _ hg
          unfold AR at ha
          rw [hb] at ha
          obtain ⟨rfl, rfl⟩ := ha
          refine ⟨_, VRs_embs φ _ _ hl, by simp at hn ⊢; omega, rfl, ?_⟩
          intro j v hv
          rw [List.getElem?_take] at hv
          split at hv
          · rw [List.getElem?_drop, Array.getElem?_toList] at hv
            rw [hadd, cell?_at hw]; exact hv
          · cases hv
      | _ => simp at hl
theorem cell?_old [Ext] {w0 : World} {φ : Phi} {H : VH} {w : World} (h : HSim w0 φ H w) {a : Addr} (ha : a.block < w0.heap.size) : w.cell? a = w0.cell? a := by
  unfold World.cell?
  rw [h.old _ ha]
theorem run_storeCells {P : Program} {b o : Nat} {e : TypeId} {fr : Nat × Nat} : ∀ (vs : List Value) (i : Nat) (c : Array Value) (w : World), w.heap[b]? = some (.cells c e fr) → o + i + vs.length ≤ c.size →
    (∀ j, j < vs.length → ¬ (fr.1 ≤ o + i + j ∧ o + i + j < fr.2)) → (∀ v ∈ vs, v.oneCell' = true) →
    ∃ w₁ c₁, (storeCells ⟨b, o, none⟩ vs i).run P w = .ok () w₁ ∧ Upd w w₁ b (.cells c₁ e fr) ∧ c₁.size = c.size ∧ (∀ j, c₁[j]? = if o + i ≤ j ∧ j < o + i + vs.length then vs[j - (o + i)]? else c[j]?) := by
  intro vs
  induction vs with
  | nil =>
    intro i c w hw _ _ _
    exact ⟨w, c, rfl, ⟨rfl, rfl, rfl, rfl, hw, fun _ _ => rfl⟩, rfl, fun j => by rw [if_neg (by simp)]⟩
  | cons v vs ih =>
    intro i c w hw hsz hfr hone
    have hadd : (⟨b, o, none⟩ : Addr).add i = ⟨b, o + i, none⟩ := by unfold Addr.add; split <;> simp_all
    simp only [List.length_cons] at hsz hfr
    have hlt : o + i < c.size := by omega
    have hb : b < w.heap.size := (Array.getElem?_eq_some_iff.1 hw).1
    have hcell : w.cell? ⟨b, o + i, none⟩ = some c[o + i] := by rw [cell?_at hw]; simp [hlt]
    have hfz : w.frozen? ⟨b, o + i, none⟩ = false := by
      rw [frozen?_at hw]
      have := hfr 0 (by omega)
      simp only [Nat.add_zero] at this
      by_cases h1 : fr.1 ≤ o + i <;> by_cases h2 : o + i < fr.2 <;> simp_all
    have hw2 : (w.setCell ⟨b, o + i, none⟩ v).heap[b]? = some (.cells (c.setIfInBounds (o + i) v) e fr) := by
      simp [World.setCell, Array.getElem?_modify, hw]
    obtain ⟨w₁, c₁, h1, h2, h3, h4⟩ := ih (i + 1) (c.setIfInBounds (o + i) v) (w.setCell ⟨b, o + i, none⟩ v) hw2 (by simp; omega) (fun j hj => by have := hfr (j + 1) (by omega); rwa [show o + (i + 1) + j = o + i + (j + 1) by omega]) (fun u hu => hone u (by simp [hu]))
    refine ⟨w₁, c₁, ?_, ⟨h2.os, h2.tape, h2.output, h2.size.trans (by simp [World.setCell]), h2.here, fun k hk => ?_⟩, by simpa using h3, fun j => ?_⟩
    · unfold storeCells
      simp only [Sem.run_bind, hadd, run_store P w _ v .plain (hone v (by simp)), hcell, hfz, Bool.false_eq_true, if_false, Result.andThen_ok]
      exact h1
    · rw [h2.there k hk]
      simp only [World.setCell, Array.getElem?_modify]
      rw [if_neg (fun e => hk e.symm)]
    · rw [h4 j]
      by_cases hj : o + (i + 1) ≤ j ∧ j < o + (i + 1) + vs.length
      · rw [if_pos hj, if_pos ⟨by omega, by simp only [List.length_cons]; omega⟩]
        rw [show j - (o + i) = (j - (o + (i + 1))) + 1 by omega]
        simp
      · rw [if_neg hj]
        by_cases he : j = o + i
        · subst he
          rw [if_pos ⟨by omega, by simp only [List.length_cons]; omega⟩]
          simp [hlt]
        · rw [if_neg (by simp only [List.length_cons]; omega)]
          rw [Array.getElem?_setIfInBounds, if_neg (fun e => he e.symm)]
theorem hstore_sound [Ext] {P : Program} {w0 : World} {φ : Phi} {H H₁ : VH} {w : World} (h : HSim w0 φ H w) {a : VA} {a' : Addr} {s : Nat} (ha : AR φ a a' s) {xs : List VV} {vs : List Value} (hs : hstore H a xs = some H₁) (hv : VRs φ xs vs) :
    ∃ w₁, (storeCells a' vs).run P w = .ok () w₁ ∧ HSim w0 φ H₁ w₁ ∧ (∃ i inf o, φ i = some inf ∧ Upd w w₁ inf.blk o) ∧ H₁.base = H.base := by
  unfold hstore at hs
  cases hb : a.b with
  | base r => rw [hb] at hs; simp at hs
  | sym r => rw [hb] at hs; simp at hs
  | loc i =>
    rw [hb] at hs
    simp only at hs
    cases hg : H.locs.get i with
    | none => rw [hg] at hs; simp at hs
    | some o =>
      rw [hg] at hs
      cases o with
      | cells c g ro et =>
        simp only at hs
        cases h1 : Nat.ble ro a.o with
        | false => rw [h1] at hs; simp at hs
        | true =>
          cases h2 : flat xs with
          | false => rw [h1, h2] at hs; simp at hs
          | true =>
            rw [h1, h2] at hs
            simp only at hs
            cases h3 : over c a.o xs with
            | none => rw [h3] at hs; simp at hs
            | some c₂ =>
              rw [h3] at hs
              simp only [Option.some.injEq] at hs
              subst hs
              have hro : ro ≤ a.o := Nat.le_of_ble_eq_true h1
              obtain ⟨k1, k2, k3⟩ := over_eq _ _ _ _ h3
              have hlen := VRs_length _ _ hv
              unfold AR at ha
              rw [hb] at ha
              obtain ⟨inf, hφ, rfl, rfl⟩ := ha
              obtain ⟨inf', o', hφ', hw, ⟨c', e, fr, rfl, hc⟩, _⟩ := h.live i _ hg
              rw [hφ] at hφ'; cases hφ'
              have hsz := hc.size
              obtain ⟨w₁, c₁, r1, r2, r3, r4⟩ := run_storeCells (P := P) (o := inf.off + a.o) vs 0 c' w hw (by omega) (fun j hj => by
                have := hc.free (a.o + j) (by omega) (by omega)
                rwa [show inf.off + a.o + 0 + j = inf.off + (a.o + j) by omega]) (VRs_flat _ _ hv h2)
              refine ⟨w₁, r1, h.put hg hφ r2 ⟨c₁, e, fr, rfl, ⟨by rw [r3, k2]; exact hsz, hc.fixed, ?_, hc.low, fun t ht => ⟨(hc.typ t ht).1, fun hg => ⟨((hc.typ t ht).2 hg).1, by rw [r3, k2]; exact ((hc.typ t ht).2 hg).2⟩⟩⟩⟩, ⟨i, inf, _, hφ, r2⟩, rfl⟩
              intro j x hx
              rw [k3 j] at hx
              rw [r4]
              split at hx
              · rename_i hj
                rw [if_pos ⟨by omega, by omega⟩]
                obtain ⟨v, hv1, hv2⟩ := VRs_get _ _ hv _ x hx
                exact ⟨v, by rw [show inf.off + j - (inf.off + a.o + 0) = j - a.o by omega]; exact hv1, hv2⟩
              · rename_i hj
                rw [if_neg (by omega)]
                exact hc.cell j x hx
      | _ => simp at hs
end
end Go.Ev
