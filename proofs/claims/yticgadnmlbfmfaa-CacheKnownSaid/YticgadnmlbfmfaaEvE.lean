/- Engine, part E: the operations that only read, together. -/
import Derived.Test.YticgadnmlbfmfaaEvD
import Derived.Laws.BytesString
import Derived.Lib.Builder
namespace Go.Ev
noncomputable section
theorem lt_of_blt0 {a b : Nat} (h : Nat.blt a b = true) : a < b := by
  have : Nat.ble (a + 1) b = true := h
  exact Nat.le_of_ble_eq_true this
theorem evText_sound [Ext] {P : Program} {w0 : World} {φ : Phi} {H : VH} {w : World} (hs : HSim w0 φ H w) (op : BinOp) (t : TypeId) (ox oy : Operand) {x y : VV} {x' y' : Value} (hx : VR φ x x') (hy : VR φ y y') :
    ROR φ w (runBin P op t ox oy x' y' w) (evText H.base op x y) := by
  unfold evText
  split
  · rename_i a b ha hb
    obtain ⟨s, h1, rfl⟩ := pcs_sound hs.env ha hx
    obtain ⟨u, h2, rfl⟩ := pcs_sound hs.env hb hy
    have key := evBinS_sound (P := P) (φ := φ) (w := w) op t ox oy s u
    split
    · split
      · rename_i m n h3 h4
        split
        · rename_i hd
          have := of_decide_eq_true hd
          have e1 := szT_sound hs.env h3 h1
          have e2 := szT_sound hs.env h4 h2
          simp only [evBinS, ROR] at key
          obtain ⟨v, r1, r2⟩ := key (decide_eq_true (by omega))
          refine ⟨v, r1, ?_⟩
          simp only [VR] at r2 ⊢
          exact ⟨_, catN_text h1 h2, r2⟩
        · trivial
      · trivial
    · split
      · rename_i he
        have := sEqs_eq he
        subst this
        rw [h1] at h2
        cases h2
        simp only [evBinS, ROR] at key
        obtain ⟨v, r1, r2⟩ := key
        refine ⟨v, r1, ?_⟩
        simp only [VR, strEq_eq, beq_self_eq_true] at r2 ⊢
        exact r2
      · trivial
    · split
      · rename_i he
        have := sEqs_eq he
        subst this
        rw [h1] at h2
        cases h2
        simp only [evBinS, ROR] at key
        obtain ⟨v, r1, r2⟩ := key
        refine ⟨v, r1, ?_⟩
        simp only [VR, strEq_eq, beq_self_eq_true, Bool.not_true] at r2 ⊢
        exact r2
      · trivial
    · trivial
  · trivial
theorem orText_sound {φ : Phi} {w : World} {r : Result Value} {x y : RO} (h1 : ROR φ w r x) (h2 : ROR φ w r y) : ROR φ w r (orText x y) := by
  unfold orText
  split
  · exact h2
  · exact h1
theorem evBin0_sound [Ext] {P : Program} {w0 : World} {φ : Phi} {H : VH} {w : World} (hs : HSim w0 φ H w) (op : BinOp) (t : TypeId) (ox oy : Operand) {x y : VV} {x' y' : Value} (hx : VR φ x x') (hy : VR φ y y') :
    ROR φ w (runBin P op t ox oy x' y' w) (evBin0 P H op t (isC ox) (isC oy) x y) := by
  have key : ∀ (_ : ∀ k n, x ≠ .int k n) (_ : ∀ s, x ≠ .string s) (hb : ∀ r : Bool, (Op.equal t x' y').run P w = .ok r w → (binOp .eql t x' y').run P w = .ok (.bool r) w ∧ (binOp .neq t x' y').run P w = .ok (.bool (!r)) w),
      ROR φ w (runBin P op t ox oy x' y' w) (evEq P H op t (isC ox) (isC oy) x y) := by
    intro h1 h2 hb
    unfold evEq
    cases op <;> first
      | trivial
      | (simp only
         cases hg : eqG P t (isC ox) (isC oy) x y with
         | false => trivial
         | true =>
           cases hq : teq P H.base 50 t x y with
           | none => trivial
           | some r =>
             simp only [ROR]
             have hgr := fun o : BinOp => eqG_sound (P := P) (w := w) (op := o) (t := t) hx hy ox oy hg h1 h2
             have hrun := teq_sound (P := P) (φ := φ) hs.env 50 9950 t x y r hq x' y' w hx hy
             obtain ⟨hb1, hb2⟩ := hb r hrun
             first
               | (refine ⟨.bool r, ?_, by simp [VR]⟩; simp only [runBin, Sem.run_bind, hgr .eql, Result.andThen_ok, hb1]; done)
               | (refine ⟨.bool (!r), ?_, by simp [VR]⟩; simp only [runBin, Sem.run_bind, hgr .neq, Result.andThen_ok, hb2]; done))
  unfold evBin0
  cases x with
  | int k a =>
    cases y with
    | int k' b => simp only [VR] at hx hy; subst hx; subst hy; exact evBinI_sound op t ox oy k k' a b
    | sint k' j => exact evSym_sound hs op t ox oy hx hy
    | _ => trivial
  | sint k j => exact evSym_sound hs op t ox oy hx hy
  | sym j => exact orText_sound (evSym_sound hs op t ox oy hx hy) (evText_sound hs op t ox oy hx hy)
  | cat ps => exact evText_sound hs op t ox oy hx hy
  | tsl b ps => trivial
  | tlen ps => trivial
  | any =>
    unfold evEq
    cases op <;> first | trivial | (cases y <;> simp only [eqG, hard] <;> trivial)
  | one =>
    unfold evEq
    cases op <;> first | trivial | (cases y <;> simp only [eqG, hard] <;> trivial)
  | string a =>
    cases y with
    | string b => simp only [VR] at hx hy; subst hx; subst hy; exact evBinS_sound op t ox oy a b
    | sym j => exact orText_sound (evSym_sound hs op t ox oy hx hy) (evText_sound hs op t ox oy hx hy)
    | cat ps => exact evText_sound hs op t ox oy hx hy
    | _ => trivial
  | ptr p =>
    refine key (by simp) (by simp) ?_
    cases p <;> simp only [VR] at hx <;> (first | subst hx | obtain ⟨_, _, _, rfl⟩ := hx) <;> intro r hr <;> simp [binOp, hr]
  | slice p l c =>
    refine key (by simp) (by simp) ?_
    cases p <;> simp only [VR] at hx <;> (first | subst hx | obtain ⟨_, _, _, rfl⟩ := hx) <;> intro r hr <;> simp [binOp, hr]
  | map p =>
    refine key (by simp) (by simp) ?_
    cases p <;> simp only [VR] at hx <;> (first | subst hx | obtain ⟨_, _, rfl⟩ := hx) <;> intro r hr <;> simp [binOp, hr]
  | sliceE => simp only [VR] at hx; obtain ⟨_, _, rfl⟩ := hx; refine key (by simp) (by simp) ?_; intro r hr; simp [binOp, hr]
  | lsl b n m => simp only [VR] at hx; obtain ⟨_, _, rfl⟩ := hx; refine key (by simp) (by simp) ?_; intro r hr; simp [binOp, hr]
  | func fn f c => simp only [VR] at hx; obtain ⟨_, _, _, _, _, rfl⟩ := hx; refine key (by simp) (by simp) ?_; intro r hr; simp [binOp, hr]
  | yield i => simp only [VR] at hx; obtain ⟨_, _, rfl⟩ := hx; refine key (by simp) (by simp) ?_; intro r hr; simp [binOp, hr]
  | iface ty v => simp only [VR] at hx; obtain ⟨_, _, rfl⟩ := hx; refine key (by simp) (by simp) ?_; intro r hr; simp [binOp, hr]
  | tuple ds => simp only [VR] at hx; obtain ⟨_, _, rfl⟩ := hx; refine key (by simp) (by simp) ?_; intro r hr; simp [binOp, hr]
  | agg ds => simp only [VR] at hx; obtain ⟨_, _, rfl⟩ := hx; refine key (by simp) (by simp) ?_; intro r hr; simp [binOp, hr]
  | bool b => simp only [VR] at hx; subst hx; refine key (by simp) (by simp) ?_; intro r hr; simp [binOp, hr]
  | nilFunc => simp only [VR] at hx; subst hx; refine key (by simp) (by simp) ?_; intro r hr; simp [binOp, hr]
  | nilIface => simp only [VR] at hx; subst hx; refine key (by simp) (by simp) ?_; intro r hr; simp [binOp, hr]

theorem evBin_sound [Ext] {P : Program} {w0 : World} {φ : Phi} {H : VH} {w : World} (hs : HSim w0 φ H w) (op : BinOp) (t : TypeId) (ox oy : Operand) {x y : VV} {x' y' : Value} (hx : VR φ x x') (hy : VR φ y y') :
    ROR φ w (runBin P op t ox oy x' y' w) (evBin P H op t (isC ox) (isC oy) x y) := by
  unfold evBin
  split
  · split
    · split
      · rename_i u _ b hf
        obtain ⟨vs, v, h1, h2, h3⟩ := hs.env.tab _ (factFn_mem hf)
        simp only [svals, sval, Option.some.injEq] at h1 h2
        subst h1 h2
        have hb : φ.ρ.val u = .bool b := by
          unfold FOsem at h3
          split at h3
          all_goals first
            | (rename_i e1 e2 e3; simp_all; done)
            | simp_all
        have e := sval_VR (show sval φ.ρ (.sym u) = some (.bool b) by simp only [sval, hb]) hy
        subst e
        exact evBin0_sound hs op t ox oy hx (by simp only [VR])
      · trivial
    · exact evBin0_sound hs op t ox oy hx hy
  · exact evBin0_sound hs op t ox oy hx hy
def evUn0 (op : UnOp) (x : VV) : RO :=
  match op, x with
  | .not, .bool b => .val (.bool (!b))
  | .neg, .int k n => .val (.int k (k.wrap (0 - n)))
  | .xor, .int k n => .val (.int k (k.wrap (BitVec.ofInt k.bits (if k.signed then -1 else k.max) ^^^ BitVec.ofInt k.bits n).toNat))
  | _, _ => .bad
theorem evUn0_sound {P : Program} {φ : Phi} {w : World} (op : UnOp) {x : VV} {x' : Value} (hx : VR φ x x') : ROR φ w ((Op.unary op x').run P w) (evUn0 op x) := by
  unfold evUn0
  cases op <;> cases x <;> first
    | trivial
    | (simp only [VR] at hx; subst hx; simp only [ROR]; refine ⟨_, rfl, ?_⟩; simp [VR])
def evUn (H : VH) (op : UnOp) (x : VV) : RO := match isSymI x with
  | false => evUn0 op x
  | true => RO.of (factFn (.un op) [x] H.base.tab)
theorem evUn_sound [Ext] {P : Program} {w0 : World} {φ : Phi} {H : VH} {w : World} (h : HSim w0 φ H w) (op : UnOp) {x : VV} {x' : Value} (hx : VR φ x x') : ROR φ w ((Op.unary op x').run P w) (evUn H op x) := by
  unfold evUn
  cases hs : isSymI x with
  | false => exact evUn0_sound op hx
  | true =>
    simp only
    cases hf : factFn (.un op) [x] H.base.tab with
    | none => trivial
    | some r =>
      obtain ⟨v, h1, h2⟩ := fn1 h.env hf hx
      simp only [RO.of, ROR]
      cases x' <;> try (simp [FOsem] at h2; done)
      exact ⟨v, h2 P w, h1⟩

/-! ### conversions that make no memory -/
def bytesOf : List VV → Option (List Int)
  | [] => some []
  | .int .u8 n :: l => match bytesOf l with
    | some r => some (n :: r)
    | none => none
  | _ :: _ => none
def byteList : List Int → List UInt8
  | [] => []
  | n :: l => UInt8.ofNat n.toNat :: byteList l
theorem foldl_byteList : ∀ (ns : List Int) (s : ByteArray), ns.foldl (fun r n => r.push (UInt8.ofNat n.toNat)) s = ⟨⟨s.data.toList ++ byteList ns⟩⟩
  | [], s => by simp [byteList]
  | n :: ns, s => by
    simp only [List.foldl_cons, foldl_byteList ns, byteList]
    obtain ⟨⟨l⟩⟩ := s
    simp [ByteArray.push]
theorem bytesOf_sound {φ : Phi} : ∀ (l : List VV) (vs : List Value) (ns : List Int), VRs φ l vs → bytesOf l = some ns → vs = ns.map (Value.int .u8)
  | [], vs, ns, h, hb => by
    simp only [VRs] at h; subst h
    simp only [bytesOf, Option.some.injEq] at hb; subst hb
    rfl
  | x :: l, vs, ns, h, hb => by
    simp only [VRs] at h
    obtain ⟨y, ys, rfl, h1, h2⟩ := h
    cases x with
    | int k n =>
      cases k <;> simp only [bytesOf] at hb <;> try (cases hb; done)
      cases hr : bytesOf l with
      | none => rw [hr] at hb; cases hb
      | some r =>
        rw [hr] at hb
        simp only [Option.some.injEq] at hb
        subst hb
        simp only [VR] at h1
        subst h1
        rw [bytesOf_sound l ys r h2 hr]
        rfl
    | _ => simp [bytesOf] at hb
def evConvS (P : Program) (H : VH) (e : TypeId) (x : VV) : RO :=
  match P.underlying e, x with
  | some (.int .u8), .slice none _ _ => .val (.string .empty)
  | some (.int .u8), .slice (some a) n _ => match hload H a n with
    | some l => match bytesOf l with
      | some b => .val (.string ⟨⟨byteList b⟩⟩)
      | none => .bad
    | none => .bad
  | _, _ => .bad
def convStr (P : Program) (H : VH) (s : TypeDesc) (x : VV) : RO := match s with
  | .slice e => evConvS P H e x
  | _ => .bad
/-- A pointer, as one of no type. -/
def evUnsafe (P : Program) (H : VH) (s : TypeDesc) (x : VV) : RO := match s with
  | .pointer t => match x with
    | .ptr none => .val (.ptr none)
    | .ptr (some ⟨.loc i, o⟩) => match P.info? t, H.locs.get i with
      | some j, some (.cells c _ _ _) => match Nat.beq j.size 0, Nat.blt o c.length with
        | false, true => .val (.ptr (some ⟨.loc i, o⟩))
        | _, _ => .bad
      | _, _ => .bad
    | _ => .bad
  | _ => .bad
/-- .. and back. -/
def evSafe (P : Program) (H : VH) (s : TypeDesc) (u : TypeId) (x : VV) : RO := match s with
  | .unsafePointer => match x with
    | .ptr none => .val (.ptr none)
    | .ptr (some ⟨.loc i, o⟩) => match P.info? u, H.locs.get i with
      | some _, some (.cells c none _ (some e)) => match liesAt P P.depth e (c.length / P.cellsOf e) o u 1 with
        | true => .val (.ptr (some ⟨.loc i, o⟩))
        | false => .bad
      | _, _ => .bad
    | _ => .bad
  | _ => .bad
theorem wrap_in {k : IntKind} {n : Int} (h1 : k.min ≤ n) (h2 : n ≤ k.max) : k.wrap n = n := by
  cases k <;> simp [IntKind.min, IntKind.max, IntKind.signed, IntKind.bits] at h1 h2 <;> simp [IntKind.wrap, IntKind.signed, IntKind.bits] <;> omega
def evConv (P : Program) (H : VH) (src dst : TypeId) (x : VV) : RO :=
  match P.underlying src, P.underlying dst with
  | some s, some d => match d with
    | .int k => match x with
      | .int _ n => .val (.int k (k.wrap n))
      | .sint _ i => match H.base.ivl i with
        | (l, u) => match decide (k.min ≤ l), decide (u ≤ k.max) with
          | true, true => .val (.sint k i)
          | _, _ => RO.of (factFn (.conv k) [x] H.base.tab)
      | _ => .bad
    | .string => match x with
      | .string s => .val (.string s)
      | x => convStr P H s x
    | .unsafePointer => evUnsafe P H s x
    | .pointer u => evSafe P H s u x
    | _ => .bad
  | _, _ => .bad
theorem evUnsafe_sound [Ext] {P : Program} {w0 : World} {φ : Phi} {H : VH} {w : World} (h : HSim w0 φ H w) {src dst : TypeId} {s : TypeDesc} (hs : P.underlying src = some s) (hd : P.underlying dst = some .unsafePointer) {x : VV} {x' : Value} (hx : VR φ x x') :
    ROR φ w ((convert src dst x').run P w) (evUnsafe P H s x) := by
  unfold evUnsafe
  split
  · split
    · simp only [VR] at hx
      subst hx
      exact ⟨.pointer none, by simp [convert, run_underlying hs, run_underlying hd, Conv.unsafePointer], by simp only [VR]⟩
    · rename_i t i o
      split
      · rename_i j c g ro et hj hg
        split
        · rename_i hz hl
          have hx0 := hx
          simp only [VR] at hx
          obtain ⟨a', sl, ha, rfl⟩ := hx
          simp only [AR] at ha
          obtain ⟨inf, hφ, rfl, _⟩ := ha
          obtain ⟨inf', o', hφ', hw, ⟨c', e, fr, rfl, hc⟩, _⟩ := h.live i _ hg
          rw [hφ] at hφ'; cases hφ'
          have hsz := hc.size
          have hl' := lt_of_blt0 hl
          refine ⟨_, Lib.run_to_unsafe w ⟨inf.blk, inf.off + o, none⟩ hs hd hj (fun e0 => by rw [e0] at hz; cases hz) (e := e) (cells := c'.size) (by simp [World.shape?, hw]) (by simp only; omega), hx0⟩
        · trivial
      · trivial
    · trivial
  · trivial
theorem evSafe_sound [Ext] {P : Program} {w0 : World} {φ : Phi} {H : VH} {w : World} (h : HSim w0 φ H w) {src dst u : TypeId} {s : TypeDesc} (hs : P.underlying src = some s) (hd : P.underlying dst = some (.pointer u)) {x : VV} {x' : Value} (hx : VR φ x x') :
    ROR φ w ((convert src dst x').run P w) (evSafe P H s u x) := by
  unfold evSafe
  split
  · split
    · simp only [VR] at hx
      subst hx
      exact ⟨.pointer none, by simp [convert, run_underlying hs, run_underlying hd, Conv.unsafePointer], by simp only [VR]⟩
    · rename_i i o
      split
      · rename_i j c ro e hj hg
        split
        · rename_i hl
          have hx0 := hx
          simp only [VR] at hx
          obtain ⟨a', sl, ha, rfl⟩ := hx
          simp only [AR] at ha
          obtain ⟨inf, hφ, rfl, _⟩ := ha
          obtain ⟨inf', o', hφ', hw, ⟨c', e', fr, rfl, hc⟩, _⟩ := h.live i _ hg
          rw [hφ] at hφ'; cases hφ'
          obtain ⟨rfl, hc2⟩ := hc.typ e rfl
          obtain ⟨h0, h1⟩ := hc2 rfl
          refine ⟨_, Lib.run_from_unsafe w ⟨inf.blk, inf.off + o, none⟩ hs hd hj (e := e') (cells := c'.size) (by simp [World.shape?, hw]) (by rw [h1, h0]; simpa using hl), hx0⟩
        · trivial
      · trivial
    · trivial
  · trivial
theorem evConvS_sound [Ext] {P : Program} {w0 : World} {φ : Phi} {H : VH} {w : World} (h : HSim w0 φ H w) {src dst e : TypeId} (hs : P.underlying src = some (.slice e)) (hd : P.underlying dst = some .string) {x : VV} {x' : Value} (hx : VR φ x x') :
    ROR φ w ((convert src dst x').run P w) (evConvS P H e x) := by
  unfold evConvS
  cases hu : P.underlying e with
  | none => trivial
  | some d => cases d with
    | int k => cases k with
      | u8 => cases x with
        | slice p n c => cases p with
          | none =>
            simp only [VR] at hx
            subst hx
            simp only [ROR]
            refine ⟨.string .empty, ?_, by simp [VR]⟩
            rw [run_convert_bytes_string w src dst e _ n c hs hu hd]
            rfl
          | some a =>
            simp only
            cases hl : hload H a n with
            | none => trivial
            | some l =>
              simp only
              cases hb : bytesOf l with
              | none => trivial
              | some b =>
                simp only [VR] at hx
                obtain ⟨a', s, ha, rfl⟩ := hx
                obtain ⟨vs, h1, h2, _, h4⟩ := hload_sound h ha hl
                have hvs := bytesOf_sound _ _ _ h1 hb
                simp only [ROR]
                refine ⟨.string ⟨⟨byteList b⟩⟩, ?_, by simp [VR]⟩
                rw [run_convert_bytes_string w src dst e _ n _ hs hu hd]
                have hrun := run_loadCells_list (P := P) w a' vs h4
                rw [h2, hvs] at hrun
                rw [run_bytesToString w a' n _ b hrun, foldl_byteList]
                rfl
        | _ => trivial
      | _ => cases x <;> trivial
    | _ => cases x <;> trivial
theorem evConv_sound [Ext] {P : Program} {w0 : World} {φ : Phi} {H : VH} {w : World} (h : HSim w0 φ H w) {src dst : TypeId} {x : VV} {x' : Value} (hx : VR φ x x') :
    ROR φ w ((convert src dst x').run P w) (evConv P H src dst x) := by
  unfold evConv
  cases hs : P.underlying src with
  | none => trivial
  | some sd => cases hd : P.underlying dst with
    | none => trivial
    | some d => cases d with
      | int k => cases x with
        | int k' n =>
          simp only [VR] at hx
          subst hx
          simp only [ROR]
          refine ⟨.int k (k.wrap n), ?_, by simp [VR]⟩
          simp [convert, run_underlying hs, run_underlying hd, Conv.intToInt]
        | sint k' i =>
          have hx0 := hx
          simp only [VR] at hx
          subst hx
          have hi := h.env.ivl i
          simp only
          split
          · rename_i g1 g2
            have g1 := of_decide_eq_true g1
            have g2 := of_decide_eq_true g2
            simp only [ROR]
            refine ⟨.int k (φ.ρ.int i), ?_, by simp [VR]⟩
            simp [convert, run_underlying hs, run_underlying hd, Conv.intToInt]
            exact wrap_in (Int.le_trans g1 hi.1) (Int.le_trans hi.2 g2)
          · cases hf : factFn (.conv k) [.sint k' i] H.base.tab with
            | none => trivial
            | some r =>
              obtain ⟨v, e1, e2⟩ := fn1 h.env hf hx0
              simp only [FOsem] at e2
              subst e2
              simp only [RO.of, ROR]
              refine ⟨.int k (k.wrap (φ.ρ.int i)), ?_, e1⟩
              simp [convert, run_underlying hs, run_underlying hd, Conv.intToInt]
        | _ => trivial
      | string =>
        have slc : ROR φ w ((convert src dst x').run P w) (convStr P H sd x) := by
          unfold convStr
          cases sd with
          | slice e => exact evConvS_sound h hs hd hx
          | _ => trivial
        cases x with
        | string s =>
          simp only [VR] at hx
          subst hx
          simp only [ROR]
          refine ⟨.string s, ?_, by simp [VR]⟩
          simp [convert, run_underlying hs, run_underlying hd]
        | _ => exact slc
      | unsafePointer => exact evUnsafe_sound h hs hd hx
      | pointer u => exact evSafe_sound h hs hd hx
      | _ => trivial

/-! ### len, min, max, extract, pick -/
def mapOf (H : VH) : VB → Option (List (VV × VV × Nat) × Nat)
  | .loc i => match H.locs.get i with
    | some (.map es c) => some (es, c)
    | _ => none
  | _ => none
/-- A length at symbols. -/
def symLen (H : VH) (str : Bool) (x : VV) : RO := match factLen str x H.base.tab with
  | some r => .val r
  | none => .bad
def mapUOf (H : VH) : VV → Option (List (VV × VV))
  | .map (some (.loc i)) => match H.locs.get i with
    | some (.mapU es) => some es
    | _ => none
  | _ => none
theorem EUs_length {φ : Phi} : ∀ (xs : List (VV × VV)) (es : List MapEntry), EUs φ xs es → xs.length = es.length
  | [], es, h => by simp only [EUs] at h; subst h; rfl
  | x :: xs, es, h => by
    simp only [EUs] at h
    obtain ⟨y, ys, rfl, _, _, h5⟩ := h
    simp [EUs_length xs ys h5]
theorem mapUOf_sound [Ext] {w0 : World} {φ : Phi} {H : VH} {w : World} (h : HSim w0 φ H w) {x : VV} {x' : Value} (hx : VR φ x x') {es : List (VV × VV)} (hm : mapUOf H x = some es) :
    ∃ r es' c l, x' = .map (some r) ∧ w.heap[r]? = some (.map ⟨es'⟩ c) ∧ List.Perm l es ∧ EUs φ l es' := by
  unfold mapUOf at hm
  split at hm
  · rename_i i
    split at hm
    · rename_i es0 hg
      simp only [Option.some.injEq] at hm
      subst hm
      obtain ⟨inf, o', h1, h2, ⟨es', c, l, rfl, h3, h4⟩, _⟩ := h.live i _ hg
      simp only [VR, BR] at hx
      obtain ⟨r, ⟨inf', h5, rfl⟩, rfl⟩ := hx
      rw [h1] at h5; cases h5
      exact ⟨inf.blk, es', c, l, rfl, h2, h3, h4⟩
    · cases hm
  · cases hm
/-- The length of a list that grew. -/
def lslLen (H : VH) (n m : Nat) : RO := match decide (0 ≤ (H.base.ivl n).1), decide ((H.base.ivl n).2 + (m : Int) ≤ 9223372036854775807) with
  | true, true => match m with
    | 0 => .val (.sint .i64 n)
    | m + 1 => RO.of (factBin .add (.sint .i64 n) (.int .i64 ((m + 1 : Nat) : Int)) H.base.tab)
  | _, _ => .bad
theorem lslLen_sound [Ext] {P : Program} {w0 : World} {φ : Phi} {H : VH} {w : World} (h : HSim w0 φ H w) {t e : TypeId} {ts : List TypeId} {ty : TypeId} (hu : P.underlying t = some (.slice e)) {b n m : Nat} {x' : Value} (hx : VR φ (.lsl b n m) x') :
    ROR φ w ((Builtin.len_ ⟨t :: ts⟩ ty #[x']).run P w) (lslLen H n m) := by
  simp only [VR] at hx
  obtain ⟨inf, _, rfl⟩ := hx
  have hi := h.env.ivl n
  unfold lslLen
  split
  · rename_i g1 g2
    have g1 := of_decide_eq_true g1
    have g2 := of_decide_eq_true g2
    have hr : (Builtin.len_ ⟨t :: ts⟩ ty #[.slice (some ⟨inf.blk, inf.off, none⟩) ((φ.ρ.int n).toNat + m) ((φ.ρ.int n).toNat + m + inf.slack)]).run P w = .ok (.int .i64 (((φ.ρ.int n).toNat + m : Nat) : Int)) w := by simp [Builtin.len_, run_underlying hu, goInt]
    cases m with
    | zero =>
      simp only [ROR]
      refine ⟨_, hr, ?_⟩
      simp only [VR]
      congr 1
      omega
    | succ m =>
      show ROR φ w _ (RO.of (factBin .add (.sint .i64 n) (.int .i64 ((m + 1 : Nat) : Int)) H.base.tab))
      cases hf : factBin .add (.sint .i64 n) (.int .i64 ((m + 1 : Nat) : Int)) H.base.tab with
      | none => trivial
      | some r =>
        obtain ⟨a, c, v, h1, h2, h3, _, _, h4⟩ := h.env.tab _ (factBin_mem hf)
        simp only [sval, Option.some.injEq] at h1 h2
        subst h1 h2
        refine ⟨_, hr, ?_⟩
        have hv : v = .int .i64 (((φ.ρ.int n).toNat + (m + 1) : Nat) : Int) := by
          have := h4 P 0 w
          have e : IntKind.i64.wrap (φ.ρ.int n + ((m + 1 : Nat) : Int)) = (((φ.ρ.int n).toNat + (m + 1) : Nat) : Int) := by
            rw [wrap_in (by simp [IntKind.min, IntKind.signed, IntKind.bits]; omega) (by simp [IntKind.max, IntKind.signed, IntKind.bits]; omega)]
            omega
          simp [binOp, Op.intArith] at this
          rw [← e]
          exact this.symm
        rw [← hv]
        exact VR_sval h3
  · trivial
def evLen (P : Program) (H : VH) (t : TypeId) (x : VV) : RO :=
  match P.underlying t with
  | some .string => match x with | .string s => .val (.int .i64 s.size) | .sym _ => symLen H true x | .cat ps => .val (.tlen ps) | _ => .bad
  | some (.array n _) => .val (.int .i64 n)
  | some (.pointer p) => match P.underlying p with | some (.array n _) => .val (.int .i64 n) | _ => .bad
  | some (.slice _) => match x with | .slice _ n _ => .val (.int .i64 n) | .sliceE => .val (.int .i64 0) | .sym _ => symLen H false x | .lsl _ n m => lslLen H n m | .tsl _ ps => .val (.tlen ps) | _ => .bad
  | some (.map _ _) => match x with
    | .map none => .val (.int .i64 0)
    | .map (some b) => match mapOf H b with
      | some (es, _) => .val (.int .i64 es.length)
      | none => match mapUOf H x with
        | some es => .val (.int .i64 es.length)
        | none => .bad
    | _ => .bad
  | _ => .bad
theorem ERs_length {φ : Phi} : ∀ (xs : List (VV × VV × Nat)) (es : List MapEntry), ERs φ xs es → xs.length = es.length
  | [], es, h => by simp only [ERs] at h; subst h; rfl
  | x :: xs, es, h => by
    simp only [ERs] at h
    obtain ⟨y, ys, rfl, _, _, _, h5⟩ := h
    simp [ERs_length xs ys h5]
theorem mapOf_sound [Ext] {w0 : World} {φ : Phi} {H : VH} {w : World} (h : HSim w0 φ H w) {b : VB} {r : Nat} (hb : BR φ b r) {es : List (VV × VV × Nat)} {c : Nat} (hm : mapOf H b = some (es, c)) :
    ∃ es', w.heap[r]? = some (.map ⟨es'⟩ c) ∧ ERs φ es es' := by
  cases b with
  | base r => simp [mapOf] at hm
  | sym r => simp [mapOf] at hm
  | loc i =>
    simp only [mapOf] at hm
    cases hg : H.locs.get i with
    | none => rw [hg] at hm; simp at hm
    | some o =>
      rw [hg] at hm
      cases o with
      | map es0 c0 =>
        simp only [Option.some.injEq, Prod.mk.injEq] at hm
        obtain ⟨rfl, rfl⟩ := hm
        obtain ⟨inf, o', h1, h2, ⟨es', rfl, h3⟩, _⟩ := h.live i _ hg
        simp only [BR] at hb
        obtain ⟨inf', h1', rfl⟩ := hb
        rw [h1] at h1'; cases h1'
        exact ⟨es', h2, h3⟩
      | _ => simp at hm
theorem run_getObj_map {P : Program} {w : World} {r : Nat} {es : Array MapEntry} {c : Nat} (h : w.heap[r]? = some (.map es c)) : (getObj r).run P w = .ok (.map es c) w := by
  simp [getObj, Sem.run, h]
theorem symLen_sound [Ext] {P : Program} {w0 : World} {φ : Phi} {H : VH} {w : World} (h : HSim w0 φ H w) {t : TypeId} {ts : List TypeId} {ty : TypeId} {str : Bool} (hu : match str with | true => P.underlying t = some .string | false => ∃ e, P.underlying t = some (.slice e)) {x : VV} {x' : Value} (hx : VR φ x x') :
    ROR φ w ((Builtin.len_ ⟨t :: ts⟩ ty #[x']).run P w) (symLen H str x) := by
  unfold symLen
  cases hf : factLen str x H.base.tab with
  | none => trivial
  | some r =>
    obtain ⟨v, n, h1, h2, h3⟩ := h.env.tab _ (factLen_mem hf)
    have e := sval_VR h1 hx
    subst e
    simp only [ROR]
    refine ⟨.int .i64 n, ?_, VR_sval h3⟩
    cases str with
    | true => obtain ⟨s, rfl, rfl⟩ := h2; simp [Builtin.len_, run_underlying hu, goInt]
    | false => obtain ⟨a, c, rfl⟩ := h2; obtain ⟨e, hu⟩ := hu; simp [Builtin.len_, run_underlying hu, goInt]
theorem evLen_sound [Ext] {P : Program} {w0 : World} {φ : Phi} {H : VH} {w : World} (h : HSim w0 φ H w) {t : TypeId} {ts : List TypeId} {ty : TypeId} {x : VV} {x' : Value} (hx : VR φ x x') :
    ROR φ w ((Builtin.len_ ⟨t :: ts⟩ ty #[x']).run P w) (evLen P H t x) := by
  unfold evLen
  cases hu : P.underlying t with
  | none => trivial
  | some d => cases d with
    | string => cases x with
      | string s => simp only [VR] at hx; subst hx; simp only [ROR]; exact ⟨.int .i64 s.size, by simp [Builtin.len_, run_underlying hu, goInt], by simp [VR]⟩
      | sym j => exact symLen_sound h (str := true) hu hx
      | cat ps =>
        simp only [VR] at hx
        obtain ⟨s, h1, rfl⟩ := hx
        simp only [ROR]
        exact ⟨.int .i64 s.size, by simp [Builtin.len_, run_underlying hu, goInt], by simp only [VR]; exact ⟨s, h1, rfl⟩⟩
      | _ => trivial
    | array n e => simp only [ROR]; exact ⟨.int .i64 n, by simp [Builtin.len_, run_underlying hu, goInt], by simp [VR]⟩
    | pointer p =>
      simp only
      cases hp : P.underlying p with
      | none => trivial
      | some d => cases d with
        | array n e => simp only [ROR]; exact ⟨.int .i64 n, by simp [Builtin.len_, run_underlying hu, run_underlying hp, goInt], by simp [VR]⟩
        | _ => trivial
    | slice e => cases x with
      | slice p n c =>
        simp only [ROR]
        refine ⟨.int .i64 n, ?_, by simp [VR]⟩
        cases p <;> simp only [VR] at hx <;> (first | subst hx | obtain ⟨_, _, _, rfl⟩ := hx) <;> simp [Builtin.len_, run_underlying hu, goInt]
      | sliceE =>
        simp only [VR] at hx
        obtain ⟨_, _, rfl⟩ := hx
        simp only [ROR]
        exact ⟨.int .i64 0, by simp [Builtin.len_, run_underlying hu, goInt], by simp [VR]⟩
      | sym j => exact symLen_sound h (str := false) ⟨e, hu⟩ hx
      | lsl b n m => exact lslLen_sound h hu hx
      | tsl b ps =>
        simp only [VR] at hx
        obtain ⟨inf, s, h0, h1, _, rfl⟩ := hx
        simp only [ROR]
        exact ⟨.int .i64 s.size, by simp [Builtin.len_, run_underlying hu, goInt], by simp only [VR]; exact ⟨s, h1, rfl⟩⟩
      | _ => trivial
    | map k e => cases x with
      | map b => cases b with
        | none => simp only [VR] at hx; subst hx; simp only [ROR]; exact ⟨.int .i64 0, by simp [Builtin.len_, run_underlying hu, goInt], by simp [VR]⟩
        | some b =>
          simp only
          cases hm : mapOf H b with
          | none =>
            simp only
            cases hmu : mapUOf H (.map (some b)) with
            | none => trivial
            | some es =>
              obtain ⟨r, es', c, l, rfl, hw, hp, he⟩ := mapUOf_sound h hx hmu
              simp only [ROR]
              refine ⟨.int .i64 es.length, ?_, by simp [VR]⟩
              simp [Builtin.len_, run_underlying hu, goInt, run_getObj_map hw, ← hp.length_eq, EUs_length _ _ he]
          | some ec =>
            obtain ⟨es, c⟩ := ec
            simp only [VR] at hx
            obtain ⟨r, hb, rfl⟩ := hx
            obtain ⟨es', hw, he⟩ := mapOf_sound h hb hm
            simp only [ROR]
            refine ⟨.int .i64 es.length, ?_, by simp [VR]⟩
            simp [Builtin.len_, run_underlying hu, goInt, run_getObj_map hw, ERs_length _ _ he]
      | _ => trivial
    | _ => trivial
/-- 'cap'. -/
def evCap (P : Program) (H : VH) (t : TypeId) (x : VV) : RO :=
  match P.underlying t, x with
  | some (.slice _), .slice none _ c => .val (.int .i64 c)
  | some (.slice _), .slice (some a) _ c => match fixedAt H a.b with
    | true => .val (.int .i64 c)
    | false => .bad
  | _, _ => .bad
theorem evCap_sound [Ext] {P : Program} {w0 : World} {φ : Phi} {H : VH} {w : World} (h : HSim w0 φ H w) {t : TypeId} {ts : List TypeId} {ty : TypeId} {x : VV} {x' : Value} (hx : VR φ x x') :
    ROR φ w ((Builtin.cap_ ⟨t :: ts⟩ ty #[x']).run P w) (evCap P H t x) := by
  unfold evCap
  cases hu : P.underlying t with
  | none => trivial
  | some d => cases d with
    | slice e => cases x with
      | slice a l c => cases a with
        | none =>
          simp only [VR] at hx
          subst hx
          simp only [ROR]
          exact ⟨.int .i64 c, by simp [Builtin.cap_, run_underlying hu, goInt], by simp [VR]⟩
        | some a =>
          simp only
          cases hf : fixedAt H a.b with
          | false => trivial
          | true =>
            simp only [VR] at hx
            obtain ⟨a', s, ha, rfl⟩ := hx
            have hs0 := fixedAt_sound h ha hf
            subst hs0
            simp only [ROR]
            exact ⟨.int .i64 c, by simp [Builtin.cap_, run_underlying hu, goInt], by simp [VR]⟩
      | _ => trivial
    | _ => cases x <;> trivial
def evMin0 (x y : VV) : RO := match x, y with | .int k a, .int _ b => .val (.int k (if b < a then b else a)) | _, _ => .bad
def evMax0 (x y : VV) : RO := match x, y with | .int k a, .int _ b => .val (.int k (if b > a then b else a)) | _, _ => .bad
theorem evMin0_sound {P : Program} {φ : Phi} {w : World} {ts : Array TypeId} {ty : TypeId} {x y : VV} {x' y' : Value} (hx : VR φ x x') (hy : VR φ y y') : ROR φ w ((Builtin.min_ ts ty #[x', y']).run P w) (evMin0 x y) := by
  unfold evMin0
  cases x <;> first
    | trivial
    | (cases y <;> first
        | trivial
        | (simp only [VR] at hx hy; subst hx; subst hy; simp only [ROR]; exact ⟨_, rfl, by simp [VR]⟩))
theorem evMax0_sound {P : Program} {φ : Phi} {w : World} {ts : Array TypeId} {ty : TypeId} {x y : VV} {x' y' : Value} (hx : VR φ x x') (hy : VR φ y y') : ROR φ w ((Builtin.max_ ts ty #[x', y']).run P w) (evMax0 x y) := by
  unfold evMax0
  cases x <;> first
    | trivial
    | (cases y <;> first
        | trivial
        | (simp only [VR] at hx hy; subst hx; subst hy; simp only [ROR]; exact ⟨_, rfl, by simp [VR]⟩))
def isInt : VV → Bool
  | .int _ _ => true
  | _ => false
def evMin (H : VH) (x y : VV) : RO := match isInt x, isInt y with
  | true, true => evMin0 x y
  | _, _ => match symLss H.base y x with
    | some true => .val y
    | some false => .val x
    | none => RO.of (factFn .min [x, y] H.base.tab)
def evMax (H : VH) (x y : VV) : RO := match isInt x, isInt y with
  | true, true => evMax0 x y
  | _, _ => match symLss H.base x y with
    | some true => .val y
    | some false => .val x
    | none => RO.of (factFn .max [x, y] H.base.tab)
theorem evMin_sound [Ext] {P : Program} {w0 : World} {φ : Phi} {H : VH} {w : World} (h : HSim w0 φ H w) {ts : Array TypeId} {ty : TypeId} {x y : VV} {x' y' : Value} (hx : VR φ x x') (hy : VR φ y y') : ROR φ w ((Builtin.min_ ts ty #[x', y']).run P w) (evMin H x y) := by
  unfold evMin
  split
  · exact evMin0_sound hx hy
  · split
    · rename_i hs
      obtain ⟨k, a, b, rfl, rfl, e⟩ := symLss_sound h.env hs hy hx
      have e' := of_decide_eq_true e.symm
      simp only [ROR]
      exact ⟨.int k (if a < b then a else b), rfl, by rw [if_pos e']; exact hy⟩
    · rename_i hs
      obtain ⟨k, a, b, rfl, rfl, e⟩ := symLss_sound h.env hs hy hx
      have e' := of_decide_eq_false e.symm
      simp only [ROR]
      exact ⟨.int k (if a < b then a else b), rfl, by rw [if_neg e']; exact hx⟩
    · cases hf : factFn .min [x, y] H.base.tab with
      | none => trivial
      | some r =>
        obtain ⟨v, e1, e2⟩ := fn2 h.env hf hx hy
        cases x' <;> try (simp [FOsem] at e2; done)
        cases y' <;> try (simp [FOsem] at e2; done)
        rename_i k a k' b
        simp only [FOsem] at e2
        subst e2
        simp only [RO.of, ROR]
        exact ⟨_, rfl, e1⟩
theorem evMax_sound [Ext] {P : Program} {w0 : World} {φ : Phi} {H : VH} {w : World} (h : HSim w0 φ H w) {ts : Array TypeId} {ty : TypeId} {x y : VV} {x' y' : Value} (hx : VR φ x x') (hy : VR φ y y') : ROR φ w ((Builtin.max_ ts ty #[x', y']).run P w) (evMax H x y) := by
  unfold evMax
  split
  · exact evMax0_sound hx hy
  · split
    · rename_i hs
      obtain ⟨k, a, b, rfl, rfl, e⟩ := symLss_sound h.env hs hx hy
      have e' := of_decide_eq_true e.symm
      simp only [ROR]
      exact ⟨.int k (if b > a then b else a), rfl, by rw [if_pos (show b > a from e')]; exact hy⟩
    · rename_i hs
      obtain ⟨k, a, b, rfl, rfl, e⟩ := symLss_sound h.env hs hx hy
      have e' := of_decide_eq_false e.symm
      simp only [ROR]
      exact ⟨.int k (if b > a then b else a), rfl, by rw [if_neg (show ¬ b > a from e')]; exact hx⟩
    · cases hf : factFn .max [x, y] H.base.tab with
      | none => trivial
      | some r =>
        obtain ⟨v, e1, e2⟩ := fn2 h.env hf hx hy
        cases x' <;> try (simp [FOsem] at e2; done)
        cases y' <;> try (simp [FOsem] at e2; done)
        rename_i k a k' b
        simp only [FOsem] at e2
        subst e2
        simp only [RO.of, ROR]
        exact ⟨_, rfl, e1⟩
def evExtract (x : VV) (i : Nat) : RO := match x with | .tuple vs => RO.of (lget vs i) | _ => .bad
theorem evExtract_sound {P : Program} {φ : Phi} {w : World} {x : VV} {x' : Value} (hx : VR φ x x') (i : Nat) : ROR φ w ((Instr.extract x' i).run P w) (evExtract x i) := by
  unfold evExtract
  cases x with
  | tuple vs =>
    simp only [VR] at hx
    obtain ⟨vs', hv, rfl⟩ := hx
    refine ROR_of fun v h => ?_
    rw [lget_eq] at h
    obtain ⟨v', h1, h2⟩ := VRs_get _ _ hv _ _ h
    exact ⟨v', by simp [Instr.extract, h1], h2⟩
  | _ => trivial

/-! ### maps: looking a key up -/
def keyEq (E : Env) (x y : VV) : Option Bool :=
  match x with
  | .int k a => match y with
    | .int k' b => match kEq k k' with | true => some (a == b) | false => none
    | .sint _ _ => symEql E x y
    | _ => none
  | .sint _ _ => symEql E x y
  | .string a => match y with
    | .string b => some (strEq a b)
    | _ => none
  | _ => none
def keyD : TypeDesc → VV → Bool
  | .int _, .int _ _ => true
  | .int _, .sint _ _ => true
  | .string, .string _ => true
  | _, _ => false
def findK (E : Env) (k : VV) : List (VV × VV × Nat) → Nat → Option (Option (Nat × VV))
  | [], _ => some none
  | e :: es, i => match keyEq E k e.1 with
    | some true => some (some (i, e.2.1))
    | some false => findK E k es (i + 1)
    | none => none
theorem sameNow_of [Ext] {E : Env} {w0 : World} {φ : Phi} (he : EnvOK E φ w0) {d : TypeDesc} {x y : VV} {x' y' : Value} {r : Bool} (hd : keyD d x = true) (h : keyEq E x y = some r) (hx : VR φ x x') (hy : VR φ y y') : Instr.sameNow d x' y' = some r := by
  cases x with
  | int k a =>
    cases d <;> simp [keyD] at hd
    cases y with
    | int k' b =>
      simp only [keyEq] at h
      cases hk : kEq k k' with
      | false => rw [hk] at h; cases h
      | true =>
        rw [hk] at h
        simp only [Option.some.injEq] at h
        have e : k = k' := of_decide_eq_true hk
        simp only [VR] at hx hy; subst hx; subst hy; subst h
        simp [Instr.sameNow, e]
    | sint k' j =>
      obtain ⟨k, u, v, rfl, rfl, rfl⟩ := symEql_sound he (by simpa only [keyEq] using h) hx hy
      simp [Instr.sameNow]
    | _ => simp [keyEq] at h
  | sint k j =>
    cases d <;> simp [keyD] at hd
    obtain ⟨k, u, v, rfl, rfl, rfl⟩ := symEql_sound he (by simpa only [keyEq] using h) hx hy
    simp [Instr.sameNow]
  | string a =>
    cases d <;> simp [keyD] at hd
    cases y with
    | string b =>
      simp only [keyEq, Option.some.injEq] at h
      simp only [VR] at hx hy; subst hx; subst hy; subst h
      simp [Instr.sameNow, strEq_eq, beq_toListBytes]
    | _ => simp [keyEq] at h
  | _ => simp [keyEq] at h
theorem findK_sound [Ext] {E : Env} {w0 : World} {φ : Phi} (he : EnvOK E φ w0) {d : TypeDesc} {k : VV} {k' : Value} (hd : keyD d k = true) (hk : VR φ k k') : ∀ (xs : List (VV × VV × Nat)) (es : List MapEntry) (i : Nat) (r : Option (Nat × VV)), ERs φ xs es → findK E k xs i = some r →
    ∃ r', Instr.findNow d k' es i = some r' ∧ (match r with | none => r' = none | some (j, v) => ∃ v', r' = some (j, v') ∧ VR φ v v')
  | [], es, i, r, h, hf => by
    simp only [ERs] at h; subst h
    simp only [findK, Option.some.injEq] at hf; subst hf
    exact ⟨none, rfl, rfl⟩
  | x :: xs, es, i, r, h, hf => by
    simp only [ERs] at h
    obtain ⟨y, ys, rfl, h1, h2, _, h5⟩ := h
    simp only [findK] at hf
    cases hq : keyEq E k x.1 with
    | none => rw [hq] at hf; cases hf
    | some q =>
      rw [hq] at hf
      have hs := sameNow_of he hd hq hk h1
      cases q with
      | true =>
        simp only [Option.some.injEq] at hf
        subst hf
        exact ⟨some (i, y.val), by simp [Instr.findNow, hs], y.val, rfl, h2⟩
      | false =>
        obtain ⟨r', k1, k2⟩ := findK_sound he hd hk xs ys (i + 1) r h5 hf
        exact ⟨r', by simp [Instr.findNow, hs, k1], k2⟩
theorem run_checkKey {P : Program} {w : World} {φ : Phi} {t : TypeId} {d : TypeDesc} {k : VV} {k' : Value} (hu : P.underlying t = some d) (hd : keyD d k = true) (hk : VR φ k k') (e : Bool) (n : Nat) : (Instr.checkKey e (n + 1) t k').run P w = .ok () w := by
  cases k with
  | int kk a =>
    cases d <;> simp [keyD] at hd
    simp only [VR] at hk; subst hk
    simp [Instr.checkKey, run_underlying hu]
  | sint kk a =>
    cases d <;> simp [keyD] at hd
    simp only [VR] at hk; subst hk
    simp [Instr.checkKey, run_underlying hu]
  | string s =>
    cases d <;> simp [keyD] at hd
    simp only [VR] at hk; subst hk
    simp [Instr.checkKey, run_underlying hu]
  | _ => cases d <;> simp [keyD] at hd
def evLookup (P : Program) (H : VH) (t : TypeId) (x k : VV) (ok : Bool) : RO :=
  match P.underlying t with
  | some (.map kt et) => match P.underlying kt with
    | some kd => match keyD kd k with
      | false => .bad
      | true => match (match x with
          | .map none => some ([], 0)
          | .map (some b) => mapOf H b
          | _ => none) with
        | none => .bad
        | some (es, _) => match findK H.base k es 0 with
          | none => .bad
          | some (some (_, v)) => .val (match ok with | true => .tuple [v, .bool true] | false => v)
          | some none => match tzero P et with
            | none => .bad
            | some z => .val (match ok with | true => .tuple [z, .bool false] | false => z)
    | none => .bad
  | _ => .bad
theorem evLookup_sound [Ext] {P : Program} {w0 : World} {φ : Phi} {H : VH} {w : World} (h : HSim w0 φ H w) {t : TypeId} {x k : VV} {x' k' : Value} (hx : VR φ x x') (hk : VR φ k k') (ok : Bool) :
    ROR φ w ((Instr.lookup t x' k' ok).run P w) (evLookup P H t x k ok) := by
  unfold evLookup
  cases hu : P.underlying t with
  | none => trivial
  | some d => cases d with
    | map kt et =>
      simp only
      cases hkt : P.underlying kt with
      | none => trivial
      | some kd =>
        simp only
        cases hkd : keyD kd k with
        | false => trivial
        | true =>
          simp only
          have fin : ∀ (es : List (VV × VV × Nat)) (es' : List MapEntry), ERs φ es es' → (((Instr.lookup t x' k' ok).run P w = ((do
                Instr.checkKey (⟨es'⟩ : Array MapEntry).isEmpty 10000 kt k'
                let (v, ok') ← match ← Instr.findKey kt k' es' with
                  | some (_, v) => pure (v, true)
                  | none => pure (← zeroValue et, false)
                pure (if ok then .tuple #[v, .bool ok'] else v) : Sem Value).run P w))) →
              ROR φ w ((Instr.lookup t x' k' ok).run P w) (match findK H.base k es 0 with
                | none => .bad
                | some (some (_, v)) => .val (match ok with | true => .tuple [v, .bool true] | false => v)
                | some none => match tzero P et with
                  | none => .bad
                  | some z => .val (match ok with | true => .tuple [z, .bool false] | false => z)) := by
            intro es es' hes hrun
            rw [hrun]
            cases hf : findK H.base k es 0 with
            | none => trivial
            | some r =>
              obtain ⟨r', k1, k2⟩ := findK_sound h.env hkd hk es es' 0 r hes hf
              have hck : ∀ e : Bool, (Instr.checkKey e 10000 kt k').run P w = .ok () w := fun e => run_checkKey (P := P) (w := w) hkt hkd hk e 9999
              have hfk : (Instr.findKey kt k' es').run P w = .ok r' w := by simp [Instr.findKey, run_underlying hkt, k1]
              cases r with
              | some jv =>
                obtain ⟨j, v⟩ := jv
                simp only at k2
                obtain ⟨v', rfl, k3⟩ := k2
                simp only [ROR]
                cases ok with
                | true => exact ⟨.tuple #[v', .bool true], by simp [hck, hfk], by simp only [VR, VRs]; exact ⟨[v', .bool true], ⟨v', _, rfl, k3, .bool true, [], rfl, rfl, rfl⟩, rfl⟩⟩
                | false => exact ⟨v', by simp [hck, hfk], k3⟩
              | none =>
                simp only at k2
                subst k2
                simp only
                cases hz : tzero P et with
                | none => trivial
                | some z =>
                  obtain ⟨z', z1, z2⟩ := run_zero' (P := P) (w := w) hz φ
                  simp only [ROR]
                  cases ok with
                  | true => exact ⟨.tuple #[z', .bool false], by simp [hck, hfk, z1], by simp only [VR, VRs]; exact ⟨[z', .bool false], ⟨z', _, rfl, z2, .bool false, [], rfl, rfl, rfl⟩, rfl⟩⟩
                  | false => exact ⟨z', by simp [hck, hfk, z1], z2⟩
          cases x with
          | map b => cases b with
            | none =>
              simp only [VR] at hx
              subst hx
              refine fin [] [] rfl ?_
              simp [Instr.lookup, run_underlying hu]
              rfl
            | some b =>
              simp only
              cases hm : mapOf H b with
              | none => trivial
              | some ec =>
                obtain ⟨es, c⟩ := ec
                simp only [VR] at hx
                obtain ⟨r, hb, rfl⟩ := hx
                obtain ⟨es', hw, he⟩ := mapOf_sound h hb hm
                refine fin es es' he ?_
                simp [Instr.lookup, run_underlying hu, run_getObj_map hw]
                rfl
          | _ => trivial
    | _ => trivial
/-! ### maps whose entries stand in an open order -/
/-- The one entry of a key, if there is one; none else has it. -/
def findU (E : Env) (k : VV) : List (VV × VV) → Option (Option VV)
  | [] => some none
  | e :: es => match keyEq E k e.1 with
    | some true => match findU E k es with
      | some none => some (some e.2)
      | _ => none
    | some false => findU E k es
    | none => none
theorem findU_spec {E : Env} {k : VV} : ∀ (es : List (VV × VV)) (r : Option VV), findU E k es = some r →
    (∀ e ∈ es, ∃ b, keyEq E k e.1 = some b) ∧ (es.filter fun e => keyEq E k e.1 == some true).map (·.2) = r.toList
  | [], r, h => by simp only [findU, Option.some.injEq] at h; subst h; exact ⟨by simp, rfl⟩
  | e :: es, r, h => by
    simp only [findU] at h
    cases hq : keyEq E k e.1 with
    | none => rw [hq] at h; cases h
    | some b =>
      rw [hq] at h
      cases b with
      | true =>
        simp only at h
        cases hf : findU E k es with
        | none => rw [hf] at h; cases h
        | some r' =>
          rw [hf] at h
          cases r' with
          | some _ => cases h
          | none =>
            simp only [Option.some.injEq] at h
            subst h
            obtain ⟨h1, h2⟩ := findU_spec es none hf
            refine ⟨?_, ?_⟩
            · intro x hx
              rcases List.mem_cons.1 hx with rfl | hx
              · exact ⟨true, hq⟩
              · exact h1 x hx
            · simp only [List.filter_cons, hq, beq_self_eq_true, if_true, List.map_cons, h2]
              rfl
      | false =>
        simp only at h
        obtain ⟨h1, h2⟩ := findU_spec es r h
        refine ⟨?_, ?_⟩
        · intro x hx
          rcases List.mem_cons.1 hx with rfl | hx
          · exact ⟨false, hq⟩
          · exact h1 x hx
        · simp only [List.filter_cons, hq]
          simpa using h2
theorem findNowU [Ext] {E : Env} {w0 : World} {φ : Phi} (he : EnvOK E φ w0) {d : TypeDesc} {k : VV} {k' : Value} (hd : keyD d k = true) (hk : VR φ k k') : ∀ (l : List (VV × VV)) (es : List MapEntry) (i : Nat), EUs φ l es → (∀ e ∈ l, ∃ b, keyEq E k e.1 = some b) →
    ∃ r', Instr.findNow d k' es i = some r' ∧ (match (l.filter fun e => keyEq E k e.1 == some true) with
      | [] => r' = none
      | e :: _ => ∃ j v', r' = some (j, v') ∧ VR φ e.2 v')
  | [], es, i, h, _ => by simp only [EUs] at h; subst h; exact ⟨none, rfl, rfl⟩
  | e :: l, es, i, h, hq => by
    simp only [EUs] at h
    obtain ⟨y, ys, rfl, h1, h2, h5⟩ := h
    obtain ⟨b, hb⟩ := hq e (by simp)
    have hs := sameNow_of he hd hb hk h1
    cases b with
    | true =>
      refine ⟨some (i, y.val), by simp [Instr.findNow, hs], ?_⟩
      simp only [List.filter_cons, hb, beq_self_eq_true, if_true]
      exact ⟨i, y.val, rfl, h2⟩
    | false =>
      obtain ⟨r', k1, k2⟩ := findNowU he hd hk l ys (i + 1) h5 fun e he => hq e (by simp [he])
      refine ⟨r', by simp [Instr.findNow, hs, k1], ?_⟩
      simp only [List.filter_cons, hb]
      simpa using k2
def evLookupU (P : Program) (H : VH) (t : TypeId) (es : List (VV × VV)) (k : VV) (ok : Bool) : RO :=
  match P.underlying t with
  | some (.map kt et) => match P.underlying kt with
    | some kd => match keyD kd k with
      | false => .bad
      | true => match findU H.base k es with
        | none => .bad
        | some (some v) => .val (match ok with | true => .tuple [v, .bool true] | false => v)
        | some none => match tzero P et with
          | none => .bad
          | some z => .val (match ok with | true => .tuple [z, .bool false] | false => z)
    | none => .bad
  | _ => .bad
theorem evLookupU_sound [Ext] {P : Program} {w0 : World} {φ : Phi} {H : VH} {w : World} (h : HSim w0 φ H w) {t : TypeId} {x k : VV} {x' k' : Value} (hx : VR φ x x') {es : List (VV × VV)} (hm : mapUOf H x = some es) (hk : VR φ k k') (ok : Bool) :
    ROR φ w ((Instr.lookup t x' k' ok).run P w) (evLookupU P H t es k ok) := by
  unfold evLookupU
  cases hu : P.underlying t with
  | none => trivial
  | some d => cases d with
    | map kt et =>
      simp only
      cases hkt : P.underlying kt with
      | none => trivial
      | some kd =>
        simp only
        cases hkd : keyD kd k with
        | false => trivial
        | true =>
          simp only
          obtain ⟨r, es', c, l, rfl, hw, hp, he⟩ := mapUOf_sound h hx hm
          have hck : ∀ e : Bool, (Instr.checkKey e 10000 kt k').run P w = .ok () w := fun e => run_checkKey (P := P) (w := w) hkt hkd hk e 9999
          cases hf : findU H.base k es with
          | none => trivial
          | some rr =>
            obtain ⟨f1, f2⟩ := findU_spec es rr hf
            obtain ⟨r', k1, k2⟩ := findNowU h.env hkd hk l es' 0 he fun e hel => f1 e (hp.mem_iff.1 hel)
            have hfp : (l.filter fun e => keyEq H.base k e.1 == some true).map (·.2) = rr.toList := by
              have hpp := (hp.filter fun e => keyEq H.base k e.1 == some true).map (·.2)
              rw [f2] at hpp
              cases rr with
              | none => exact List.Perm.eq_nil hpp
              | some v => exact List.perm_singleton.1 hpp
            have hfk : (Instr.findKey kt k' es').run P w = .ok r' w := by simp [Instr.findKey, run_underlying hkt, k1]
            have hrun : (Instr.lookup t (.map (some r)) k' ok).run P w = ((do
                Instr.checkKey (⟨es'⟩ : Array MapEntry).isEmpty 10000 kt k'
                let (v, ok') ← match ← Instr.findKey kt k' es' with
                  | some (_, v) => pure (v, true)
                  | none => pure (← zeroValue et, false)
                pure (if ok then .tuple #[v, .bool ok'] else v) : Sem Value).run P w) := by
              simp only [Instr.lookup, Sem.run_bind, run_underlying hu, Result.andThen_ok, run_getObj_map hw]
              rfl
            rw [hrun]
            cases rr with
            | some v =>
              simp only
              cases hl : (l.filter fun e => keyEq H.base k e.1 == some true) with
              | nil => rw [hl] at hfp; cases hfp
              | cons e rest =>
                rw [hl] at hfp k2
                simp only at k2
                obtain ⟨j, v', rfl, k3⟩ := k2
                have ev : e.2 = v := by simp only [List.map_cons, Option.toList, List.cons.injEq] at hfp; exact hfp.1
                rw [ev] at k3
                simp only [ROR]
                cases ok with
                | true => exact ⟨.tuple #[v', .bool true], by simp [hck, hfk], by simp only [VR, VRs]; exact ⟨[v', .bool true], ⟨v', _, rfl, k3, .bool true, [], rfl, rfl, rfl⟩, rfl⟩⟩
                | false => exact ⟨v', by simp [hck, hfk], k3⟩
            | none =>
              simp only
              have hl : (l.filter fun e => keyEq H.base k e.1 == some true) = [] := by simpa using hfp
              rw [hl] at k2
              simp only at k2
              subst k2
              cases hz : tzero P et with
              | none => trivial
              | some z =>
                obtain ⟨z', z1, z2⟩ := run_zero' (P := P) (w := w) hz φ
                simp only [ROR]
                cases ok with
                | true => exact ⟨.tuple #[z', .bool false], by simp [hck, hfk, z1], by simp only [VR, VRs]; exact ⟨[z', .bool false], ⟨z', _, rfl, z2, .bool false, [], rfl, rfl, rfl⟩, rfl⟩⟩
                | false => exact ⟨z', by simp [hck, hfk, z1], z2⟩
    | _ => trivial
end
end Go.Ev
