/-
  DeleteFunc, walked.
-/
import Derived.Test.YtgbhmkdldfhamaaTxD
import Derived.Lib.SliceRun
namespace Go.Proofs.Ytgbhmkdldfhamaa.charsOf
open Go.Shelf Go.RowKit Go.Lib Go.Sort
theorem setMany_set {dk : Array Ef} {i : Nat} (v : Ef) (hi : i < dk.size) : setMany (flatK encE 4 dk) (i * 4) (encE v) = flatK encE 4 (dk.setIfInBounds i v) := by
  refine ext_get! (by simp) fun t ht => ?_
  have ht' : t < dk.size * 4 := by simpa using ht
  rw [get_setMany _ _ _ t (by simpa using ht'), get_flatK _ _ _ t ht', get_flatK _ _ _ t (by simpa using ht'), encE_len]
  by_cases a : t / 4 = i
  · rw [if_pos (by omega), show t - i * 4 = t % 4 by omega]
    simp [a, hi]
  · rw [if_neg (by omega)]
    have h4 : t / 4 < dk.size := by omega
    simp [h4, Ne.symm a]
theorem swk_set {w W : World} {blk off : Nat} {dk : Array Ef} (h : SWK encE 4 w blk off dk W) (hblk : blk < w.heap.size) {i : Nat} (v : Ef) (hi : i < dk.size) : SWK encE 4 w blk off (dk.setIfInBounds i v) (W.setCells blk (off + i * 4) (encE v)) := by
  obtain ⟨n, os, rfl⟩ := h
  refine ⟨n, os, ?_⟩
  unfold sortWorldK putRowK
  rw [setCells_grow os blk _ _ _ (by unfold putRow mapBlock; simpa using hblk), setCells_putRow _ _ _ _ _ _ (by rw [encE_len, size_flatK]; omega), setMany_set v hi]
theorem swk_below {w W : World} {blk off : Nat} {dk : Array Ef} (h : SWK encE 4 w blk off dk W) (hblk : blk < w.heap.size) : Below blk w W := by
  obtain ⟨n, os, rfl⟩ := h
  unfold sortWorldK putRowK putRow mapBlock grow Sort.ahead
  refine ⟨rfl, rfl, rfl, by simp, fun k hk => ?_⟩
  simp only
  rw [Array.getElem?_append_left (by simp; omega), Array.getElem?_modify, if_neg (by omega)]
theorem set_get {dk : Array Ef} {i : Nat} {v : Ef} (hi : i < dk.size) (x : Nat) : (dk.setIfInBounds i v)[x]! = if x = i then v else dk[x]! := by
  by_cases h : x = i
  · subst h
    rw [if_pos rfl]
    simp [hi]
  · rw [if_neg h]
    by_cases k : x < dk.size
    · rw [getElem!_pos _ x (by simpa using k), getElem!_pos _ x k, Array.getElem_setIfInBounds, if_neg (Ne.symm h)]
    · rw [getElem!_neg _ x (by simpa using k), getElem!_neg _ x k]
/-- What has a layer. -/
def hasL (x : Ef) : Bool := !decide (lyr x.1 = 0)
/-- The first i hold what is kept of the first j; from j on all is as it was. -/
structure Kp (d dk : Array Ef) (i j : Nat) : Prop where
  sz : dk.size = d.size
  le : i ≤ j
  jd : j ≤ d.size
  lo : seg dk 0 i = (seg d 0 j).filter hasL
  hi : ∀ x, j ≤ x → dk[x]! = d[x]!
theorem seg_snoc (d : Array Ef) (j : Nat) : seg d 0 (j + 1) = seg d 0 j ++ [d[j]!] := by
  rw [seg_split d (Nat.zero_le j) (Nat.le_succ j)]
  simp [seg]
theorem Kp.skip {d dk : Array Ef} {i j : Nat} (h : Kp d dk i j) (hj : j < d.size) (hl : hasL d[j]! = false) : Kp d dk i (j + 1) :=
  ⟨h.sz, by have := h.le; omega, hj, by rw [seg_snoc, List.filter_append, h.lo]; simp [hl], fun x hx => h.hi x (by omega)⟩
theorem Kp.keep {d dk : Array Ef} {i j : Nat} (h : Kp d dk i j) (hj : j < d.size) (hl : hasL d[j]! = true) : Kp d (dk.setIfInBounds i d[j]!) (i + 1) (j + 1) := by
  have hi : i < dk.size := by have := h.le; have := h.sz; omega
  refine ⟨by simpa using h.sz, by have := h.le; omega, hj, ?_, fun x hx => ?_⟩
  · rw [seg_snoc, seg_snoc, List.filter_append, ← h.lo, set_get hi, if_pos rfl]
    rw [seg_same (d := dk) (d' := dk.setIfInBounds i d[j]!) (a := 0) (b := i) fun x _ hx => by rw [set_get hi, if_neg (by omega)]]
    simp [hl]
  · rw [set_get hi, if_neg (by have := h.le; omega)]
    exact h.hi x (by omega)
theorem Kp.start {d : Array Ef} {k : Nat} (hk : k < d.size) (hl : lyr d[k]!.1 = 0) (ha : ∀ j, j < k → lyr d[j]!.1 ≠ 0) : Kp d d k (k + 1) := by
  refine ⟨rfl, Nat.le_succ _, hk, ?_, fun _ _ => rfl⟩
  rw [seg_snoc, List.filter_append, List.filter_eq_self.2 fun x hx => ?_]
  · simp [hasL, hl]
  · obtain ⟨i, _, h2, rfl⟩ := mem_seg.1 hx
    simp [hasL, ha i h2]
theorem zeros (n : Nat) : (Builtin.zeroCells (Value.agg #[.int .i64 0, .int .i64 0, .int .i64 0, .int .i64 0]).cells n).toList = List.replicate (n * 4) (.int .i64 0) := by
  apply List.ext_getElem
  · simp [Builtin.zeroCells, Value.cells]
  · intro i h1 h2
    have hm : i % 4 < 4 := Nat.mod_lt _ (by omega)
    simp only [Builtin.zeroCells, Value.cells, Array.toList_map, List.getElem_map, List.getElem_replicate, Array.toList_range, List.getElem_range]
    have : i % 4 = 0 ∨ i % 4 = 1 ∨ i % 4 = 2 ∨ i % 4 = 3 := by omega
    show (#[Value.int IntKind.i64 0, Value.int IntKind.i64 0, Value.int IntKind.i64 0, Value.int IntKind.i64 0] : Array Value)[i % 4]! = _
    rcases this with h | h | h | h <;> rw [h] <;> rfl
theorem clear_run (W : World) (ty : TypeId) {blk off : Nat} {dk : Array Ef} (hH : HoldsK encE 4 W blk off dk) {i n : Nat} (hn : 0 < n) (hi : i + n = dk.size) (c : Nat) :
    Sem.run Try.prog (Builtin.clear_ #[71] ty #[.slice (some ⟨blk, off + i * 4, none⟩) n c]) W = .ok (.tuple #[]) (W.setCells blk (off + i * 4) (List.replicate (n * 4) (.int .i64 0))) := by
  have hst := stores_of_holds Try.prog (h := (hH : Holds id W blk off (flatK encE 4 dk))) (i * 4) (List.replicate (n * 4) (.int .i64 0)) (by rw [List.length_replicate, size_flatK]; omega) (by intro v hv; rw [List.eq_of_mem_replicate hv]; rfl)
  obtain ⟨m, rfl⟩ : ∃ m, n = m + 1 := ⟨n - 1, by omega⟩
  have hz := zeros (m + 1)
  simp [Builtin.clear_, run_underlying Try.underlying71, Try.zeroValue58, hz, hst]
theorem below_sets {B b : Nat} (hb : B ≤ b) {w : World} : ∀ (vs : List Value) (o : Nat) {W : World}, Below B w W → Below B w (W.setCells b o vs)
  | [], _, _, h => h
  | v :: vs, o, W, h => by
    rw [World.setCells]
    exact below_sets hb vs (o + 1) (h.setCell (p := ⟨b, o, none⟩) hb v)
structure Aft (w : World) (blk off : Nat) (dk : Array Ef) (wr w1 : World) (x0 x1 x2 x3 : Int) (i : Nat) : Prop where
  s : SWK encE 4 w blk off dk w1
  b0 : w1.cell? ⟨wr.heap.size, 0, none⟩ = some (.int .i64 x0)
  b1 : w1.cell? ⟨wr.heap.size, 1, none⟩ = some (.int .i64 x1)
  b2 : w1.cell? ⟨wr.heap.size, 2, none⟩ = some (.int .i64 x2)
  b3 : w1.cell? ⟨wr.heap.size, 3, none⟩ = some (.int .i64 x3)
  o0 : w1.cell? ⟨blk, off + i * 4, none⟩ = some (.int .i64 dk[i]!.1) ∧ w1.frozen? ⟨blk, off + i * 4, none⟩ = false
  o1 : w1.cell? ⟨blk, off + i * 4 + 1, none⟩ = some (.int .i64 dk[i]!.2.1) ∧ w1.frozen? ⟨blk, off + i * 4 + 1, none⟩ = false
  o2 : w1.cell? ⟨blk, off + i * 4 + 2, none⟩ = some (.int .i64 dk[i]!.2.2.1) ∧ w1.frozen? ⟨blk, off + i * 4 + 2, none⟩ = false
  o3 : w1.cell? ⟨blk, off + i * 4 + 3, none⟩ = some (.int .i64 dk[i]!.2.2.2) ∧ w1.frozen? ⟨blk, off + i * 4 + 3, none⟩ = false
theorem aft {w wr w1 : World} {blk off : Nat} {d0 dk : Array Ef} {x0 x1 x2 x3 : Int} {i : Nat} (S : SWK encE 4 w blk off dk wr) (hblk : blk < w.heap.size) (hH : HoldsK encE 4 w blk off d0) (hs : dk.size = d0.size) (hi : i < dk.size) (hG : Gr (wr.alloc (.cells #[.int .i64 x0, .int .i64 x1, .int .i64 x2, .int .i64 x3] 58)) w1) : Aft w blk off dk wr w1 x0 x1 x2 x3 i := by
  have S1 : SWK encE 4 w blk off dk w1 := by
    obtain ⟨q, os, rfl⟩ := hG
    exact (S.alloc _).grown q os
  have hh := S1.holds hblk hH hs
  have o := fun c hc => HoldsK.cell hh hi (c := c) hc
  refine ⟨S1, ?_, ?_, ?_, ?_, o 0 (by omega), o 1 (by omega), o 2 (by omega), o 3 (by omega)⟩
  all_goals
    rw [hG.cell (by simp)]
    simp
theorem cut_row {W : World} {blk off : Nat} {dk : Array Ef} (hH : HoldsK encE 4 W blk off dk) {i : Nat} (hi : i ≤ dk.size) (vs : List Value) : (dk.extract 0 i).toList = seg dk 0 i ∧ (dk.extract 0 i).size = i ∧ HoldsK encE 4 (W.setCells blk (off + i * 4) vs) blk off (dk.extract 0 i) := by
  have hs : (dk.extract 0 i).size = i := by simp; omega
  have hg : ∀ x, x < i → (dk.extract 0 i)[x]! = dk[x]! := fun x hx => by
    rw [getElem!_pos _ x (by omega), getElem!_pos dk x (by omega)]
    simp
  refine ⟨?_, hs, fun j hj => ?_⟩
  · rw [← seg_all, hs]
    exact seg_same fun x _ hx => hg x hx
  · rw [size_flatK, hs] at hj
    have h := hH j (by rw [size_flatK]; omega)
    rw [World.cell?_setCells_out blk _ _ _ _ (fun _ _ => .inl (by show off + j < off + i * 4; omega)), World.frozen?_setCells]
    rw [get_flatK _ _ _ _ (by omega)] at h ⊢
    · rw [hg _ (by omega)]
      exact h
set_option maxHeartbeats 8000000 in
set_option maxRecDepth 100000 in
theorem del_calls (blk off cap : Nat) (d : Array Ef) (w : World) (hH : HoldsK encE 4 w blk off d) (hblk : blk < w.heap.size) (hsz : d.size < 2305843009213693952) (hcap : d.size ≤ cap) :
    Calls Try.prog 27 #[.slice (some ⟨blk, off, none⟩) d.size cap, .func (.func 28) #[] #[]] w fun e w' => ∃ k : Array Ef, k.toList = d.toList.filter hasL ∧ e = .returned (.slice (some ⟨blk, off, none⟩) k.size cap) ∧ Below blk w w' ∧ HoldsK encE 4 w' blk off k := by
  have hc := idx_calls blk off cap d w hH hblk hsz
  have HH : Aside _ := hH
  clear hH
  go_enter Try.func27, Try.ntmps27
  go_wp2_with (go_at_call 42; refine hc.mono ?_; rintro e w1 ⟨S1, ⟨rfl, hn⟩ | ⟨k, rfl, hk, hl, hn⟩⟩)
  · go_returns
    refine ⟨d, ?_, rfl, swk_below S1 hblk, S1.holds hblk HH.out rfl⟩
    rw [← seg_all, List.filter_eq_self.2 fun x hx => ?_]
    obtain ⟨i, _, h2, rfl⟩ := mem_seg.1 hx
    simp [hasL, hn i h2]
  · have hne1 : ((k : Int) == -1) = false := beq_eq_false_iff_ne.2 (by omega)
    have S0 : Aside (SWK encE 4 w blk off d w1) := S1
    have HK : Hid (Kp d d k (k + 1)) := .start hk hl hn
    clear S1 hl hn hc
    go_wp2
    go_loopg [5, 6] d.size (fun kx s5 s6 wr => ∃ (i j : Nat) (dk : Array Ef), s5 = .int .i64 i ∧ s6 = .int .i64 j ∧ i < j ∧ j ≤ d.size ∧ d.size - j ≤ kx ∧ dk.size = d.size ∧ Aside (SWK encE 4 w blk off dk wr) ∧ Hid (Kp d dk i j))
    case atStart => exact ⟨k, k + 1, d, rfl, by go_num, Nat.lt_succ_self _, hk, by omega, rfl, S0, HK⟩
    case round =>
      clear S0 HK
      obtain ⟨i, j, dk, rfl, rfl, hij, hjd, hkx, hds, S1, HK⟩ := hrel
      have wi : IntKind.i64.wrap ((i : Int) + 1) = (i : Int) + 1 := by rw [IntKind.wrap_i64]; omega
      have wj : IntKind.i64.wrap ((j : Int) + 1) = (j : Int) + 1 := by rw [IntKind.wrap_i64]; omega
      by_cases hlt : j < d.size
      · have hltz : (j : Int) < (d.size : Int) := by omega
        have hiz : (i : Int) < (d.size : Int) := by omega
        obtain ⟨c0, c1, c2, c3⟩ := cells4 (S1.out.holds hblk HH.out hds) (show j < dk.size by omega)
        rw [HK.out.hi j (Nat.le_refl _)] at c0 c1 c2 c3
        have hn := nol_calls d[j]! (wr.alloc (.cells #[.int .i64 d[j]!.1, .int .i64 d[j]!.2.1, .int .i64 d[j]!.2.2.1, .int .i64 d[j]!.2.2.2] 58))
        obtain ⟨bb, hb⟩ : ∃ bb, decide (lyr d[j]!.1 = 0) = bb := ⟨_, rfl⟩
        rw [hb] at hn
        have HL : Hid (hasL d[j]! = !bb) := by rw [← hb]; rfl
        obtain ⟨x0, hx0⟩ : ∃ x, x = d[j]!.1 := ⟨_, rfl⟩
        obtain ⟨x1, hx1⟩ : ∃ x, x = d[j]!.2.1 := ⟨_, rfl⟩
        obtain ⟨x2, hx2⟩ : ∃ x, x = d[j]!.2.2.1 := ⟨_, rfl⟩
        obtain ⟨x3, hx3⟩ : ∃ x, x = d[j]!.2.2.2 := ⟨_, rfl⟩
        rw [← hx0] at c0 hn
        rw [← hx1] at c1 hn
        rw [← hx2] at c2 hn
        rw [← hx3] at c3 hn
        have HX : Hid (d[j]! = (x0, x1, x2, x3)) := by rw [hx0, hx1, hx2, hx3]; rfl
        clear hb hx0 hx1 hx2 hx3
        cases bb with
        | true =>
          go_wp2_with (go_at_call 28; refine hn.mono ?_; rintro e w2 ⟨rfl, hG⟩)
          have A := aft S1.out hblk HH.out hds (show i < dk.size by omega) hG
          have S2 : Aside _ := A.s
          go_roundg (d.size - (j + 1))
          case measure => omega
          case rel => exact ⟨i, j + 1, dk, rfl, by first | rfl | go_num, by omega, by omega, Nat.le_refl _, hds, S2, HK.out.skip hlt HL.out⟩
        | false =>
          have IH : Aside (i < dk.size) := (by omega : i < dk.size)
          go_wp2_with (go_at_call 28; refine hn.mono ?_; rintro e w2 ⟨rfl, hG⟩; obtain ⟨S2, b0, b1, b2, b3, ⟨o0, f0⟩, ⟨o1, f1⟩, ⟨o2, f2⟩, ⟨o3, f3⟩⟩ := aft S1.out hblk HH.out hds IH.out hG; have S2 : Aside _ := S2; clear hG hn c0 c1 c2 c3)
          have S3 : Aside (SWK encE 4 w blk off (dk.setIfInBounds i (x0, x1, x2, x3)) (w2.setCells blk (off + i * 4) (encE (x0, x1, x2, x3)))) := swk_set S2.out hblk _ IH.out
          go_roundg (d.size - (j + 1))
          case measure => omega
          case rel =>
            refine ⟨i + 1, j + 1, dk.setIfInBounds i (x0, x1, x2, x3), by first | rfl | go_num, by first | rfl | go_num, by omega, by omega, Nat.le_refl _, by simpa using hds, S3, ?_⟩
            have := HK.out.keep hlt HL.out
            rw [HX.out] at this
            exact this
      · have hltz : ¬ (j : Int) < (d.size : Int) := by omega
        obtain rfl : j = d.size := by omega
        have hcl := clear_run wr 0 (S1.out.holds hblk HH.out hds) (i := i) (n := d.size - i) (by omega) (by omega) (cap - i)
        have B1 : Aside (Below blk w (wr.setCells blk (off + i * 4) (List.replicate ((d.size - i) * 4) (.int .i64 0)))) := below_sets (Nat.le_refl _) _ _ (swk_below S1.out hblk)
        have hiz : (i : Int) ≤ (d.size : Int) := by omega
        have hic : (i : Int) ≤ (cap : Int) := by omega
        have hiz' : (i : Int) < (d.size : Int) := by omega
        have HS := S1
        clear S1
        go_wp2
        go_returns
        obtain ⟨k1, k2, k3⟩ := cut_row (HS.out.holds hblk HH.out hds) (show i ≤ dk.size by omega) (List.replicate ((d.size - i) * 4) (.int .i64 0))
        refine ⟨dk.extract 0 i, ?_, by rw [k2]; rfl, B1.out, k3⟩
        rw [k1, HK.out.lo, seg_all]
end Go.Proofs.Ytgbhmkdldfhamaa.charsOf
/-
  Chapter 14: fits, Find, Contains, find.
-/
namespace Go.Proofs.Ytgbhmkdldfhamaa.charsOf
open Go.Shelf Go.RowKit Go.Lib Go.Sort
/-- An object. -/
structure Ov where
  id : Int
  card : Int
  own : Int
  ctrl : Int
  zone : Int
  tap : Bool
  sick : Bool
  tok : Bool
  hurt : Int
  st : Int
  att : Int
  blk : Int
  stop : Bool
  ea : Option Addr
  en : Nat
  ec : Nat
def Ov.arr (o : Ov) : Array Value := #[.int .i64 o.id, .int .i64 o.card, .int .i64 o.own, .int .i64 o.ctrl, .int .i64 o.zone, .bool o.tap, .bool o.sick, .bool o.tok, .int .i64 o.hurt, .int .i64 o.st, .int .i64 o.att, .int .i64 o.blk, .bool o.stop, .slice o.ea o.en o.ec]
def fitB (who oi oc bi bc : Int) : Bool := (who == 0 && oi == bi) || (who == 1 && oc == bc) || who == 2 || (who == 3 && oc == bc && !(oi == bi))
set_option maxHeartbeats 8000000 in
set_option maxRecDepth 100000 in
theorem fits_calls (who : Int) (o b : Ov) (w : World) : Calls Try.prog 25 #[.int .i64 who, .agg o.arr, .agg b.arr] w fun e w' => e = .returned (.bool (fitB who o.id o.ctrl b.id b.ctrl)) ∧ Gr w w' := by
  obtain ⟨o0, o1, o2, o3, o4, o5, o6, o7, o8, o9, o10, o11, o12, o13, o14, o15⟩ := o
  obtain ⟨b0, b1, b2, b3, b4, b5, b6, b7, b8, b9, b10, b11, b12, b13, b14, b15⟩ := b
  simp only [Ov.arr]
  have fin : ∀ A B, Gr w ((w.alloc A).alloc B) := fun A B => (Gr.refl _).alloc _ |>.alloc _
  have FIN : Aside _ := fin
  clear fin
  obtain ⟨r, hr⟩ : ∃ r, fitB who o0 o3 b0 b3 = r := ⟨_, rfl⟩
  rw [hr]
  have HR : Hid _ := hr
  clear hr
  go_enter Try.func25, Try.ntmps25
  cases h1 : (o0 == b0) <;> cases h2 : (o3 == b3) <;> cases k0 : (who == 0) <;> cases k1 : (who == 1) <;> cases k2 : (who == 2) <;> cases k3 : (who == 3)
  all_goals first | (exfalso; simp only [beq_iff_eq] at k0 k1 k2 k3; omega) | skip
  all_goals
    have er := HR.out
    simp only [fitB, h1, h2, k0, k1, k2, k3] at er
    subst er
    clear HR
    go_wp2
    go_returns
    exact ⟨rfl, FIN.out _ _⟩
end Go.Proofs.Ytgbhmkdldfhamaa.charsOf
/-
  Chapter 14: state.Find, slices.Contains.
-/
namespace Go.Proofs.Ytgbhmkdldfhamaa.charsOf
open Go.Shelf Go.RowKit Go.Lib Go.Sort
/-- The first place of a number; -1: none. -/
def fnd (n : Int) : List Int → Nat → Int
  | [], _ => -1
  | x :: l, i => if x = n then (i : Int) else fnd n l (i + 1)
theorem fnd_none {n : Int} : ∀ {l : List Int} {i : Nat}, (∀ j, j < l.length → l[j]! ≠ n) → fnd n l i = -1
  | [], _, _ => rfl
  | x :: l, i, h => by
    rw [fnd, if_neg (by simpa using h 0 (by simp)), fnd_none fun j hj => by simpa using h (j + 1) (by simpa using hj)]
theorem fnd_some {n : Int} : ∀ {l : List Int} {i k : Nat}, k < l.length → l[k]! = n → (∀ j, j < k → l[j]! ≠ n) → fnd n l i = (i : Int) + k
  | [], _, k, h, _, _ => by simp at h
  | x :: l, i, 0, _, h, _ => by
    rw [fnd, if_pos (by simpa using h)]
    simp
  | x :: l, i, k + 1, hk, h, ha => by
    rw [fnd, if_neg (by simpa using ha 0 (by omega)), fnd_some (k := k) (by simpa using hk) (by simpa using h) fun j hj => by simpa using ha (j + 1) (by omega)]
    omega
/-- Rows of so many cells each. -/
def Rows (w : World) (a : Option Addr) (k : Nat) (l : List (Array Value)) : Prop := l = [] ∨ ∃ B O, a = some ⟨B, O, none⟩ ∧ B < w.heap.size ∧ ∀ i x, l[i]? = some x → ∀ j v, x[j]? = some v → w.cell? ⟨B, O + i * k + j, none⟩ = some v
theorem Rows.later {w w' : World} {a : Option Addr} {k : Nat} {l : List (Array Value)} (h : Rows w a k l) (hs : w.heap.size ≤ w'.heap.size) (hc : ∀ p : Addr, p.block < w.heap.size → w'.cell? p = w.cell? p) : Rows w' a k l := by
  rcases h with h | ⟨B, O, e, hb, h⟩
  · exact .inl h
  · exact .inr ⟨B, O, e, by omega, fun i x hx j v hv => by rw [hc _ hb]; exact h i x hx j v hv⟩
theorem Rows.gr {w w' : World} {a : Option Addr} {k : Nat} {l : List (Array Value)} (h : Rows w a k l) (g : Gr w w') : Rows w' a k l := h.later g.le fun _ hp => g.cell hp
structure ObjAt (w : World) (B O : Nat) (o : Ov) : Prop where
  c0 : w.cell? ⟨B, O, none⟩ = some (.int .i64 o.id)
  c1 : w.cell? ⟨B, O + 1, none⟩ = some (.int .i64 o.card)
  c2 : w.cell? ⟨B, O + 2, none⟩ = some (.int .i64 o.own)
  c3 : w.cell? ⟨B, O + 3, none⟩ = some (.int .i64 o.ctrl)
  c4 : w.cell? ⟨B, O + 4, none⟩ = some (.int .i64 o.zone)
  c5 : w.cell? ⟨B, O + 5, none⟩ = some (.bool o.tap)
  c6 : w.cell? ⟨B, O + 6, none⟩ = some (.bool o.sick)
  c7 : w.cell? ⟨B, O + 7, none⟩ = some (.bool o.tok)
  c8 : w.cell? ⟨B, O + 8, none⟩ = some (.int .i64 o.hurt)
  c9 : w.cell? ⟨B, O + 9, none⟩ = some (.int .i64 o.st)
  c10 : w.cell? ⟨B, O + 10, none⟩ = some (.int .i64 o.att)
  c11 : w.cell? ⟨B, O + 11, none⟩ = some (.int .i64 o.blk)
  c12 : w.cell? ⟨B, O + 12, none⟩ = some (.bool o.stop)
  c13 : w.cell? ⟨B, O + 13, none⟩ = some (.slice o.ea o.en o.ec)
theorem Rows.obj {w : World} {a : Option Addr} {os : List Ov} (h : Rows w a 14 (os.map Ov.arr)) {i : Nat} (hi : i < os.length) : ∃ B O, a = some ⟨B, O, none⟩ ∧ B < w.heap.size ∧ ObjAt w B (O + i * 14) os[i] := by
  rcases h with h | ⟨B, O, e, hb, h⟩
  · rw [List.map_eq_nil_iff.1 h] at hi
    simp at hi
  · have := h i os[i].arr (by simp [hi])
    exact ⟨B, O, e, hb, this 0 _ rfl, this 1 _ rfl, this 2 _ rfl, this 3 _ rfl, this 4 _ rfl, this 5 _ rfl, this 6 _ rfl, this 7 _ rfl, this 8 _ rfl, this 9 _ rfl, this 10 _ rfl, this 11 _ rfl, this 12 _ rfl, this 13 _ rfl⟩
set_option maxHeartbeats 4000000 in
set_option maxRecDepth 100000 in
theorem find1_calls (o : Ov) (b : Nat) (id : Int) (w : World) (hc : w.cell? ⟨b, 0, none⟩ = some (.int .i64 id)) : Calls Try.prog 41 #[.agg o.arr, .pointer (some ⟨b, 0, none⟩)] w fun e w' => e = .returned (.bool (o.id == id)) ∧ Gr w w' := by
  obtain ⟨o0, o1, o2, o3, o4, o5, o6, o7, o8, o9, o10, o11, o12, o13, o14, o15⟩ := o
  simp only [Ov.arr]
  have hc2 : ∀ A, (w.alloc A).cell? ⟨b, 0, none⟩ = some (.int .i64 id) := fun A => cell?_alloc_some A hc
  have fin : ∀ A, Gr w (w.alloc A) := fun A => (Gr.refl _).alloc _
  have FIN : Aside _ := fin
  clear fin
  go_enter Try.func41, Try.ntmps41
  go_wp2
  go_returns
  exact ⟨rfl, FIN.out _⟩
set_option maxHeartbeats 4000000 in
set_option maxRecDepth 100000 in
theorem idxf_calls (os : List Ov) (oa : Option Addr) (oc b : Nat) (id : Int) (w : World) (hR : Rows w oa 14 (os.map Ov.arr)) (hl : os.length < 4611686018427387904) (hc : w.cell? ⟨b, 0, none⟩ = some (.int .i64 id)) (hb : b < w.heap.size) :
    Calls Try.prog 40 #[.slice oa os.length oc, .func (.func 41) #[] #[.pointer (some ⟨b, 0, none⟩)]] w fun e w' => e = .returned (.int .i64 (fnd id (os.map Ov.id) 0)) ∧ Gr w w' := by
  have HR : Aside (Rows w oa 14 (os.map Ov.arr)) := hR
  have HC : Aside (w.cell? ⟨b, 0, none⟩ = some (.int .i64 id)) := hc
  clear hR hc
  go_enter Try.func40, Try.ntmps40
  go_wp2
  go_loopg [8] os.length (fun kx s8 wr => ∃ i : Nat, s8 = .int .i64 i ∧ i ≤ os.length ∧ os.length - i ≤ kx ∧ Aside (Gr w wr) ∧ Hid (∀ j, j < i → (os.map Ov.id)[j]! ≠ id))
  case atStart => exact ⟨0, rfl, Nat.zero_le _, Nat.le_refl _, Gr.refl _, fun j hj => by omega⟩
  case round =>
    obtain ⟨i, rfl, hid, hkx, S1, HE⟩ := hrel
    by_cases hlt : i < os.length
    · have hltz : (i : Int) < (os.length : Int) := by omega
      obtain ⟨B, O, rfl, hB, HO⟩ := (HR.out.gr S1.out).obj hlt
      obtain ⟨c0, c1, c2, c3, c4, c5, c6, c7, c8, c9, c10, c11, c12, c13⟩ := HO
      have hn := find1_calls os[i] b id wr (by rw [Gr.cell S1.out hb]; exact HC.out)
      have wi : IntKind.i64.wrap ((i : Int) + 1) = (i : Int) + 1 := by rw [IntKind.wrap_i64]; omega
      have HL : Hid ((os.map Ov.id)[i]! = os[i].id) := by simp [hlt, Hid]
      obtain ⟨x, hx⟩ : ∃ x, x = os[i] := ⟨_, rfl⟩
      rw [← hx] at c0 c1 c2 c3 c4 c5 c6 c7 c8 c9 c10 c11 c12 c13 hn HL
      clear hx
      obtain ⟨o0, o1, o2, o3, o4, o5, o6, o7, o8, o9, o10, o11, o12, o13, o14, o15⟩ := x
      simp only [Ov.arr] at c0 c1 c2 c3 c4 c5 c6 c7 c8 c9 c10 c11 c12 c13 hn
      cases hq : (o0 == id) with
      | true =>
        rw [hq] at hn
        go_wp2_with (go_at_call 41; refine hn.mono ?_; rintro e w1 ⟨rfl, hG⟩)
        go_returns
        refine ⟨?_, Gr.trans S1.out hG⟩
        rw [fnd_some (k := i) (by simpa using hlt) (by rw [HL.out]; exact of_decide_eq_true hq) HE.out]
        simp
      | false =>
        rw [hq] at hn
        go_wp2_with (go_at_call 41; refine hn.mono ?_; rintro e w1 ⟨rfl, hG⟩)
        have S2 : Aside (Gr w w1) := Gr.trans S1.out hG
        go_roundg (os.length - (i + 1))
        case measure => omega
        case rel =>
          refine ⟨i + 1, by first | rfl | go_num, by omega, Nat.le_refl _, S2, fun j hj => ?_⟩
          rcases Nat.lt_or_ge j i with h | h
          · exact HE.out j h
          · rw [show j = i by omega, HL.out]
            exact of_decide_eq_false hq
    · have hltz : ¬ (i : Int) < (os.length : Int) := by omega
      go_wp2
      go_returns
      refine ⟨?_, S1.out⟩
      rw [fnd_none fun j hj => HE.out j (by simp at hj; omega)]
      rfl
/-- A state, as a value. -/
structure Sv where
  os : List Ov
  oa : Option Addr
  oc : Nat
  fs : List Int
  fa : Option Addr
  fc : Nat
  r : Nat → Value
def Sv.arr (s : Sv) : Array Value := #[s.r 0, .slice s.oa s.os.length s.oc, s.r 2, s.r 3, s.r 4, s.r 5, .slice s.fa s.fs.length s.fc, s.r 7, s.r 8, s.r 9, s.r 10, s.r 11, s.r 12, s.r 13, s.r 14, s.r 15, s.r 16, s.r 17, s.r 18, s.r 19, s.r 20, s.r 21, s.r 22, s.r 23, s.r 24]
/-- It lies in memory. -/
structure Sv.OK (s : Sv) (w : World) : Prop where
  o : Rows w s.oa 14 (s.os.map Ov.arr)
  f : Rows w s.fa 1 (s.fs.map fun n => #[.int .i64 n])
  lo : s.os.length < 4611686018427387904
  lf : s.fs.length < 4611686018427387904
theorem Sv.OK.gr {s : Sv} {w w' : World} (h : s.OK w) (g : Gr w w') : s.OK w' := ⟨h.o.gr g, h.f.gr g, h.lo, h.lf⟩
def Sv.find (s : Sv) (id : Int) : Int := fnd id (s.os.map Ov.id) 0
set_option maxHeartbeats 4000000 in
set_option maxRecDepth 100000 in
theorem find_calls (s : Sv) (id : Int) (w : World) (h : s.OK w) : Calls Try.prog 26 #[.agg s.arr, .int .i64 id] w fun e w' => e = .returned (.int .i64 (s.find id)) ∧ Gr w w' := by
  obtain ⟨os, oa, oc, fs, fa, fc, r⟩ := s
  simp only [Sv.arr, Sv.find]
  have hg : ∀ A B, Gr w ((w.alloc A).alloc B) := fun A B => (Gr.refl _).alloc _ |>.alloc _
  have hc := fun A B => idxf_calls os oa oc (w.heap.size + 1) id ((w.alloc A).alloc (.cells #[.int .i64 id] B)) (h.o.gr (hg _ _)) h.lo (by simp) (by simp)
  have HG : Aside _ := hg
  clear hg
  go_enter Try.func26, Try.ntmps26
  go_wp2_with (go_at_call 40; refine (hc _ _).mono ?_; rintro e w1 ⟨rfl, h1⟩)
  go_returns
  exact ⟨rfl, Gr.trans (HG.out _ _) h1⟩

set_option maxHeartbeats 4000000 in
set_option maxRecDepth 100000 in
theorem index_calls (fs : List Int) (fa : Option Addr) (fc : Nat) (id : Int) (w : World) (hR : Rows w fa 1 (fs.map fun n => #[.int .i64 n])) (hl : fs.length < 4611686018427387904) :
    Calls Try.prog 45 #[.slice fa fs.length fc, .int .i64 id] w fun e w' => e = .returned (.int .i64 (fnd id fs 0)) ∧ w' = w := by
  have HR : Aside (Rows w fa 1 (fs.map fun n => #[.int .i64 n])) := hR
  clear hR
  go_enter Try.func45, Try.ntmps45
  go_wp2
  go_loopg [8] fs.length (fun kx s8 wr => ∃ i : Nat, s8 = .int .i64 i ∧ i ≤ fs.length ∧ fs.length - i ≤ kx ∧ wr = w ∧ Hid (∀ j, j < i → fs[j]! ≠ id))
  case atStart => exact ⟨0, rfl, Nat.zero_le _, Nat.le_refl _, rfl, fun j hj => by omega⟩
  case round =>
    obtain ⟨i, rfl, hid, hkx, rfl, HE⟩ := hrel
    by_cases hlt : i < fs.length
    · have hltz : (i : Int) < (fs.length : Int) := by omega
      have wi : IntKind.i64.wrap ((i : Int) + 1) = (i : Int) + 1 := by rw [IntKind.wrap_i64]; omega
      rcases HR.out with h | ⟨B, O, rfl, hB, h⟩
      · rw [List.map_eq_nil_iff.1 h] at hlt
        simp at hlt
      · have c0 := h i #[.int .i64 fs[i]] (by simp [hlt]) 0 _ rfl
        simp only [Nat.mul_one, Nat.add_zero] at c0
        clear h
        have HL : Hid (fs[i]! = fs[i]) := by simp [hlt, Hid]
        generalize fs[i] = x at c0 HL
        cases hq : (id == x) with
        | true =>
          go_wp2
          go_returns
          refine ⟨?_, rfl⟩
          rw [fnd_some (k := i) hlt (by rw [HL.out]; exact (of_decide_eq_true hq).symm) HE.out]
          simp
        | false =>
          go_wp2
          go_roundg (fs.length - (i + 1))
          case measure => omega
          case rel =>
            refine ⟨i + 1, by first | rfl | go_num, by omega, Nat.le_refl _, rfl, fun j hj => ?_⟩
            rcases Nat.lt_or_ge j i with h | h
            · exact HE.out j h
            · rw [show j = i by omega, HL.out]
              exact fun e => of_decide_eq_false hq e.symm
    · have hltz : ¬ (i : Int) < (fs.length : Int) := by omega
      go_wp2
      go_returns
      refine ⟨?_, rfl⟩
      rw [fnd_none fun j hj => HE.out j (by omega)]
      rfl
set_option maxHeartbeats 4000000 in
set_option maxRecDepth 100000 in
theorem contains_calls (fs : List Int) (fa : Option Addr) (fc : Nat) (id : Int) (w : World) (hR : Rows w fa 1 (fs.map fun n => #[.int .i64 n])) (hl : fs.length < 4611686018427387904) :
    Calls Try.prog 38 #[.slice fa fs.length fc, .int .i64 id] w fun e w' => e = .returned (.bool (decide (0 ≤ fnd id fs 0))) ∧ w' = w := by
  have hc := index_calls fs fa fc id w hR hl
  clear hR
  go_enter Try.func38, Try.ntmps38
  go_wp2_with (go_at_call 45; refine hc.mono ?_; rintro e w1 ⟨rfl, rfl⟩)
  go_returns
  exact ⟨by first | rfl | simp, rfl⟩
end Go.Proofs.Ytgbhmkdldfhamaa.charsOf
/-
  Chapter 14: find: a beast, and its card.
-/
namespace Go.Proofs.Ytgbhmkdldfhamaa.charsOf
open Go.Shelf Go.RowKit Go.Lib Go.Sort
/-- A card. -/
structure Cv where
  name : ByteArray
  kind : Int
  c0 : Int
  c1 : Int
  c2 : Int
  c3 : Int
  col : Int
  pow : Int
  tou : Int
  keys : Int
  aa : Option Addr
  an : Nat
  ac : Nat
def Cv.arr (c : Cv) : Array Value := #[.string c.name, .int .i64 c.kind, .int .i64 c.c0, .int .i64 c.c1, .int .i64 c.c2, .int .i64 c.c3, .int .i64 c.col, .int .i64 c.pow, .int .i64 c.tou, .int .i64 c.keys, .slice c.aa c.an c.ac]
def zO : Ov := ⟨0, 0, 0, 0, 0, false, false, false, 0, 0, 0, 0, false, none, 0, 0⟩
def zC : Cv := ⟨⟨#[]⟩, 0, 0, 0, 0, 0, 0, 0, 0, 0, none, 0, 0⟩
instance : Inhabited Ov := ⟨zO⟩
instance : Inhabited Cv := ⟨zC⟩
structure CardAt (w : World) (B O : Nat) (c : Cv) : Prop where
  c0 : w.cell? ⟨B, O, none⟩ = some (.string c.name)
  c1 : w.cell? ⟨B, O + 1, none⟩ = some (.int .i64 c.kind)
  c2 : w.cell? ⟨B, O + 2, none⟩ = some (.int .i64 c.c0)
  c3 : w.cell? ⟨B, O + 3, none⟩ = some (.int .i64 c.c1)
  c4 : w.cell? ⟨B, O + 4, none⟩ = some (.int .i64 c.c2)
  c5 : w.cell? ⟨B, O + 5, none⟩ = some (.int .i64 c.c3)
  c6 : w.cell? ⟨B, O + 6, none⟩ = some (.int .i64 c.col)
  c7 : w.cell? ⟨B, O + 7, none⟩ = some (.int .i64 c.pow)
  c8 : w.cell? ⟨B, O + 8, none⟩ = some (.int .i64 c.tou)
  c9 : w.cell? ⟨B, O + 9, none⟩ = some (.int .i64 c.keys)
  c10 : w.cell? ⟨B, O + 10, none⟩ = some (.slice c.aa c.an c.ac)
theorem Rows.card {w : World} {a : Option Addr} {cs : List Cv} (h : Rows w a 11 (cs.map Cv.arr)) {i : Nat} (hi : i < cs.length) : ∃ B O, a = some ⟨B, O, none⟩ ∧ B < w.heap.size ∧ CardAt w B (O + i * 11) cs[i] := by
  rcases h with h | ⟨B, O, e, hb, h⟩
  · rw [List.map_eq_nil_iff.1 h] at hi
    simp at hi
  · have := h i cs[i].arr (by simp [hi])
    exact ⟨B, O, e, hb, this 0 _ rfl, this 1 _ rfl, this 2 _ rfl, this 3 _ rfl, this 4 _ rfl, this 5 _ rfl, this 6 _ rfl, this 7 _ rfl, this 8 _ rfl, this 9 _ rfl, this 10 _ rfl⟩
/-- What find tells. -/
def bst (cs : List Cv) (s : Sv) (id : Int) : Ov × Cv × Bool :=
  if s.find id < 0 ∨ fnd id s.fs 0 < 0 then (zO, zC, false)
  else if (s.os[(s.find id).toNat]!).card < 0 ∨ (cs.length : Int) ≤ (s.os[(s.find id).toNat]!).card then (s.os[(s.find id).toNat]!, zC, false)
  else (s.os[(s.find id).toNat]!, cs[(s.os[(s.find id).toNat]!).card.toNat]!, (cs[(s.os[(s.find id).toNat]!).card.toNat]!).kind == 2)
theorem fnd_lt {n : Int} : ∀ {l : List Int} {i : Nat}, fnd n l i < (i : Int) + l.length ∧ (fnd n l i = -1 ∨ (i : Int) ≤ fnd n l i)
  | [], i => ⟨by simp only [fnd, List.length_nil]; omega, .inl rfl⟩
  | x :: l, i => by
    have := @fnd_lt n l (i + 1)
    rw [fnd, List.length_cons]
    split <;> omega
end Go.Proofs.Ytgbhmkdldfhamaa.charsOf
/-
  Chapter 14: find, walked with its aggregates unopened.
-/
namespace Go.Proofs.Ytgbhmkdldfhamaa.charsOf
open Go.Shelf Go.RowKit Go.Lib Go.Sort
/-- What the program's text holds of chapter 14. -/
structure LayC (P : Program) (k32 k56 k54 : Nat) (y56 y54 : List Value) : Prop where
  mixed : P.follows .mixedOrders = true
  f21 : P.funcs[21]? = some Try.f21
  f13 : P.funcs[13]? = some Try.f13
  f10 : P.funcs[10]? = some Try.f10
  e26 : ∀ args w, (callFunc 26 args).run P w = .ok (.enter 26 args) w
  e38 : ∀ args w, (callFunc 38 args).run P w = .ok (.enter 38 args) w
  e21 : ∀ args w, (callFunc 21 args).run P w = .ok (.enter 21 args) w
  t3 : P.underlying 3 = some (.int .i64)
  a3 : ∀ w, (isAgg 3).run P w = .ok false w
  z3 : ∀ w, (Go.sizeOf 3).run P w = .ok 1 w
  v3 : ∀ w, (zeroValue 3).run P w = .ok (.int .i64 0) w
  t4 : P.underlying 4 = some .bool
  a4 : ∀ w, (isAgg 4).run P w = .ok false w
  z4 : ∀ w, (Go.sizeOf 4).run P w = .ok 1 w
  v4 : ∀ w, (zeroValue 4).run P w = .ok (.bool false) w
  t22 : P.underlying 22 = some (.slice 54)
  a22 : ∀ w, (isAgg 22).run P w = .ok false w
  z22 : ∀ w, (Go.sizeOf 22).run P w = .ok 1 w
  t24 : P.underlying 24 = some (.slice 56)
  a24 : ∀ w, (isAgg 24).run P w = .ok false w
  z24 : ∀ w, (Go.sizeOf 24).run P w = .ok 1 w
  t26 : P.underlying 26 = some (.slice 3)
  a26 : ∀ w, (isAgg 26).run P w = .ok false w
  z26 : ∀ w, (Go.sizeOf 26).run P w = .ok 1 w
  t67 : P.underlying 67 = some (.tuple #[56, 54, 4])
  t32 : P.underlying 32 = some (TypeDesc.struct #[{ name := "Players", type := 23, offset := 0, embedded := false, tag := "", pkgPath := "", byteOffset := 0 }, { name := "Objs", type := 24, offset := 1, embedded := false, tag := "", pkgPath := "", byteOffset := 24 }, { name := "Libs", type := 25, offset := 2, embedded := false, tag := "", pkgPath := "", byteOffset := 48 }, { name := "Hands", type := 25, offset := 3, embedded := false, tag := "", pkgPath := "", byteOffset := 72 }, { name := "Graves", type := 25, offset := 4, embedded := false, tag := "", pkgPath := "", byteOffset := 96 }, { name := "Exiles", type := 25, offset := 5, embedded := false, tag := "", pkgPath := "", byteOffset := 120 }, { name := "Field", type := 26, offset := 6, embedded := false, tag := "", pkgPath := "", byteOffset := 144 }, { name := "Stack", type := 27, offset := 7, embedded := false, tag := "", pkgPath := "", byteOffset := 168 }, { name := "Waits", type := 27, offset := 8, embedded := false, tag := "", pkgPath := "", byteOffset := 192 }, { name := "Turn", type := 3, offset := 9, embedded := false, tag := "", pkgPath := "", byteOffset := 216 }, { name := "Active", type := 3, offset := 10, embedded := false, tag := "", pkgPath := "", byteOffset := 224 }, { name := "Phase", type := 3, offset := 11, embedded := false, tag := "", pkgPath := "", byteOffset := 232 }, { name := "Prio", type := 3, offset := 12, embedded := false, tag := "", pkgPath := "", byteOffset := 240 }, { name := "Passes", type := 3, offset := 13, embedded := false, tag := "", pkgPath := "", byteOffset := 248 }, { name := "Blocker", type := 3, offset := 14, embedded := false, tag := "", pkgPath := "", byteOffset := 256 }, { name := "Next", type := 3, offset := 15, embedded := false, tag := "", pkgPath := "", byteOffset := 264 }, { name := "Stamp", type := 3, offset := 16, embedded := false, tag := "", pkgPath := "", byteOffset := 272 }, { name := "Used", type := 3, offset := 17, embedded := false, tag := "", pkgPath := "", byteOffset := 280 }, { name := "Cast", type := 30, offset := 18, embedded := false, tag := "", pkgPath := "", byteOffset := 288 }, { name := "Outcome", type := 3, offset := 23, embedded := false, tag := "", pkgPath := "", byteOffset := 344 }, { name := "Winner", type := 3, offset := 24, embedded := false, tag := "", pkgPath := "", byteOffset := 352 }])
  t56 : P.underlying 56 = some (TypeDesc.struct #[{ name := "Id", type := 3, offset := 0, embedded := false, tag := "", pkgPath := "", byteOffset := 0 }, { name := "Card", type := 3, offset := 1, embedded := false, tag := "", pkgPath := "", byteOffset := 8 }, { name := "Owner", type := 3, offset := 2, embedded := false, tag := "", pkgPath := "", byteOffset := 16 }, { name := "Ctrl", type := 3, offset := 3, embedded := false, tag := "", pkgPath := "", byteOffset := 24 }, { name := "Zone", type := 3, offset := 4, embedded := false, tag := "", pkgPath := "", byteOffset := 32 }, { name := "Tapped", type := 4, offset := 5, embedded := false, tag := "", pkgPath := "", byteOffset := 40 }, { name := "Sick", type := 4, offset := 6, embedded := false, tag := "", pkgPath := "", byteOffset := 41 }, { name := "Token", type := 4, offset := 7, embedded := false, tag := "", pkgPath := "", byteOffset := 42 }, { name := "Hurt", type := 3, offset := 8, embedded := false, tag := "", pkgPath := "", byteOffset := 48 }, { name := "Stamp", type := 3, offset := 9, embedded := false, tag := "", pkgPath := "", byteOffset := 56 }, { name := "Attack", type := 3, offset := 10, embedded := false, tag := "", pkgPath := "", byteOffset := 64 }, { name := "Block", type := 3, offset := 11, embedded := false, tag := "", pkgPath := "", byteOffset := 72 }, { name := "Stopped", type := 4, offset := 12, embedded := false, tag := "", pkgPath := "", byteOffset := 80 }, { name := "Effects", type := 40, offset := 13, embedded := false, tag := "", pkgPath := "", byteOffset := 88 }])
  t54 : P.underlying 54 = some (TypeDesc.struct #[{ name := "Name", type := 9, offset := 0, embedded := false, tag := "", pkgPath := "", byteOffset := 0 }, { name := "Kind", type := 3, offset := 1, embedded := false, tag := "", pkgPath := "", byteOffset := 16 }, { name := "Cost", type := 51, offset := 2, embedded := false, tag := "", pkgPath := "", byteOffset := 24 }, { name := "Color", type := 3, offset := 6, embedded := false, tag := "", pkgPath := "", byteOffset := 56 }, { name := "Power", type := 3, offset := 7, embedded := false, tag := "", pkgPath := "", byteOffset := 64 }, { name := "Tough", type := 3, offset := 8, embedded := false, tag := "", pkgPath := "", byteOffset := 72 }, { name := "Keys", type := 3, offset := 9, embedded := false, tag := "", pkgPath := "", byteOffset := 80 }, { name := "Abils", type := 52, offset := 10, embedded := false, tag := "", pkgPath := "", byteOffset := 88 }])
  t40 : P.underlying 40 = some (.slice 58)
  a40 : ∀ w, (isAgg 40).run P w = .ok false w
  z40 : ∀ w, (Go.sizeOf 40).run P w = .ok 1 w
  a32 : ∀ w, (isAgg 32).run P w = .ok true w
  z32 : ∀ w, (Go.sizeOf 32).run P w = .ok k32 w
  a56 : ∀ w, (isAgg 56).run P w = .ok true w
  z56 : ∀ w, (Go.sizeOf 56).run P w = .ok k56 w
  v56 : ∀ w, (zeroValue 56).run P w = .ok (.agg y56.toArray) w
  a54 : ∀ w, (isAgg 54).run P w = .ok true w
  z54 : ∀ w, (Go.sizeOf 54).run P w = .ok k54 w
  v54 : ∀ w, (zeroValue 54).run P w = .ok (.agg y54.toArray) w
theorem hold_ld (P : Program) {W : World} {b : Nat} {l : List Value} (h : Holds id W b 0 l.toArray) {k : Nat} (hk : l.length = k) : Sem.run P (loadCellsFrom ⟨b, 0, none⟩ 0 k #[]) W = .ok l.toArray W :=
  run_loadCellsFrom_list P _ _ _ k hk fun j v hv => by
    have hj := (List.getElem?_eq_some_iff.1 hv).1
    have := (h j (by simpa using hj)).1
    rw [Nat.zero_add, getElem!_pos _ j (by simpa using hj)] at this
    rw [Addr.add_lit, Nat.zero_add, this, ← hv, List.getElem?_eq_getElem hj]
    rfl
theorem hold_st (P : Program) {W : World} {b : Nat} {l : List Value} (h : Holds id W b 0 l.toArray) (m : List Value) (hk : m.length = l.length) (h1 : ∀ v ∈ m, v.oneCell' = true) : Sem.run P (storeCells ⟨b, 0, none⟩ m 0) W = .ok () (W.setCells b 0 m) := by
  have := stores_of_holds P h 0 m (by simp [hk]) h1
  simpa using this
theorem hold_put {W : World} {b : Nat} {l : List Value} (h : Holds id W b 0 l.toArray) (m : List Value) (hk : m.length = l.length) : Holds id (W.setCells b 0 m) b 0 m.toArray := by
  have := holds_setCells_c h 0 m (by simp [hk])
  rw [Nat.add_zero] at this
  have e : setMany l.toArray 0 m = m.toArray := by
    refine ext_get! (by simp [hk]) fun t ht => ?_
    rw [get_setMany _ _ _ t (by simpa using ht), if_pos ⟨Nat.zero_le _, by simp [hk]; simpa using ht⟩]
    simp
  rwa [e] at this
theorem hold_gr {w W : World} {b : Nat} {A : Array Value} (h : Holds id w b 0 A) (g : Gr w W) (hb : b < w.heap.size) : Holds id W b 0 A := fun j hj => by
  rw [g.cell hb, g.frozen hb]
  exact h j hj
theorem hold_other {W : World} {b c : Nat} {A : Array Value} (h : Holds id W b 0 A) (hn : b ≠ c) (o : Nat) (m : List Value) : Holds id (W.setCells c o m) b 0 A := fun j hj => by
  rw [World.cell?_setCells_out c _ _ _ _ (fun e _ => absurd e hn), World.frozen?_setCells]
  exact h j hj
theorem hold_cell {W : World} {b : Nat} {l : List Value} (h : Holds id W b 0 l.toArray) {j : Nat} {v : Value} (hv : l[j]? = some v) : W.cell? ⟨b, j, none⟩ = some v := by
  have hj := (List.getElem?_eq_some_iff.1 hv).1
  have := (h j (by simpa using hj)).1
  rw [Nat.zero_add, getElem!_pos _ j (by simpa using hj)] at this
  rw [this, ← hv, List.getElem?_eq_getElem hj]
  rfl
theorem hold_new (w : World) (l : List Value) (t : TypeId) : Holds id (w.alloc (.cells l.toArray t)) w.heap.size 0 l.toArray := fun j hj => by
  have e : (w.alloc (.cells l.toArray t)).heap[w.heap.size]? = some (.cells l.toArray t) := by
    show (w.heap.push _)[w.heap.size]? = _
    simp
  rw [Nat.zero_add]
  constructor
  · unfold World.cell?
    rw [e]
    simp only [id]
    rw [getElem!_pos l.toArray j hj]
    simp
  · unfold World.frozen?
    rw [e]
    simp
end Go.Proofs.Ytgbhmkdldfhamaa.charsOf
