/-
  'EventFields': the events that are built from a kind and five numbers.
-/
import Derived.Test.YtjfbakhebdhbmaaDoorTxF
namespace Go.Proofs.YtjfbakhebdhbmaaDoor.event
open Go.Ev Go.RowKit
set_option linter.unusedVariables false
noncomputable section
def EvG.lst (g : EvG) (l : List Int) : EvG := { g with l := l }
def EvG.bare (g : EvG) : EvG := { g with i5 := 0, i6 := 0, i7 := 0, i8 := 0, i9 := 0, i10 := 0, t := [], ob := none, cb := 0 }
def fint (g : EvG) (kv n4 : Int) (lt : Nat) (z : Int) (T : ByteArray) : Nat → Int := fun k => match k with
  | 80 => kv
  | 81 => g.k
  | 82 => n4
  | 73 => (lt : Int)
  | 55 => (T.size : Int)
  | 25 => z
  | k => eint g 0 [] 0 k
def fvv (g : EvG) (lt : Nat) (T : ByteArray) : Nat → Value := fun k => match k with
  | 54 => .string T
  | 72 => .slice g.ob lt g.cb
  | k => evv g 0 [] 0 k
theorem fvv_one {g : EvG} {lt : Nat} {T : ByteArray} (j : Nat) : (fvv g lt T j).oneCell' = true := by
  unfold fvv
  split
  · rfl
  · rfl
  · exact evv_one _
def frho (g : EvG) (kv n4 : Int) (lt : Nat) (z : Int) (T : ByteArray) : Rho := ⟨fint g kv n4 lt z T, fvv g lt T, fun _ => 0, fun _ => 0, fvv_one, fun _ => [], fun _ _ h => by cases h⟩
/-- What comes in. -/
structure Fld (g : EvG) (kv n4 : Int) (lt : Nat) : Prop where
  k0 : 0 ≤ kv
  k1 : kv ≤ 255
  hk : g.k = kv.tmod 32
  nl : g.l = []
  oa : g.oa = none
  ca : g.ca = 0
  n4 : I64 n4
  ht : g.t.length = min lt 4
  cb : lt ≤ g.cb
  bb : (lt : Int) ≤ 9223372036854775807
section
variable {w : World} {g : EvG} {kv n4 : Int} {lt : Nat} {z : Int} {T : ByteArray}
theorem Fld.k32 (F : Fld g kv n4 lt) : 0 ≤ g.k ∧ g.k ≤ 31 := by
  have h0 := F.k0
  have := Int.tmod_lt_of_pos kv (show (0 : Int) < 32 by decide)
  have := Int.tmod_nonneg 32 h0
  rw [F.hk]
  omega
theorem f_fits (h : g.OK w) (F : Fld g kv n4 lt) (hz : 0 ≤ z ∧ z ≤ 1000) (hT : T.size ≤ 100000) : ∀ k, I64 (fint g kv n4 lt z T k) := fun k => by
  have f := eint_fits (c := 0) (s := []) (i := 0) h (by decide) (by decide) (by omega)
  have h0 := F.k0
  have h1 := F.k1
  have h2 := F.k32
  have h3 := F.bb
  unfold fint
  split
  · exact ⟨by omega, by omega⟩
  · exact ⟨by omega, by omega⟩
  · exact F.n4
  · exact ⟨by omega, h3⟩
  · exact ⟨by omega, by omega⟩
  · exact ⟨by omega, by omega⟩
  · exact f _
theorem f_iv {k1 k2 n1 n2 : Int} (h : g.OK w) (F : Fld g kv n4 lt) (hz : 0 ≤ z ∧ z ≤ 1000) (hT : T.size ≤ 100000) (hk : k1 ≤ kv ∧ kv ≤ k2) (hn : n1 ≤ n4 ∧ n4 ≤ n2) : IvOK (fIv k1 k2 n1 n2) (frho g kv n4 lt z T) := by
  have q := f_fits (T := T) h F hz hT
  have ht := F.ht
  have h2 := F.k32
  exact iv_all (f := fint g kv n4 lt z T) ⟨q 0, q 1, q 2, q 3, q 4, q 5, q 6, q 7, q 8, q 9, q 10, q 11, q 12, ⟨by show (0 : Int) ≤ (g.t.length : Int); omega, by show (g.t.length : Int) ≤ (4 : Int); omega⟩, q 14, q 15, q 16, q 17, q 18, q 19, q 20, q 21, q 22, q 23, q 24, q 25, q 26, q 27, q 28, q 29, q 30, q 31, q 32, q 33, q 34, q 35, q 36, q 37, q 38, q 39, q 40, q 41, q 42, q 43, q 44, q 45, q 46, q 47, q 48, q 49, q 50, q 51, q 52, q 53, q 54, q 55, q 56, q 57, q 58, q 59, q 60, q 61, q 62, q 63, q 64, q 65, q 66, q 67, q 68, q 69, q 70, q 71, q 72, q 73, q 74, q 75, q 76, q 77, q 78, q 79, hk, h2, hn, trivial⟩ q
theorem f_fs (F : Fld g kv n4 lt) : FsOK fF (frho g kv n4 lt z T) := by
  have ht := F.ht
  have hcb := F.cb
  have hk := F.hk
  refine fs_cons (fact_rem (k := .u8) (a := kv) (b := 32) rfl rfl (by decide) ?_) (fs_cons (fact_len rfl rfl) (fs_cons (fact_min ?_) (fs_cons ?_ (fs_cons ⟨.string T, T.size, rfl, ⟨_, rfl, rfl⟩, rfl⟩ fs_nil))))
  · show some (Value.int .u8 g.k) = _
    rw [hk]
  · show (g.t.length : Int) = if (4 : Int) < (lt : Int) then 4 else (lt : Int)
    split <;> omega
  · exact fact_cut (a := g.ob) (l := lt) (c := g.cb) (m := g.t.length) (k := .i64) rfl rfl (by omega) rfl
/-- Whatever is told of such an event is told of one that may be looked at. -/
def Opens (ρ : Rho) (w : World) (V : VV) (pre : List (Nat × VO)) (z : Int) (T : ByteArray) : Prop := ∀ (φ : Phi) (vs : List Value) (w' : World), φ.ρ = ρ → w.heap.size ≤ w'.heap.size → (∀ k, k < w.heap.size → w'.heap[k]? = w.heap[k]?) → VRs φ [V] vs → preOK φ pre w' → ∃ g' : EvG, g'.OK w' ∧ vs = [g'.val] ∧ chk g' = z ∧ txtB g' = T
theorem f_ext {ρ : Rho} {V : VV} {pre : List (Nat × VO)} (hT : TabsOK tabs w) (h1 : ρ.int 25 = z) (h2 : ρ.val 54 = .string T) (hO : Opens ρ w V pre z T) : ∀ e ∈ fKT V pre, KEok Tryd.prog ρ w e := by
  intro e he
  simp only [fKT, List.mem_cons, List.not_mem_nil, or_false] at he
  rcases he with rfl | rfl | rfl | rfl | rfl
  · intro φ vs w' hφ a b hv hp
    obtain ⟨g', k1, rfl, k3, k4⟩ := hO φ vs w' hφ a b hv hp
    refine (checks k1).1.mono ?_
    rintro en w'' ⟨rfl, hb⟩
    exact ⟨_, rfl, by simp only [VR, si, hφ, h1, k3], hb⟩
  · intro φ vs w' hφ a b hv hp
    obtain ⟨g', k1, rfl, k3, k4⟩ := hO φ vs w' hφ a b hv hp
    refine (checks k1).2.1.mono ?_
    rintro en w'' ⟨rfl, hb⟩
    exact ⟨_, rfl, by simp only [VR, si, hφ, h1, k3], hb⟩
  · intro φ vs w' hφ a b hv hp
    obtain ⟨g', k1, rfl, k3, k4⟩ := hO φ vs w' hφ a b hv hp
    refine (texts (itoaOK (hT.of_old b)) k1).1.mono ?_
    rintro en w'' ⟨rfl, hb⟩
    exact ⟨_, rfl, by simp only [VR, hφ, h2, k4], hb⟩
  · intro φ vs w' hφ a b hv hp
    obtain ⟨g', k1, rfl, k3, k4⟩ := hO φ vs w' hφ a b hv hp
    refine (texts (itoaOK (hT.of_old b)) k1).2.mono ?_
    rintro en w'' ⟨rfl, hb⟩
    exact ⟨_, rfl, by simp only [VR, hφ, h2, k4], hb⟩
  · intro φ vs w' hφ a b hv _
    simp only [VRs] at hv
    subst hv
    refine (rows.works w' (hT.of_old b)).mono ?_
    rintro en w'' ⟨rfl, hb⟩
    exact ⟨_, rfl, by simp only [VR], hb⟩
def fVals (g : EvG) (kv n4 : Int) (lt : Nat) : List Value := [.int .u8 kv, .agg #[.int .i64 g.a, .int .i64 g.b, .int .i64 g.n, .int .i64 g.m, .int .i64 n4], .agg #[.int .i64 g.i5, .int .i64 g.i6, .int .i64 g.i7, .int .i64 g.i8, .int .i64 g.i9, .int .i64 g.i10, .slice g.ob lt g.cb]]
theorem f_args : VRs ⟨fun _ => none, frho g kv n4 lt z T⟩ fArgs (fVals g kv n4 lt) := by
  simp only [VRs, VR, fArgs, fVals, si]
  refine ⟨_, _, rfl, rfl, _, _, rfl, ⟨[.int .i64 g.a, .int .i64 g.b, .int .i64 g.n, .int .i64 g.m, .int .i64 n4], ?_, rfl⟩, _, _, rfl, ⟨[.int .i64 g.i5, .int .i64 g.i6, .int .i64 g.i7, .int .i64 g.i8, .int .i64 g.i9, .int .i64 g.i10, .slice g.ob lt g.cb], ?_, rfl⟩, rfl⟩
  · exact ⟨_, _, rfl, rfl, _, _, rfl, rfl, _, _, rfl, rfl, _, _, rfl, rfl, _, _, rfl, rfl, rfl⟩
  · exact ⟨_, _, rfl, rfl, _, _, rfl, rfl, _, _, rfl, rfl, _, _, rfl, rfl, _, _, rfl, rfl, _, _, rfl, rfl, _, _, rfl, rfl, rfl⟩
abbrev FldC (w : World) (g : EvG) (kv n4 : Int) (lt : Nat) : Prop := Calls Tryd.prog 4 ⟨fVals g kv n4 lt⟩ w fun e w' => e = .returned (.bool true) ∧ Below w.heap.size w w'
theorem f_core {k1 k2 n1 n2 : Int} {V : VV} {pre : List (Nat × VO)} (hrun : runF k1 k2 n1 n2 V pre = true) (hT : TabsOK tabs w) (h : g.OK w) (F : Fld g kv n4 lt) (hz : 0 ≤ z ∧ z ≤ 1000) (hS : T.size ≤ 100000) (hk : k1 ≤ kv ∧ kv ≤ k2) (hn : n1 ≤ n4 ∧ n4 ≤ n2) (hO : Opens (frho g kv n4 lt z T) w V pre z T) : FldC w g kv n4 lt := by
  obtain ⟨H, h1⟩ := runF_ok hrun
  letI : Ext := extKT Tryd.prog (fKT V pre)
  refine (runE_calls (noNG_of noNG) mixed (knL_ok fun ρ w h => h) h1 (ρ := frho g kv n4 lt z T) ⟨f_ext hT rfl rfl hO, f_iv h F hz hS hk hn, f_fs F, (fun i c h => by cases h)⟩ (fun r b h => by cases h) f_args).mono ?_
  rintro e w' ⟨v', φ', rfl, hφ, hv, hb⟩
  simp only [VR] at hv
  subst hv
  exact ⟨rfl, hb⟩
/-! ### the four kinds of events -/
theorem bare_ok (h : g.OK w) : g.bare.OK w :=
  { cl := h.cl, ct := (fun i x hi => by simp [EvG.bare] at hi), wl := h.wl, wt := (fun x hx => by cases hx), nl := h.nl, nt := Nat.zero_le _, fk := h.fk, fa := h.fa, fb := h.fb, fn := h.fn, fm := h.fm, f5 := i64_0, f6 := i64_0, f7 := i64_0, f8 := i64_0, f9 := i64_0, f10 := i64_0 }
theorem one_ok {b o c : Nat} (h : g.OK w) (hn : I64 n4) (hb : b < w.heap.size) (hc : w.cell? ⟨b, o, none⟩ = some (.int .i64 n4)) : ((g.lst [n4]).at (some ⟨b, o, none⟩) c b o).OK w :=
  { cl := (fun i x hi => by
      match i with
      | 0 => cases hi; exact ⟨rfl, hb, hc⟩
      | i + 1 => simp [EvG.lst, EvG.at] at hi),
    ct := h.ct, wl := (fun x hx => by
      have : x = n4 := by simpa [EvG.lst, EvG.at] using hx
      rw [this]; exact hn), wt := h.wt, nl := by show 1 ≤ 260; decide, nt := h.nt, fk := h.fk, fa := h.fa, fb := h.fb, fn := h.fn, fm := h.fm, f5 := h.f5, f6 := h.f6, f7 := h.f7, f8 := h.f8, f9 := h.f9, f10 := h.f10 }
theorem cell_in {w : World} {b : Nat} {x : Value} {t : TypeId} (h : w.heap[b]? = some (Obj.cells #[x] t)) : w.cell? ⟨b, 0, none⟩ = some x := by
  simp [World.cell?, h]
/-- There is a place for the list of one number. -/
theorem one_bounds (h : g.OK w) (hn : I64 n4) : (0 ≤ chk (g.lst [n4]) ∧ chk (g.lst [n4]) ≤ 1000) ∧ (txtB (g.lst [n4])).size ≤ 100000 := by
  have hs : w.heap.size ≤ (w.alloc (Obj.cells #[.int .i64 n4] 3)).heap.size := by
    show _ ≤ (w.heap.push _).size
    rw [Array.size_push]
    omega
  have ho : ∀ k, k < w.heap.size → (w.alloc (Obj.cells #[.int .i64 n4] 3)).heap[k]? = w.heap[k]? := fun k hk => Below.heap_alloc w _ k hk
  have hc : (w.alloc (Obj.cells #[.int .i64 n4] 3)).cell? ⟨w.heap.size, 0, none⟩ = some (.int .i64 n4) := cell_in (alloc_self w (Obj.cells #[.int .i64 n4] 3))
  have hb : w.heap.size < (w.alloc (Obj.cells #[.int .i64 n4] 3)).heap.size := by
    show _ < (w.heap.push _).size
    rw [Array.size_push]
    omega
  have k := one_ok (c := 1) (h.later hs ho) hn hb hc
  have a := (checks k).2.2
  have b := txtB_size k
  rw [chk_at] at a
  rw [txt_at k] at b
  exact ⟨a, b⟩
theorem pre_cell {φ : Phi} (hp : preOK φ preO w) : ∃ inf, φ 3 = some inf ∧ inf.blk < w.heap.size ∧ w.cell? ⟨inf.blk, inf.off, none⟩ = some (.int .i64 (φ.ρ.int 82)) := by
  obtain ⟨inf, o', h1, h2, h3⟩ := hp _ (List.mem_singleton.2 rfl)
  obtain ⟨c', e, fr, rfl, k⟩ := h3
  obtain ⟨y, y1, y2⟩ := k.cell 0 (.sint .i64 82) rfl
  simp only [VR] at y2
  subst y2
  refine ⟨inf, h1, (Array.getElem?_eq_some_iff.1 h2).1, ?_⟩
  simpa [World.cell?, h2] using y1
theorem opens_sn (h : g.OK w) (F : Fld g kv n4 lt) : Opens (frho g kv n4 lt (chk g) (txtB g)) w (fV lsN itS) [] (chk g) (txtB g) := by
  intro φ vs w' hφ a b hv _
  refine ⟨g, h.later a b, ?_, rfl, rfl⟩
  simp only [VRs, VR, fV, lsN, itS, si, hφ] at hv
  obtain ⟨_, _, rfl, ⟨_, ⟨_, _, rfl, rfl, _, _, rfl, rfl, _, _, rfl, rfl, _, _, rfl, rfl, _, _, rfl, rfl, _, _, rfl, rfl, _, _, rfl, rfl, _, _, rfl, rfl, _, _, rfl, rfl, _, _, rfl, rfl, _, _, rfl, rfl, _, _, rfl, rfl, _, _, rfl, rfl, rfl⟩, rfl⟩, rfl⟩ := hv
  show _ = [g.val]
  unfold EvG.val
  rw [F.nl, F.oa, F.ca]
  rfl
theorem opens_zn (h : g.OK w) (F : Fld g kv n4 lt) : Opens (frho g kv n4 lt (chk g.bare) (txtB g.bare)) w (fV lsN itZ) [] (chk g.bare) (txtB g.bare) := by
  intro φ vs w' hφ a b hv _
  refine ⟨g.bare, (bare_ok h).later a b, ?_, rfl, rfl⟩
  simp only [VRs, VR, fV, lsN, itZ, si, hφ] at hv
  obtain ⟨_, _, rfl, ⟨_, ⟨_, _, rfl, rfl, _, _, rfl, rfl, _, _, rfl, rfl, _, _, rfl, rfl, _, _, rfl, rfl, _, _, rfl, rfl, _, _, rfl, rfl, _, _, rfl, rfl, _, _, rfl, rfl, _, _, rfl, rfl, _, _, rfl, rfl, _, _, rfl, rfl, _, _, rfl, rfl, rfl⟩, rfl⟩, rfl⟩ := hv
  show _ = [g.bare.val]
  unfold EvG.val
  rw [show g.bare.l = [] from F.nl, show g.bare.oa = none from F.oa, show g.bare.ca = 0 from F.ca]
  rfl
theorem opens_so (h : g.OK w) (F : Fld g kv n4 lt) : Opens (frho g kv n4 lt (chk (g.lst [n4])) (txtB (g.lst [n4]))) w (fV lsO itS) preO (chk (g.lst [n4])) (txtB (g.lst [n4])) := by
  intro φ vs w' hφ a b hv hp
  obtain ⟨inf, p1, p2, p3⟩ := pre_cell hp
  rw [hφ] at p3
  simp only [VRs, VR, AR, fV, lsO, itS, si, hφ] at hv
  obtain ⟨_, _, rfl, ⟨_, ⟨_, _, rfl, rfl, _, _, rfl, rfl, _, _, rfl, rfl, _, _, rfl, rfl, _, _, rfl, rfl, _, _, rfl, ⟨a', s, ⟨inf', q1, q2, q3⟩, rfl⟩, _, _, rfl, rfl, _, _, rfl, rfl, _, _, rfl, rfl, _, _, rfl, rfl, _, _, rfl, rfl, _, _, rfl, rfl, _, _, rfl, rfl, rfl⟩, rfl⟩, rfl⟩ := hv
  rw [p1] at q1
  cases q1
  subst q2
  have k := one_ok (c := 1 + s) (h.later a b) F.n4 p2 p3
  exact ⟨_, k, rfl, chk_at, txt_at k⟩
theorem opens_zo (h : g.OK w) (F : Fld g kv n4 lt) : Opens (frho g kv n4 lt (chk (g.bare.lst [n4])) (txtB (g.bare.lst [n4]))) w (fV lsO itZ) preO (chk (g.bare.lst [n4])) (txtB (g.bare.lst [n4])) := by
  intro φ vs w' hφ a b hv hp
  obtain ⟨inf, p1, p2, p3⟩ := pre_cell hp
  rw [hφ] at p3
  simp only [VRs, VR, AR, fV, lsO, itZ, si, hφ] at hv
  obtain ⟨_, _, rfl, ⟨_, ⟨_, _, rfl, rfl, _, _, rfl, rfl, _, _, rfl, rfl, _, _, rfl, rfl, _, _, rfl, rfl, _, _, rfl, ⟨a', s, ⟨inf', q1, q2, q3⟩, rfl⟩, _, _, rfl, rfl, _, _, rfl, rfl, _, _, rfl, rfl, _, _, rfl, rfl, _, _, rfl, rfl, _, _, rfl, rfl, _, _, rfl, rfl, rfl⟩, rfl⟩, rfl⟩ := hv
  rw [p1] at q1
  cases q1
  subst q2
  have k := one_ok (c := 1 + s) ((bare_ok h).later a b) F.n4 p2 p3
  exact ⟨_, k, rfl, chk_at, txt_at k⟩
theorem lawF (hT : TabsOK tabs w) (h : g.OK w) (F : Fld g kv n4 lt) : FldC w g kv n4 lt := by
  have h0 := F.k0
  have h1 := F.k1
  have hn := F.n4
  by_cases hk : kv ≤ 127
  · by_cases h4 : 0 ≤ n4
    · obtain ⟨b1, b2⟩ := one_bounds (bare_ok h) F.n4
      exact f_core ran1 hT h F b1 b2 ⟨h0, hk⟩ ⟨h4, hn.2⟩ (opens_zo h F)
    · exact f_core ran2 hT h F (checks (bare_ok h)).2.2 (txtB_size (bare_ok h)) ⟨h0, hk⟩ ⟨hn.1, by omega⟩ (opens_zn h F)
  · by_cases h4 : 0 ≤ n4
    · obtain ⟨b1, b2⟩ := one_bounds h F.n4
      exact f_core ran3 hT h F b1 b2 ⟨by omega, h1⟩ ⟨h4, hn.2⟩ (opens_so h F)
    · exact f_core ran4 hT h F (checks h).2.2 (txtB_size h) ⟨by omega, h1⟩ ⟨hn.1, by omega⟩ (opens_sn h F)
end
end
end Go.Proofs.YtjfbakhebdhbmaaDoor.event
