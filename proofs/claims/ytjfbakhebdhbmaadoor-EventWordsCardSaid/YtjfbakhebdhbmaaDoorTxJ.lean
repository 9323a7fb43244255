/-
  'EventWords': two events of one kind; what their texts are.
-/
import Derived.Test.YtjfbakhebdhbmaaDoorTxM
namespace Go.Proofs.YtjfbakhebdhbmaaDoor.event
open Go.Ev Go.RowKit Go.Lib
set_option linter.unusedVariables false
noncomputable section
structure EwG where
  a : EvG
  b : EvG
  la : Nat
  lt : Nat
  ma : Nat
  mt : Nat
/-- The second one, of the first one's kind. -/
def EwG.c (g : EwG) : EvG := { g.b with k := g.a.k }
structure EwG.OK (g : EwG) (w : World) : Prop where
  a : g.a.OK w
  b : g.b.OK w
  ra : Raw g.a g.la g.lt
  rb : Raw g.b g.ma g.mt
theorem EwG.OK.c {g : EwG} {w : World} (h : g.OK w) : g.c.OK w :=
  { cl := h.b.cl, ct := h.b.ct, wl := h.b.wl, wt := h.b.wt, nl := h.b.nl, nt := h.b.nt, fk := h.a.fk, fa := h.b.fa, fb := h.b.fb, fn := h.b.fn, fm := h.b.fm, f5 := h.b.f5, f6 := h.b.f6, f7 := h.b.f7, f8 := h.b.f8, f9 := h.b.f9, f10 := h.b.f10 }
theorem EwG.OK.later {g : EwG} {w w' : World} (h : g.OK w) (hs : w.heap.size ≤ w'.heap.size) (ho : ∀ k, k < w.heap.size → w'.heap[k]? = w.heap[k]?) : g.OK w' := ⟨h.a.later hs ho, h.b.later hs ho, h.ra, h.rb⟩
def okI (g : EvG) : Int := if chk g = 0 then 1 else 0
theorem okI_in (g : EvG) : 0 ≤ okI g ∧ okI g ≤ 1 := by
  unfold okI
  split <;> omega
def wint (g : EwG) (i : Nat) : Nat → Int
  | 24 => g.a.k
  | 1 => g.a.a
  | 2 => g.a.b
  | 3 => g.a.n
  | 4 => g.a.m
  | 5 => g.a.i5
  | 6 => g.a.i6
  | 7 => g.a.i7
  | 8 => g.a.i8
  | 9 => g.a.i9
  | 10 => g.a.i10
  | 12 => (g.a.l.length : Int)
  | 13 => (g.a.t.length : Int)
  | 71 => (g.la : Int)
  | 73 => (g.lt : Int)
  | 48 => g.b.k
  | 31 => g.b.a
  | 32 => g.b.b
  | 33 => g.b.n
  | 34 => g.b.m
  | 35 => g.b.i5
  | 36 => g.b.i6
  | 37 => g.b.i7
  | 38 => g.b.i8
  | 39 => g.b.i9
  | 40 => g.b.i10
  | 42 => (g.b.l.length : Int)
  | 43 => (g.b.t.length : Int)
  | 45 => (g.ma : Int)
  | 47 => (g.mt : Int)
  | 55 => ((txtB g.a).size : Int)
  | 57 => ((txtB g.c).size : Int)
  | 58 => okI g.a
  | 59 => okI g.c
  | 60 => (i : Int)
  | 61 => byteI (txtB g.a) i
  | 62 => byteI (txtB g.a) (i - 1)
  | 63 => (i : Int) - 1
  | 64 => (i : Int) + 1
  | 65 => byteI (txtB g.c) i
  | 67 => byteI (txtB g.c) (i - 1)
  | _ => 0
def wvv (g : EwG) : Nat → Value
  | 70 => .slice g.a.oa g.la g.a.ca
  | 72 => .slice g.a.ob g.lt g.a.cb
  | 0 => .slice g.a.oa g.a.l.length g.a.ca
  | 11 => .slice g.a.ob g.a.t.length g.a.cb
  | 44 => .slice g.b.oa g.ma g.b.ca
  | 46 => .slice g.b.ob g.mt g.b.cb
  | 30 => .slice g.b.oa g.b.l.length g.b.ca
  | 41 => .slice g.b.ob g.b.t.length g.b.cb
  | 54 => .string (txtB g.a)
  | 56 => .string (txtB g.c)
  | 66 => .string (bstr (wl (tB g.a)))
  | 68 => .string (bstr (wl (tB g.c)))
  | _ => .bool false
theorem wvv_one {g : EwG} (j : Nat) : (wvv g j).oneCell' = true := by
  unfold wvv
  split <;> rfl
def wrho (g : EwG) (i : Nat) : Rho := ⟨wint g i, wvv g, fun _ => 0, fun _ => 0, wvv_one, fun _ => [], fun _ _ h => by cases h⟩
section
variable {g : EwG} {i : Nat} {w : World}
theorem text_pos {g : EvG} (h : g.OK w) : 1 ≤ (txtB g).size := by
  have hs := scan_text h
  have : (txtB g).size = (tB g).length := rfl
  cases e : tB g with
  | nil => rw [e] at hs; cases hs
  | cons c l => rw [this, e]; simp
theorem w_fits (h : g.OK w) (hi : i ≤ 100000) : ∀ k, I64 (wint g i k) := fun k => by
  have s1 := txtB_size h.a
  have s2 := txtB_size h.c
  have o1 := okI_in g.a
  have o2 := okI_in g.c
  have b1 := byteI_in (txtB g.a) i
  have b2 := byteI_in (txtB g.a) (i - 1)
  have b3 := byteI_in (txtB g.c) i
  have b4 := byteI_in (txtB g.c) (i - 1)
  have n1 := h.a.nl
  have n2 := h.a.nt
  have n3 := h.b.nl
  have n4 := h.b.nt
  unfold wint
  split
  · exact h.a.fk
  · exact h.a.fa
  · exact h.a.fb
  · exact h.a.fn
  · exact h.a.fm
  · exact h.a.f5
  · exact h.a.f6
  · exact h.a.f7
  · exact h.a.f8
  · exact h.a.f9
  · exact h.a.f10
  · exact ⟨by omega, by omega⟩
  · exact ⟨by omega, by omega⟩
  · exact ⟨by omega, h.ra.ba⟩
  · exact ⟨by omega, h.ra.bb⟩
  · exact h.b.fk
  · exact h.b.fa
  · exact h.b.fb
  · exact h.b.fn
  · exact h.b.fm
  · exact h.b.f5
  · exact h.b.f6
  · exact h.b.f7
  · exact h.b.f8
  · exact h.b.f9
  · exact h.b.f10
  · exact ⟨by omega, by omega⟩
  · exact ⟨by omega, by omega⟩
  · exact ⟨by omega, h.rb.ba⟩
  · exact ⟨by omega, h.rb.bb⟩
  all_goals first
    | exact i64_0
    | exact ⟨by omega, by omega⟩
theorem w_iv (h : g.OK w) (hi : i ≤ 100000) : IvOK ewiv0 (wrho g i) := by
  have f := w_fits h hi
  have s1 := txtB_size h.a
  have s2 := txtB_size h.c
  have p1 := text_pos h.a
  have p2 := text_pos h.c
  exact iv_all (f := wint g i) ⟨f 0, f 1, f 2, f 3, f 4, f 5, f 6, f 7, f 8, f 9, f 10, f 11, f 12, f 13, f 14, f 15, f 16, f 17, f 18, f 19, f 20, f 21, f 22, f 23, f 24, f 25, f 26, f 27, f 28, f 29, f 30, f 31, f 32, f 33, f 34, f 35, f 36, f 37, f 38, f 39, f 40, f 41, f 42, f 43, f 44, f 45, f 46, f 47, f 48, f 49, f 50, f 51, f 52, f 53, f 54,
    ⟨by show (1 : Int) ≤ ((txtB g.a).size : Int); omega, by show ((txtB g.a).size : Int) ≤ 100000; omega⟩, f 56, ⟨by show (1 : Int) ≤ ((txtB g.c).size : Int); omega, by show ((txtB g.c).size : Int) ≤ 100000; omega⟩, okI_in g.a, okI_in g.c, ⟨by show (0 : Int) ≤ (i : Int); omega, by show (i : Int) ≤ 100000; omega⟩, byteI_in _ _, byteI_in _ _, f 63, ⟨by show (0 : Int) ≤ (i : Int) + 1; omega, by show (i : Int) + 1 ≤ 100001; omega⟩, byteI_in _ _, f 66, byteI_in _ _, trivial⟩ f
theorem ewF_ok (h : g.OK w) : FsOK ewF (wrho g i) := by
  have a1 := h.ra.hl
  have a2 := h.ra.ht
  have a3 := h.ra.ca
  have a4 := h.ra.cb
  have b1 := h.rb.hl
  have b2 := h.rb.ht
  have b3 := h.rb.ca
  have b4 := h.rb.cb
  refine fs_cons (fact_len rfl rfl) (fs_cons (fact_len rfl rfl) (fs_cons (fact_min ?_) (fs_cons (fact_min ?_) (fs_cons ?_ (fs_cons ?_ (fs_cons (fact_len rfl rfl) (fs_cons (fact_len rfl rfl) (fs_cons (fact_min ?_) (fs_cons (fact_min ?_) (fs_cons ?_ (fs_cons ?_ (fs_cons (fact_slenB rfl rfl) (fs_cons (fact_slenB rfl rfl) fs_nil)))))))))))))
  · show (g.a.l.length : Int) = if (260 : Int) < (g.la : Int) then 260 else (g.la : Int)
    split <;> omega
  · show (g.a.t.length : Int) = if (4 : Int) < (g.lt : Int) then 4 else (g.lt : Int)
    split <;> omega
  · exact fact_cut (a := g.a.oa) (l := g.la) (c := g.a.ca) (m := g.a.l.length) (k := .i64) rfl rfl (by omega) rfl
  · exact fact_cut (a := g.a.ob) (l := g.lt) (c := g.a.cb) (m := g.a.t.length) (k := .i64) rfl rfl (by omega) rfl
  · show (g.b.l.length : Int) = if (260 : Int) < (g.ma : Int) then 260 else (g.ma : Int)
    split <;> omega
  · show (g.b.t.length : Int) = if (4 : Int) < (g.mt : Int) then 4 else (g.mt : Int)
    split <;> omega
  · exact fact_cut (a := g.b.oa) (l := g.ma) (c := g.b.ca) (m := g.b.l.length) (k := .i64) rfl rfl (by omega) rfl
  · exact fact_cut (a := g.b.ob) (l := g.mt) (c := g.b.cb) (m := g.b.t.length) (k := .i64) rfl rfl (by omega) rfl
theorem ewAt_ok {iv : Ivs} {t c d : Nat} {s : ByteArray} (h1 : IvOK iv (wrho g i)) (hs : (wrho g i).val t = .string s) (hc : (wrho g i).int c = byteI s i) (hd : (wrho g i).int d = byteI s (i - 1)) (hi : i < s.size) (hb : s.size ≤ 100000) : FsOK (ewAt iv t c d) (wrho g i) := by
  have e0 : FactOK (wrho g i) (.fn .sidx [.sym t, si 60] (.sint .u8 c)) := fact_sidx (s := s) (i := i) hs rfl hi hc
  have e1 : FactOK (wrho g i) (.bin .add (si 60) (.int .i64 1) (si 64)) := fact_add rfl (show -9223372036854775808 ≤ (i : Int) + 1 by omega) (show (i : Int) + 1 ≤ 9223372036854775807 by omega)
  unfold ewAt
  split
  · rename_i hz
    have hz := of_decide_eq_true hz
    have := (h1 60).1
    have e60 : (wrho g i).int 60 = (i : Int) := rfl
    rw [e60] at this
    exact fs_cons e0 (fs_cons e1 (fs_cons (fact_sub rfl (show -9223372036854775808 ≤ (i : Int) - 1 by omega) (show (i : Int) - 1 ≤ 9223372036854775807 by omega)) (fs_cons (fact_sidx (s := s) (i := i - 1) hs (show (i : Int) - 1 = ((i - 1 : Nat) : Int) by omega) (by show i - 1 < s.size; omega) hd) fs_nil)))
  · exact fs_cons e0 (fs_cons e1 fs_nil)
theorem ewQ_ok {iv : Ivs} {s t : Nat} {e : EvG} (h : e.OK w) (h1 : IvOK iv (wrho g i)) (hs : (wrho g i).int s = okI e) (ht : (wrho g i).val t = .string (txtB e)) : FsOK (ewQ iv s t) (wrho g i) := by
  have hv := h1 s
  rw [hs] at hv
  unfold ewQ
  split
  · rename_i hz
    have hz := of_decide_eq_true hz
    have ok : chk e = 0 := by
      apply Classical.byContradiction
      intro k
      have : okI e = 0 := if_neg k
      omega
    exact fs_cons (fact_eql (s := txtB e) (t := ⟨#[63]⟩) (by simp only [sval, ht]) rfl (decide_eq_false (ok_text h ok)).symm) fs_nil
  · rename_i hz _
    have hz := of_decide_eq_true hz
    have ok : chk e ≠ 0 := fun k => by
      have : okI e = 1 := if_pos k
      omega
    have et : txtB e = ⟨#[63]⟩ := by
      unfold txtB
      rw [if_neg ok]
    exact fs_cons (fact_eql (s := txtB e) (t := ⟨#[63]⟩) (by simp only [sval, ht]) rfl (decide_eq_true et).symm) fs_nil
  · exact fs_nil
theorem good_of_iv {iv : Ivs} {s : Nat} {e : EvG} (h1 : IvOK iv (wrho g i)) (hs : (wrho g i).int s = okI e) (hz : decide (1 ≤ (ivAt iv s).1) = true) : chk e = 0 := by
  have hv := h1 s
  rw [hs] at hv
  have hz := of_decide_eq_true hz
  apply Classical.byContradiction
  intro k
  have : okI e = 0 := if_neg k
  omega
theorem ne_empty {e : EvG} (h : e.OK w) : txtB e ≠ ⟨#[]⟩ := fun k => by
  have := text_pos h
  rw [k] at this
  exact absurd this (by decide)
theorem ewEnd_ok {iv : Ivs} (h : g.OK w) (h1 : IvOK iv (wrho g i)) : FsOK (ewEnd iv) (wrho g i) := by
  unfold ewEnd
  refine fs_cons (fact_eql (s := txtB g.a) (t := ⟨#[]⟩) rfl rfl (decide_eq_false (ne_empty h.a)).symm) (fs_cons (fact_eql (s := txtB g.c) (t := ⟨#[]⟩) rfl rfl (decide_eq_false (ne_empty h.c)).symm) (fs_app (ewQ_ok h.a h1 rfl rfl) (fs_app (ewQ_ok h.c h1 rfl rfl) ?_)))
  split
  · rename_i z1 z2
    have g1 := good_of_iv h1 (s := 58) (e := g.a) rfl z1
    have g2 := good_of_iv h1 (s := 59) (e := g.c) rfl z2
    obtain ⟨_, a2, a3⟩ := words_ok h.a g1
    obtain ⟨_, c2, c3⟩ := words_ok h.c g2
    have ek : g.c.k = g.a.k := rfl
    have ew : wl (tB g.a) = wl (tB g.c) := by rw [a2, c2, ek]
    refine fs_cons (fact_eql (s := bstr (wl (tB g.a))) (t := bstr (wl (tB g.c))) rfl rfl (decide_eq_true (by rw [ew])).symm) (fs_cons (fact_neq (s := bstr (wl (tB g.a))) (t := ⟨#[]⟩) rfl rfl ?_) fs_nil)
    rw [decide_eq_false fun k => a3 (a2.symm.trans ?_)]
    · rfl
    · have : (bstr (wl (tB g.a))).data.toList = [] := by rw [k]
      exact this
  · exact fs_nil
theorem ew_ok (h : g.OK w) {iv : Ivs} {fs : List Fact} (h1 : IvOK iv (wrho g i)) (h2 : FsOK fs (wrho g i)) (φ : Phi) (hφ : φ.ρ = wrho g i) : EnvP (Ew iv fs) φ w := by
  have s1 := txtB_size h.a
  have s2 := txtB_size h.c
  unfold Ew
  split
  · rename_i ha
    have hlt : (i : Int) < ((txtB g.a).size : Int) := lss_has w ha h2
    exact ⟨by rw [hφ]; exact h1, by rw [hφ]; exact fs_app h2 (fs_app (ewF_ok h) (ewAt_ok h1 rfl rfl rfl (by omega) s1)), fun k cs h => by cases h⟩
  · rename_i ha
    have hlt : (i : Int) < ((txtB g.c).size : Int) := lss_has w ha h2
    exact ⟨by rw [hφ]; exact h1, by rw [hφ]; exact fs_app h2 (fs_app (ewF_ok h) (ewAt_ok h1 rfl rfl rfl (by omega) s2)), fun k cs h => by cases h⟩
  · exact ⟨by rw [hφ]; exact h1, by rw [hφ]; exact fs_app h2 (fs_app (ewF_ok h) (ewEnd_ok h h1)), fun k cs h => by cases h⟩
theorem ev_ofA {φ : Phi} {vs : List Value} (hφ : φ.ρ = wrho g i) (hv : VRs φ [evV (si 24)] vs) : vs = [g.a.val] := by
  simp only [VRs, VR, evV, si, hφ] at hv
  obtain ⟨_, _, rfl, ⟨_, ⟨_, _, rfl, rfl, _, _, rfl, rfl, _, _, rfl, rfl, _, _, rfl, rfl, _, _, rfl, rfl, _, _, rfl, rfl, _, _, rfl, rfl, _, _, rfl, rfl, _, _, rfl, rfl, _, _, rfl, rfl, _, _, rfl, rfl, _, _, rfl, rfl, _, _, rfl, rfl, rfl⟩, rfl⟩, rfl⟩ := hv
  rfl
theorem ev_ofC {φ : Phi} {vs : List Value} (hφ : φ.ρ = wrho g i) (hv : VRs φ [evB] vs) : vs = [g.c.val] := by
  simp only [VRs, VR, evB, si, hφ] at hv
  obtain ⟨_, _, rfl, ⟨_, ⟨_, _, rfl, rfl, _, _, rfl, rfl, _, _, rfl, rfl, _, _, rfl, rfl, _, _, rfl, rfl, _, _, rfl, rfl, _, _, rfl, rfl, _, _, rfl, rfl, _, _, rfl, rfl, _, _, rfl, rfl, _, _, rfl, rfl, _, _, rfl, rfl, _, _, rfl, rfl, rfl⟩, rfl⟩, rfl⟩ := hv
  rfl
theorem w_ext (hT : TabsOK tabs w) (h : g.OK w) : ∀ e ∈ ewKT, KEok Tryd.prog (wrho g i) w e := by
  intro e he
  simp only [ewKT, List.mem_cons, List.not_mem_nil, or_false] at he
  rcases he with rfl | rfl | rfl | rfl | rfl
  · intro φ vs w' hφ h1 h2 hv _
    rw [ev_ofA hφ hv]
    refine (texts (itoaOK (hT.of_old h2)) (h.a.later h1 h2)).mono ?_
    rintro en w'' ⟨rfl, hb⟩
    exact ⟨_, rfl, by simp only [VR, hφ]; rfl, hb⟩
  · intro φ vs w' hφ h1 h2 hv _
    rw [ev_ofC hφ hv]
    refine (texts (itoaOK (hT.of_old h2)) (h.c.later h1 h2)).mono ?_
    rintro en w'' ⟨rfl, hb⟩
    exact ⟨_, rfl, by simp only [VR, hφ]; rfl, hb⟩
  · intro φ vs w' hφ h1 h2 hv _
    simp only [VRs, VR, hφ] at hv
    obtain ⟨_, _, rfl, rfl, rfl⟩ := hv
    refine (wordC (w := w') (txtB_size h.a)).mono ?_
    rintro en w'' ⟨rfl, hb⟩
    exact ⟨_, rfl, by simp only [VR, hφ]; rfl, hb⟩
  · intro φ vs w' hφ h1 h2 hv _
    simp only [VRs, VR, hφ] at hv
    obtain ⟨_, _, rfl, rfl, rfl⟩ := hv
    refine (wordC (w := w') (txtB_size h.c)).mono ?_
    rintro en w'' ⟨rfl, hb⟩
    exact ⟨_, rfl, by simp only [VR, hφ]; rfl, hb⟩
  · intro φ vs w' hφ h1 h2 hv _
    simp only [VRs] at hv
    subst hv
    refine (rows.works w' (hT.of_old h2)).mono ?_
    rintro en w'' ⟨rfl, hb⟩
    exact ⟨_, rfl, by simp only [VR], hb⟩
theorem w_agree (i j : Nat) : agree 60 (wrho g i) (wrho g j) := fun k hk => by
  refine ⟨?_, rfl, rfl, rfl, rfl⟩
  show wint g j k = wint g i k
  have : ∀ n, n < 60 → wint g j n = wint g i n := by
    intro n hn
    rcases (show n = 0 ∨ n = 1 ∨ n = 2 ∨ n = 3 ∨ n = 4 ∨ n = 5 ∨ n = 6 ∨ n = 7 ∨ n = 8 ∨ n = 9 ∨ n = 10 ∨ n = 11 ∨ n = 12 ∨ n = 13 ∨ n = 14 ∨ n = 15 ∨ n = 16 ∨ n = 17 ∨ n = 18 ∨ n = 19 ∨ n = 20 ∨ n = 21 ∨ n = 22 ∨ n = 23 ∨ n = 24 ∨ n = 25 ∨ n = 26 ∨ n = 27 ∨ n = 28 ∨ n = 29 ∨ n = 30 ∨ n = 31 ∨ n = 32 ∨ n = 33 ∨ n = 34 ∨ n = 35 ∨ n = 36 ∨ n = 37 ∨ n = 38 ∨ n = 39 ∨ n = 40 ∨ n = 41 ∨ n = 42 ∨ n = 43 ∨ n = 44 ∨ n = 45 ∨ n = 46 ∨ n = 47 ∨ n = 48 ∨ n = 49 ∨ n = 50 ∨ n = 51 ∨ n = 52 ∨ n = 53 ∨ n = 54 ∨ n = 55 ∨ n = 56 ∨ n = 57 ∨ n = 58 ∨ n = 59 by omega) with e | e | e | e | e | e | e | e | e | e | e | e | e | e | e | e | e | e | e | e | e | e | e | e | e | e | e | e | e | e | e | e | e | e | e | e | e | e | e | e | e | e | e | e | e | e | e | e | e | e | e | e | e | e | e | e | e | e | e | e <;> rw [e] <;> rfl
  exact this k hk
/-! ### the paths -/
theorem w_cut (hT : TabsOK tabs w) (h : g.OK w) (hi : i ≤ 100000) {c : CutP} (hiv : c.iv = ewiv0) (hE : c.E = Ew) : @CutP.OK (extKA Tryd.prog ewKT ewK2) c w (wrho g i) := by
  letI : Ext := extKA Tryd.prog ewKT ewK2
  exact CutP.ok_of ⟨w_ext hT h, fun e he => by cases he⟩ (by rw [hiv]; exact w_iv h hi) fun iv fs h1 h2 φ hφ => by rw [hE]; exact ew_ok h h1 h2 φ hφ
/-- What a byte of a text is. -/
theorem byte_ok {e : EvG} (h : e.OK w) (hi : i < (txtB e).size) : byteI (txtB e) i ≠ 10 ∧ (byteI (txtB e) i = 32 → i ≠ 0 ∧ i + 1 ≠ (txtB e).size ∧ byteI (txtB e) (i - 1) ≠ 32) := by
  have hl : (tB e).length = (txtB e).size := rfl
  obtain ⟨k1, k2⟩ := scan_at (scan_text h) i _ (at_of (d := (0 : UInt8)) (show i < (tB e).length by omega))
  have nat : ∀ (c : UInt8) (n : Nat), n < 256 → (c.toNat : Int) = n → c = UInt8.ofNat n := fun c n hn he => by
    have : c.toNat = n := by omega
    rw [← this, UInt8.ofNat_toNat]
  refine ⟨fun e1 => k1 (nat _ 10 (by decide) e1), fun e1 => ?_⟩
  obtain ⟨a1, a2, a3⟩ := k2 (nat _ 32 (by decide) e1)
  refine ⟨(fun hz => by cases a1 hz), (fun hz => by cases a2 (by rw [hl]; exact hz)), fun e2 => ?_⟩
  by_cases hz : i = 0
  · cases a1 hz
  · exact a3 _ (by omega) (at_of (d := (0 : UInt8)) (show i - 1 < (tB e).length by omega)) (nat _ 32 (by decide) e2)
abbrev WRun (g : EwG) (w : World) (p i : Nat) : Prop := ∃ k, @Runs (extKA Tryd.prog ewKT ewK2) ewC w (.bool true) k p (wrho g i)
theorem run5 (hT : TabsOK tabs w) (h : g.OK w) : WRun g w 5 0 := by
  letI : Ext := extKA Tryd.prog ewKT ewK2
  refine run_ret (c := ewc5) (r := .bool true) rfl (w_cut hT h (Nat.zero_le _) rfl rfl) ?_ rfl
  show valX ewt5 _ = _
  simp only [ewt5, valX]
  repeat' split
  all_goals rfl
theorem run4 (hT : TabsOK tabs w) (h : g.OK w) : ∀ m i, i + m = (txtB g.c).size → WRun g w 4 i := by
  letI : Ext := extKA Tryd.prog ewKT ewK2
  have sz := txtB_size h.c
  intro m
  induction m with
  | zero =>
    intro i hi
    refine run_step (c := ewc4) (d := ewc5) rfl (w_cut hT h (by omega) rfl rfl) (q := 5) (xs := []) ?_ rfl (w_agree i 0) trivial (run5 hT h)
    show valX ewt4 _ = _
    simp only [ewt4, valX]
    rw [if_neg (show ¬ (wrho g i).int 60 < (wrho g i).int 57 by show ¬ (i : Int) < ((txtB g.c).size : Int); omega)]
  | succ m ih =>
    intro i hi
    refine run_step (c := ewc4) (d := ewc4) rfl (w_cut hT h (by omega) rfl rfl) (q := 4) (xs := [.sint .i64 64]) ?_ rfl (w_agree i (i + 1)) ⟨⟨.int .i64 ((i : Int) + 1), rfl, rfl⟩, trivial⟩ (ih (i + 1) (by omega))
    obtain ⟨a1, a2⟩ := byte_ok h.c (show i < (txtB g.c).size by omega)
    have e60 : (wrho g i).int 60 = (i : Int) := rfl
    have e57 : (wrho g i).int 57 = ((txtB g.c).size : Int) := rfl
    have e64 : (wrho g i).int 64 = (i : Int) + 1 := rfl
    have e65 : (wrho g i).int 65 = byteI (txtB g.c) i := rfl
    have e67 : (wrho g i).int 67 = byteI (txtB g.c) (i - 1) := rfl
    show valX ewt4 _ = _
    simp only [ewt4, valX]
    rw [if_pos (show (wrho g i).int 60 < (wrho g i).int 57 by show (i : Int) < ((txtB g.c).size : Int); omega)]
    simp only [e60, e57, e64, e65, e67]
    repeat' split
    all_goals first
      | rfl
      | (exfalso; omega)
theorem run3 (hT : TabsOK tabs w) (h : g.OK w) : WRun g w 3 0 := by
  letI : Ext := extKA Tryd.prog ewKT ewK2
  refine run_step (c := ewc3) (d := ewc4) rfl (w_cut hT h (Nat.zero_le _) rfl rfl) (q := 4) (xs := [.int .i64 0]) ?_ rfl (w_agree 0 0) ⟨⟨.int .i64 0, rfl, rfl⟩, trivial⟩ (run4 hT h _ 0 (Nat.zero_add _))
  show valX ewt3 _ = _
  simp only [ewt3, valX]
  repeat' split
  all_goals rfl
theorem run2 (hT : TabsOK tabs w) (h : g.OK w) : ∀ m i, i + m = (txtB g.a).size → WRun g w 2 i := by
  letI : Ext := extKA Tryd.prog ewKT ewK2
  have sz := txtB_size h.a
  intro m
  induction m with
  | zero =>
    intro i hi
    refine run_step (c := ewc2) (d := ewc3) rfl (w_cut hT h (by omega) rfl rfl) (q := 3) (xs := []) ?_ rfl (w_agree i 0) trivial (run3 hT h)
    show valX ewt2 _ = _
    simp only [ewt2, valX]
    rw [if_neg (show ¬ (wrho g i).int 60 < (wrho g i).int 55 by show ¬ (i : Int) < ((txtB g.a).size : Int); omega)]
  | succ m ih =>
    intro i hi
    refine run_step (c := ewc2) (d := ewc2) rfl (w_cut hT h (by omega) rfl rfl) (q := 2) (xs := [.sint .i64 64]) ?_ rfl (w_agree i (i + 1)) ⟨⟨.int .i64 ((i : Int) + 1), rfl, rfl⟩, trivial⟩ (ih (i + 1) (by omega))
    obtain ⟨a1, a2⟩ := byte_ok h.a (show i < (txtB g.a).size by omega)
    have e60 : (wrho g i).int 60 = (i : Int) := rfl
    have e55 : (wrho g i).int 55 = ((txtB g.a).size : Int) := rfl
    have e64 : (wrho g i).int 64 = (i : Int) + 1 := rfl
    have e61 : (wrho g i).int 61 = byteI (txtB g.a) i := rfl
    have e62 : (wrho g i).int 62 = byteI (txtB g.a) (i - 1) := rfl
    show valX ewt2 _ = _
    simp only [ewt2, valX]
    rw [if_pos (show (wrho g i).int 60 < (wrho g i).int 55 by show (i : Int) < ((txtB g.a).size : Int); omega)]
    simp only [e60, e55, e64, e61, e62]
    repeat' split
    all_goals first
      | rfl
      | (exfalso; omega)
theorem run0 (hT : TabsOK tabs w) (h : g.OK w) : WRun g w 0 0 := by
  letI : Ext := extKA Tryd.prog ewKT ewK2
  refine run_step (c := ewc0) (d := ewc1) rfl (w_cut hT h (Nat.zero_le _) rfl rfl) (q := 1) (xs := []) rfl rfl (w_agree 0 0) trivial (run_step (c := ewc1) (d := ewc2) rfl (w_cut hT h (Nat.zero_le _) rfl rfl) (q := 2) (xs := [.int .i64 0]) ?_ rfl (w_agree 0 0) ⟨⟨.int .i64 0, rfl, rfl⟩, trivial⟩ (run2 hT h _ 0 (Nat.zero_add _)))
  show valX ewt1 _ = _
  simp only [ewt1, valX]
  repeat' split
  all_goals rfl
theorem w_args : VRs ⟨fun _ => none, wrho g 0⟩ [rawA, rawB] [g.a.raw g.la g.lt, g.b.raw g.ma g.mt] := by
  simp only [VRs, VR, rawA, rawB, si]
  refine ⟨_, _, rfl, ⟨[.int .i64 g.a.k, .int .i64 g.a.a, .int .i64 g.a.b, .int .i64 g.a.n, .int .i64 g.a.m, .slice g.a.oa g.la g.a.ca, .int .i64 g.a.i5, .int .i64 g.a.i6, .int .i64 g.a.i7, .int .i64 g.a.i8, .int .i64 g.a.i9, .int .i64 g.a.i10, .slice g.a.ob g.lt g.a.cb], ?_, rfl⟩, _, [], rfl, ⟨[.int .i64 g.b.k, .int .i64 g.b.a, .int .i64 g.b.b, .int .i64 g.b.n, .int .i64 g.b.m, .slice g.b.oa g.ma g.b.ca, .int .i64 g.b.i5, .int .i64 g.b.i6, .int .i64 g.b.i7, .int .i64 g.b.i8, .int .i64 g.b.i9, .int .i64 g.b.i10, .slice g.b.ob g.mt g.b.cb], ?_, rfl⟩, rfl⟩
  · exact ⟨_, _, rfl, rfl, _, _, rfl, rfl, _, _, rfl, rfl, _, _, rfl, rfl, _, _, rfl, rfl, _, _, rfl, rfl, _, _, rfl, rfl, _, _, rfl, rfl, _, _, rfl, rfl, _, _, rfl, rfl, _, _, rfl, rfl, _, _, rfl, rfl, _, _, rfl, rfl, rfl⟩
  · exact ⟨_, _, rfl, rfl, _, _, rfl, rfl, _, _, rfl, rfl, _, _, rfl, rfl, _, _, rfl, rfl, _, _, rfl, rfl, _, _, rfl, rfl, _, _, rfl, rfl, _, _, rfl, rfl, _, _, rfl, rfl, _, _, rfl, rfl, _, _, rfl, rfl, _, _, rfl, rfl, rfl⟩
theorem lawW (hT : TabsOK tabs w) (h : g.OK w) : Calls Tryd.prog 6 #[g.a.raw g.la g.lt, g.b.raw g.ma g.mt] w fun e w' => e = .returned (.bool true) ∧ Below w.heap.size w w' := by
  letI : Ext := extKA Tryd.prog ewKT ewK2
  obtain ⟨k, hk⟩ := run0 hT h
  exact auto_callsP ewauto Tryd.func6 (by kernel_rfl) (args := [rawA, rawB]) (by kernel_rfl) (c := ewc0) rfl rfl rfl rfl rfl (fun r b h => by cases h) w_args hk
end
end
end Go.Proofs.YtjfbakhebdhbmaaDoor.event
