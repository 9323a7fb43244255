/-
  Folds of effects: what chars.Fold tells, of any list that lies in memory.
-/
import Derived.Test.YtgbhmkdldfhamaaTxE
namespace Go.Proofs.Ytgbhmkdldfhamaa.split
open Go.Ev Go.RowKit
set_option linter.unusedVariables false
noncomputable section
structure Eff where
  op : Int
  a : Int
  b : Int
  st : Int
def Eff.cell (e : Eff) : Nat → Int
  | 0 => e.op
  | 1 => e.a
  | 2 => e.b
  | _ => e.st
def eff0 : Eff := ⟨0, 0, 0, 0⟩
/-- From -999 to 999. -/
def mx (n : Int) : Int := if -999 > n then -999 else n
def sm (n : Int) : Int := if 999 < mx n then 999 else mx n
def w64 (n : Int) : Int := IntKind.i64.wrap n
def kor (a b : Int) : Int := w64 (BitVec.ofInt 64 a ||| BitVec.ofInt 64 b).toNat
def kan (a b : Int) : Int := w64 (BitVec.ofInt 64 a &&& ~~~(BitVec.ofInt 64 b)).toNat
/-- Numbers: power, toughness, keys. -/
structure Nums where
  p : Int
  t : Int
  k : Int
def stepF (s : Nums) (e : Eff) : Nums :=
  if e.op = 1 then ⟨s.p, s.t, kor s.k e.a⟩ else if e.op = 2 then ⟨s.p, s.t, kan s.k e.a⟩ else if e.op = 3 then ⟨sm e.a, sm e.b, s.k⟩ else if e.op = 4 then ⟨w64 (s.p + sm e.a), w64 (s.t + sm e.b), s.k⟩ else s
def clamp (s : Nums) : Nums := ⟨sm s.p, sm s.t, s.k⟩
def foldN (s : Nums) (l : List Eff) : Nums := clamp (l.foldl stepF (clamp s))
def I64 (n : Int) : Prop := -9223372036854775808 ≤ n ∧ n ≤ 9223372036854775807
theorem w64_fits (n : Int) : I64 (w64 n) := by
  unfold w64 I64
  rw [IntKind.wrap_i64]
  omega
theorem mx_fits {n : Int} (h : I64 n) : I64 (mx n) := by unfold mx I64 at *; split <;> omega
theorem sm_fits {n : Int} (h : I64 n) : I64 (sm n) := by have := mx_fits h; unfold sm; split <;> first | exact this | (unfold I64; omega)
theorem i64_0 : I64 0 := ⟨by omega, by omega⟩
structure Nums.Fit (s : Nums) : Prop where
  p : I64 s.p
  t : I64 s.t
  k : I64 s.k
structure Eff.Fit (e : Eff) : Prop where
  op : I64 e.op
  a : I64 e.a
  b : I64 e.b
  st : I64 e.st
theorem clamp_fit {s : Nums} (h : s.Fit) : (clamp s).Fit := ⟨sm_fits h.p, sm_fits h.t, h.k⟩
theorem step_fit {s : Nums} {e : Eff} (h : s.Fit) (he : e.Fit) : (stepF s e).Fit := by
  unfold stepF
  split
  · exact ⟨h.p, h.t, w64_fits _⟩
  split
  · exact ⟨h.p, h.t, w64_fits _⟩
  split
  · exact ⟨sm_fits he.a, sm_fits he.b, h.k⟩
  split
  · exact ⟨w64_fits _, w64_fits _, h.k⟩
  · exact h
/-- A list of effects in memory. -/
structure FoIn where
  l : List Eff
  oa : Option Addr
  ca : Nat
  B : Nat
  O : Nat
structure FoIn.OK (g : FoIn) (w : World) : Prop where
  n : g.l.length ≤ 9223372036854775807
  fit : ∀ e ∈ g.l, e.Fit
  cl : ∀ i e, g.l[i]? = some e → g.oa = some ⟨g.B, g.O, none⟩ ∧ g.B < w.heap.size ∧ ∀ j, j < 4 → w.cell? ⟨g.B, g.O + i * 4 + j, none⟩ = some (.int .i64 (e.cell j))
def FoIn.at (g : FoIn) (i : Nat) : Eff := g.l.getD i eff0
def fint (g : FoIn) (i : Nat) (s : Nums) : Nat → Int
  | 2 => (g.l.length : Int)
  | 3 => s.p
  | 4 => s.t
  | 5 => s.k
  | 9 => w64 ((i : Int) + 1)
  | 10 => (i : Int)
  | 20 => (g.at i).op
  | 21 => (g.at i).a
  | 22 => (g.at i).b
  | 23 => (g.at i).st
  | 24 => mx (g.at i).a
  | 25 => sm (g.at i).a
  | 26 => mx (g.at i).b
  | 27 => sm (g.at i).b
  | 28 => w64 (s.p + sm (g.at i).a)
  | 29 => w64 (s.t + sm (g.at i).b)
  | 30 => kor s.k (g.at i).a
  | 31 => kan s.k (g.at i).a
  | 32 => mx s.p
  | 33 => sm s.p
  | 34 => mx s.t
  | 35 => sm s.t
  | _ => 0
def fval (g : FoIn) : Nat → Value
  | 0 => .slice g.oa g.l.length g.ca
  | _ => .bool false
theorem fval_one {g : FoIn} (j : Nat) : (fval g j).oneCell' = true := by
  unfold fval
  split <;> rfl
def frho (g : FoIn) (i : Nat) (s : Nums) : Rho :=
  ⟨fint g i s, fval g, fun _ => g.B, fun k => if k = 5 then g.O + i * 4 else g.O, fval_one, fun _ => [], fun _ _ h => by cases h⟩
theorem eff0_fit : eff0.Fit := ⟨i64_0, i64_0, i64_0, i64_0⟩
section
variable {w : World} {g : FoIn} {i : Nat} {s : Nums}
theorem at_fit (h : g.OK w) (i : Nat) : (g.at i).Fit := by
  unfold FoIn.at
  rw [List.getD_eq_getElem?_getD]
  cases hx : g.l[i]? with
  | none => exact eff0_fit
  | some e => exact h.fit e (List.mem_of_getElem? hx)
theorem fint_fits (h : g.OK w) (hi : i ≤ g.l.length) (hs : s.Fit) : ∀ k, I64 (fint g i s k) := fun k => by
  have hn := h.n
  have he := at_fit h i
  unfold fint
  split
  · exact ⟨by omega, by omega⟩
  · exact hs.p
  · exact hs.t
  · exact hs.k
  · exact w64_fits _
  · exact ⟨by omega, by omega⟩
  · exact he.op
  · exact he.a
  · exact he.b
  · exact he.st
  · exact mx_fits he.a
  · exact sm_fits he.a
  · exact mx_fits he.b
  · exact sm_fits he.b
  · exact w64_fits _
  · exact w64_fits _
  · exact w64_fits _
  · exact w64_fits _
  · exact mx_fits hs.p
  · exact sm_fits hs.p
  · exact mx_fits hs.t
  · exact sm_fits hs.t
  · exact i64_0
theorem iv_fo (h : g.OK w) (hi : i ≤ g.l.length) (hs : s.Fit) : IvOK foiv1 (frho g i s) := by
  have f := fint_fits h hi hs
  have hl := h.n
  refine iv_all (f := fint g i s) ?_ f
  unfold foiv1
  refine ⟨f 0, f 1, ⟨by show (0 : Int) ≤ (g.l.length : Int); omega, by show (g.l.length : Int) ≤ _; omega⟩, f 3, f 4, f 5, f 6, f 7, f 8, f 9, ⟨by show (0 : Int) ≤ (i : Int); omega, by show (i : Int) ≤ _; omega⟩, f 11, f 12, f 13, f 14, f 15, f 16, f 17, f 18, f 19, f 20, f 21, f 22, f 23, f 24, f 25, f 26, f 27, f 28, f 29, f 30, f 31, f 32, f 33, f 34, f 35, trivial⟩
theorem iv_fo2 (h : g.OK w) (hi : i ≤ g.l.length) (hs : s.Fit) : IvOK foiv2 (frho g i s) := fun k => fint_fits h hi hs k
theorem fact_max {ρ : Rho} {a b : Nat} {c : Int} (h : ρ.int b = if c > ρ.int a then c else ρ.int a) : FactOK ρ (.fn .max [si a, .int .i64 c] (si b)) :=
  ⟨[.int .i64 (ρ.int a), .int .i64 c], .int .i64 (ρ.int b), rfl, rfl, by simp only [FOsem, h]⟩
theorem fact_min {ρ : Rho} {a b : Nat} {c : Int} (h : ρ.int b = if c < ρ.int a then c else ρ.int a) : FactOK ρ (.fn .min [si a, .int .i64 c] (si b)) :=
  ⟨[.int .i64 (ρ.int a), .int .i64 c], .int .i64 (ρ.int b), rfl, rfl, by simp only [FOsem, h]⟩
theorem fact_addW {ρ : Rho} {a b : Nat} {y : VV} {n : Int} (hy : sval ρ y = some (.int .i64 n)) (h : ρ.int b = w64 (ρ.int a + n)) : FactOK ρ (.bin .add (si a) y (si b)) := by
  refine ⟨_, _, _, rfl, hy, rfl, by simp, by simp, fun P t w => ?_⟩
  rw [h]
  simp [binOp, Op.intArith, w64]
theorem fact_or {ρ : Rho} {a b c : Nat} (h : ρ.int c = kor (ρ.int a) (ρ.int b)) : FactOK ρ (.bin .or (si a) (si b) (si c)) := by
  refine ⟨_, _, _, rfl, rfl, rfl, by simp, by simp, fun P t w => ?_⟩
  rw [h]
  unfold binOp
  rfl
theorem fact_an {ρ : Rho} {a b c : Nat} (h : ρ.int c = kan (ρ.int a) (ρ.int b)) : FactOK ρ (.bin .andNot (si a) (si b) (si c)) := by
  refine ⟨_, _, _, rfl, rfl, rfl, by simp, by simp, fun P t w => ?_⟩
  rw [h]
  unfold binOp
  rfl
theorem foF_ok : FsOK foF (frho g i s) :=
  fs_cons (fact_len rfl rfl) (fs_cons (fact_max rfl) (fs_cons (fact_min rfl) (fs_cons (fact_max rfl) (fs_cons (fact_min rfl) fs_nil))))
theorem foEl_ok (h : g.OK w) (hi : i < g.l.length) : FsOK foEl (frho g i s) := by
  obtain ⟨g1, _, _⟩ := h.cl i _ (List.getElem?_eq_getElem hi)
  refine fs_cons (fact_at (n := i) (B := g.B) (O := g.O) (l := g.l.length) (c := g.ca) ?_ rfl hi rfl rfl) ?_
  · show some (Value.slice g.oa g.l.length g.ca) = _
    rw [g1]
  exact fs_cons (fact_addW rfl rfl) (fs_cons (fact_max rfl) (fs_cons (fact_min rfl) (fs_cons (fact_max rfl) (fs_cons (fact_min rfl) (fs_cons (fact_addW rfl rfl) (fs_cons (fact_addW rfl rfl) (fs_cons (fact_or rfl) (fs_cons (fact_an rfl) fs_nil))))))))
theorem lss_has {fs : List Fact} {a b : Nat} {ρ : Rho} (w : World) (h : hasLss fs a b = true) (k : FsOK fs ρ) : ρ.int a < ρ.int b := by
  unfold hasLss at h
  rw [List.any_eq_true] at h
  obtain ⟨f, hf, hh⟩ := h
  split at hh
  · rename_i k1 x k2 y
    simp only [Bool.and_eq_true] at hh
    have e1 := Nat.eq_of_beq_eq_true hh.1
    have e2 := Nat.eq_of_beq_eq_true hh.2
    subst e1 e2
    exact lss_of Try.prog w (k _ hf)
  · cases hh
theorem at_of (hi : i < g.l.length) : g.l[i]? = some (g.at i) := by
  unfold FoIn.at
  rw [List.getD_eq_getElem?_getD, List.getElem?_eq_getElem hi]
  rfl
theorem fl_ok (h : g.OK w) {iv : Ivs} {fs : List Fact} (h1 : IvOK iv (frho g i s)) (h2 : FsOK fs (frho g i s)) (φ : Phi) (hφ : φ.ρ = frho g i s) : EnvP (Floop iv fs) φ w := by
  have v : ∀ k, VR φ (sv iv .i64 k) (.int .i64 (fint g i s k)) := fun k => by have := VR_sv (φ := φ) (iv := iv) (by rw [hφ]; exact h1) .i64 k; rw [hφ] at this; exact this
  have v' : ∀ k, VR φ (si k) (.int .i64 (fint g i s k)) := fun k => by simp only [si, VR, hφ]; rfl
  unfold Floop
  split
  · rename_i hh
    have hi : (i : Int) < (g.l.length : Int) := lss_has w hh h2
    refine ⟨by rw [hφ]; exact h1, by rw [hφ]; exact fs_app h2 (fs_app foF_ok (foEl_ok h (by omega))), fun k cs hk => ?_⟩
    simp only at hk
    split at hk
    · rename_i hb
      have := Nat.eq_of_beq_eq_true hb
      subst this
      cases hk
      obtain ⟨g1, g2, g3⟩ := h.cl i _ (at_of (by omega))
      have eb : φ.ρ.blk 5 = g.B := by rw [hφ]; rfl
      have eo : φ.ρ.off 5 = g.O + i * 4 := by rw [hφ]; rfl
      rw [eb, eo]
      refine ⟨g2, fun j x hx => ?_⟩
      match j with
      | 0 => cases hx; exact ⟨_, g3 0 (by omega), v 20⟩
      | 1 => cases hx; exact ⟨_, g3 1 (by omega), v' 21⟩
      | 2 => cases hx; exact ⟨_, g3 2 (by omega), v' 22⟩
      | 3 => cases hx; exact ⟨_, g3 3 (by omega), v' 23⟩
      | j + 4 => simp at hx
    · cases hk
  · exact ⟨by rw [hφ]; exact h1, by rw [hφ]; exact fs_app h2 foF_ok, fun k cs h => by cases h⟩
theorem extF {ρ : Rho} : (∀ e ∈ foKT, KEok Try.prog ρ w e) ∧ ∀ e ∈ foK2, KE2ok Try.prog ρ w e := ⟨(fun e he => by cases he), (fun e he => by cases he)⟩
theorem extF' : @Ext.ok (extKA Try.prog foKT foK2) (frho g i s) w := extF
theorem floopE (h : g.OK w) (iv : Ivs) (fs : List Fact) (h1 : IvOK iv (frho g i s)) (h2 : FsOK fs (frho g i s)) (φ : Phi) (hφ : φ.ρ = frho g i s) : EnvP (Floop iv fs) φ w := fl_ok h h1 h2 φ hφ
theorem okF {c : CutP} (hE : c.E = Floop) (hiv : c.iv = foiv1) (h : g.OK w) (hi : i ≤ g.l.length) (hs : s.Fit) : @CutP.OK (extKA Try.prog foKT foK2) c w (frho g i s) := by
  refine @CutP.ok_of (extKA Try.prog foKT foK2) c w (frho g i s) extF' (hiv ▸ iv_fo h hi hs) ?_
  rw [hE]
  exact floopE h
theorem okF2 {c : CutP} (hE : c.E = Floop) (hiv : c.iv = foiv2) (h : g.OK w) (hi : i ≤ g.l.length) (hs : s.Fit) : @CutP.OK (extKA Try.prog foKT foK2) c w (frho g i s) := by
  refine @CutP.ok_of (extKA Try.prog foKT foK2) c w (frho g i s) extF' (hiv ▸ iv_fo2 h hi hs) ?_
  rw [hE]
  exact floopE h
theorem fi0 {g : FoIn} {i : Nat} {s : Nums} : (frho g i s).int 0 = 0 := rfl
theorem fi1 {g : FoIn} {i : Nat} {s : Nums} : (frho g i s).int 1 = 0 := rfl
theorem fi2 {g : FoIn} {i : Nat} {s : Nums} : (frho g i s).int 2 = (g.l.length : Int) := rfl
theorem fi3 {g : FoIn} {i : Nat} {s : Nums} : (frho g i s).int 3 = s.p := rfl
theorem fi4 {g : FoIn} {i : Nat} {s : Nums} : (frho g i s).int 4 = s.t := rfl
theorem fi5 {g : FoIn} {i : Nat} {s : Nums} : (frho g i s).int 5 = s.k := rfl
theorem fi6 {g : FoIn} {i : Nat} {s : Nums} : (frho g i s).int 6 = 0 := rfl
theorem fi7 {g : FoIn} {i : Nat} {s : Nums} : (frho g i s).int 7 = 0 := rfl
theorem fi8 {g : FoIn} {i : Nat} {s : Nums} : (frho g i s).int 8 = 0 := rfl
theorem fi9 {g : FoIn} {i : Nat} {s : Nums} : (frho g i s).int 9 = w64 ((i : Int) + 1) := rfl
theorem fi10 {g : FoIn} {i : Nat} {s : Nums} : (frho g i s).int 10 = (i : Int) := rfl
theorem fi25 {g : FoIn} {i : Nat} {s : Nums} : (frho g i s).int 25 = sm (g.at i).a := rfl
theorem fi27 {g : FoIn} {i : Nat} {s : Nums} : (frho g i s).int 27 = sm (g.at i).b := rfl
theorem fi28 {g : FoIn} {i : Nat} {s : Nums} : (frho g i s).int 28 = w64 (s.p + sm (g.at i).a) := rfl
theorem fi29 {g : FoIn} {i : Nat} {s : Nums} : (frho g i s).int 29 = w64 (s.t + sm (g.at i).b) := rfl
theorem fi30 {g : FoIn} {i : Nat} {s : Nums} : (frho g i s).int 30 = kor s.k (g.at i).a := rfl
theorem fi31 {g : FoIn} {i : Nat} {s : Nums} : (frho g i s).int 31 = kan s.k (g.at i).a := rfl
theorem fi33 {g : FoIn} {i : Nat} {s : Nums} : (frho g i s).int 33 = sm s.p := rfl
theorem fi35 {g : FoIn} {i : Nat} {s : Nums} : (frho g i s).int 35 = sm s.t := rfl
theorem fagree {i j : Nat} {s s' : Nums} : agree 3 (frho g i s) (frho g j s') := fun k hk => by
  match k, hk with
  | 0, _ => exact ⟨by rw [fi0, fi0], rfl, rfl, rfl, rfl⟩
  | 1, _ => exact ⟨by rw [fi1, fi1], rfl, rfl, rfl, rfl⟩
  | 2, _ => exact ⟨by rw [fi2, fi2], rfl, rfl, rfl, rfl⟩
theorem agree00 {ρ ρ' : Rho} : agree 0 ρ ρ' := fun k hk => absurd hk (Nat.not_lt_zero _)
theorem car_i {ρ ρ' : Rho} {a b : Nat} (h : ρ'.int b = ρ.int a) : Car ρ ρ' (si a, si b) := ⟨.int .i64 (ρ.int a), rfl, by simp only [si, sval, h]⟩
theorem car_c {ρ ρ' : Rho} {n : Int} {b : Nat} (h : ρ'.int b = n) : Car ρ ρ' (.int .i64 n, si b) := ⟨.int .i64 n, rfl, by simp only [si, sval, h]⟩
theorem fold_run (h : g.OK w) : ∀ (m i : Nat) (s : Nums), i + m = g.l.length → s.Fit → ∃ k, @RunsH (extKA Try.prog foKT foK2) foC w 2 (frho g g.l.length (clamp ((g.l.drop i).foldl stepF s))) k 1 (frho g i s) := by
  letI : Ext := extKA Try.prog foKT foK2
  have hnl := h.n
  intro m
  induction m with
  | zero =>
    intro i s hi hs
    have hi : i = g.l.length := by omega
    subst hi
    have e0 : (g.l.drop g.l.length).foldl stepF s = s := by simp
    rw [e0]
    refine ⟨0, .exit (c := foc1) (d := foc2) (xs := [si 5, si 35, si 33]) rfl (okF rfl rfl h (Nat.le_refl _) hs) ?_ rfl rfl agree00 ?_ (okF2 rfl rfl h (Nat.le_refl _) (clamp_fit hs))⟩
    · show valX fot1 _ = _
      simp only [fot1, valX]
      rw [if_neg (show ¬ (frho g g.l.length s).int 10 < (frho g g.l.length s).int 2 by show ¬ ((g.l.length : Int) < (g.l.length : Int)); omega)]
      rfl
    · exact ⟨car_i (by rw [fi5, fi5] <;> rfl), car_i (by rw [fi4, fi35] <;> rfl), car_i (by rw [fi3, fi33] <;> rfl), trivial⟩
  | succ m ih =>
    intro i s hi hs
    have hlt : i < g.l.length := by omega
    obtain ⟨k, hk⟩ := ih (i + 1) (stepF s (g.at i)) (by omega) (step_fit hs (at_fit h i))
    have e1 : g.l.drop i = g.at i :: g.l.drop (i + 1) := by
      rw [List.drop_eq_getElem_cons hlt]
      congr 1
      have := at_of (g := g) hlt
      rw [List.getElem?_eq_getElem hlt] at this
      exact Option.some.inj this
    rw [e1, List.foldl_cons]
    have ei : (frho g (i + 1) (stepF s (g.at i))).int 10 = (frho g i s).int 9 := by
      rw [fi10, fi9]
      unfold w64
      rw [wrap_in (by simp [IntKind.min, IntKind.signed, IntKind.bits]; omega) (by simp [IntKind.max, IntKind.signed, IntKind.bits]; omega)]
      omega
    have go : ∀ xs, valX fot1 (frho g i s).int = .goto 1 xs → carry (frho g i s) (frho g (i + 1) (stepF s (g.at i))) xs foc1.ys → ∃ k, @RunsH (extKA Try.prog foKT foK2) foC w 2 (frho g g.l.length (clamp ((g.l.drop (i + 1)).foldl stepF (stepF s (g.at i))))) k 1 (frho g i s) := fun xs h1 h2 =>
      ⟨k + 1, .step (c := foc1) (d := foc1) (xs := xs) rfl (okF rfl rfl h (Nat.le_of_lt hlt) hs) h1 rfl (by decide) fagree h2 hk⟩
    have hrel : (frho g i s).int 10 < (frho g i s).int 2 := by show (i : Int) < (g.l.length : Int); omega
    have tree : ∀ (P : Leaf → Prop), (P (valX fot1 (frho g i s).int)) ↔ P (valX fot1 (frho g i s).int) := fun _ => Iff.rfl
    have e20 : (frho g i s).int 20 = (g.at i).op := rfl
    have keep : ∀ {a b c d}, a = 5 ∨ True → carry (frho g i s) (frho g (i + 1) ⟨b, c, d⟩) [] [] := fun _ => trivial
    by_cases o1 : (g.at i).op = 1
    · refine go [si 8, si 7, si 6, si 30, si 4, si 3, si 9] ?_ ?_
      · simp only [fot1, valX, if_pos hrel, e20, o1]
        rfl
      · have es : stepF s (g.at i) = ⟨s.p, s.t, kor s.k (g.at i).a⟩ := by unfold stepF; rw [if_pos o1]
        rw [es] at ei ⊢
        exact ⟨car_i (by rw [fi8, fi8] <;> rfl), car_i (by rw [fi7, fi7] <;> rfl), car_i (by rw [fi6, fi6] <;> rfl), car_i (by rw [fi5, fi30] <;> rfl), car_i (by rw [fi4, fi4] <;> rfl), car_i (by rw [fi3, fi3] <;> rfl), car_i ei, trivial⟩
    by_cases o2 : (g.at i).op = 2
    · refine go [si 8, si 7, si 6, si 31, si 4, si 3, si 9] ?_ ?_
      · simp only [fot1, valX, if_pos hrel, e20, o2]
        rfl
      · have es : stepF s (g.at i) = ⟨s.p, s.t, kan s.k (g.at i).a⟩ := by unfold stepF; rw [if_neg o1, if_pos o2]
        rw [es] at ei ⊢
        exact ⟨car_i (by rw [fi8, fi8] <;> rfl), car_i (by rw [fi7, fi7] <;> rfl), car_i (by rw [fi6, fi6] <;> rfl), car_i (by rw [fi5, fi31] <;> rfl), car_i (by rw [fi4, fi4] <;> rfl), car_i (by rw [fi3, fi3] <;> rfl), car_i ei, trivial⟩
    by_cases o3 : (g.at i).op = 3
    · refine go [si 8, si 7, si 6, si 5, si 27, si 25, si 9] ?_ ?_
      · simp only [fot1, valX, if_pos hrel, e20, o3]
        rfl
      · have es : stepF s (g.at i) = ⟨sm (g.at i).a, sm (g.at i).b, s.k⟩ := by unfold stepF; rw [if_neg o1, if_neg o2, if_pos o3]
        rw [es] at ei ⊢
        exact ⟨car_i (by rw [fi8, fi8] <;> rfl), car_i (by rw [fi7, fi7] <;> rfl), car_i (by rw [fi6, fi6] <;> rfl), car_i (by rw [fi5, fi5] <;> rfl), car_i (by rw [fi4, fi27] <;> rfl), car_i (by rw [fi3, fi25] <;> rfl), car_i ei, trivial⟩
    by_cases o4 : (g.at i).op = 4
    · refine go [si 8, si 7, si 6, si 5, si 29, si 28, si 9] ?_ ?_
      · simp only [fot1, valX, if_pos hrel, e20, o4]
        rfl
      · have es : stepF s (g.at i) = ⟨w64 (s.p + sm (g.at i).a), w64 (s.t + sm (g.at i).b), s.k⟩ := by unfold stepF; rw [if_neg o1, if_neg o2, if_neg o3, if_pos o4]
        rw [es] at ei ⊢
        exact ⟨car_i (by rw [fi8, fi8] <;> rfl), car_i (by rw [fi7, fi7] <;> rfl), car_i (by rw [fi6, fi6] <;> rfl), car_i (by rw [fi5, fi5] <;> rfl), car_i (by rw [fi4, fi29] <;> rfl), car_i (by rw [fi3, fi28] <;> rfl), car_i ei, trivial⟩
    · refine go [si 8, si 7, si 6, si 5, si 4, si 3, si 9] ?_ ?_
      · simp only [fot1, valX, if_pos hrel, e20]
        by_cases c1 : (g.at i).op ≤ -1
        · rw [if_pos c1]; rfl
        rw [if_neg c1]
        by_cases c2 : (g.at i).op ≤ 4
        · have e0 : (g.at i).op = 0 := by omega
          rw [e0]
          rfl
        · rw [if_neg c2]; rfl
      · have es : stepF s (g.at i) = s := by unfold stepF; rw [if_neg o1, if_neg o2, if_neg o3, if_neg o4]
        rw [es] at ei ⊢
        exact ⟨car_i (by rw [fi8, fi8] <;> rfl), car_i (by rw [fi7, fi7] <;> rfl), car_i (by rw [fi6, fi6] <;> rfl), car_i (by rw [fi5, fi5] <;> rfl), car_i (by rw [fi4, fi4] <;> rfl), car_i (by rw [fi3, fi3] <;> rfl), car_i ei, trivial⟩
theorem fold_entry (h : g.OK w) (hs : s.Fit) : ∃ k, @RunsH (extKA Try.prog foKT foK2) foC w 2 (frho g g.l.length (foldN s g.l)) k 0 (frho g 0 s) := by
  letI : Ext := extKA Try.prog foKT foK2
  obtain ⟨k, hk⟩ := fold_run h g.l.length 0 (clamp s) (by omega) (clamp_fit hs)
  refine ⟨k + 1, .step (c := foc0) (d := foc1) (xs := [.int .i64 0, .int .i64 0, .int .i64 0, si 5, si 35, si 33, .int .i64 0]) rfl (okF rfl rfl h (Nat.zero_le _) hs) rfl rfl (by decide) fagree ?_ hk⟩
  exact ⟨car_c fi8, car_c fi7, car_c fi6, car_i (by rw [fi5, fi5]; rfl), car_i (by rw [fi4, fi35]; rfl), car_i (by rw [fi3, fi33]; rfl), car_c (by rw [fi10]; rfl), trivial⟩
def numV (s : Nums) : Value := .agg ⟨[.int .i64 s.p, .int .i64 s.t, .int .i64 s.k]⟩
/-- chars.Fold, of any list in memory. -/
theorem fold_calls (h : g.OK w) (hs : s.Fit) : Calls Try.prog 18 ⟨[numV s, .slice g.oa g.l.length g.ca]⟩ w fun e w' => e = .returned (numV (foldN s g.l)) ∧ Below w.heap.size w w' := by
  letI : Ext := extKA Try.prog foKT foK2
  obtain ⟨k, hr⟩ := fold_entry h hs
  obtain ⟨c, hc, hok⟩ := hr.ok
  cases (show some foc0 = some c from hc)
  have hst : HSim w ⟨fun _ => none, frho g 0 s⟩ ⟨foc0.env (frho g 0 s), .lf, 0⟩ w := HSim.startE ((hok.env _ rfl).ok hok.ext) (fun r b hb => by rw [show (foc0.env (frho g 0 s)).blk = fun _ => none from foauto.blk 0 foc0 rfl _ _] at hb; cases hb)
  refine (autoH_calls foauto (f := 18) Try.func18 rfl (F := ⟨w, fun _ => none⟩) (fun i inf hi => by cases hi) (args := [.agg [si 3, si 4, si 5], .sym 0]) (c := foc0) (d := foc2) (p0 := 0) (by kernel_rfl) rfl rfl rfl rfl hst ?_ hr).mono ?_
  · simp only [VRs]
    refine ⟨_, _, rfl, ?_, _, _, rfl, ?_, rfl⟩
    · simp only [VR, VRs, si]
      exact ⟨_, ⟨_, _, rfl, rfl, _, _, rfl, rfl, _, _, rfl, rfl, rfl⟩, rfl⟩
    · simp only [VR]
      rfl
  · rintro e w' ⟨v, rfl, φ, hφ, k1, k2, k3⟩
    refine ⟨?_, k3.wk.os, k3.wk.tape, k3.wk.output, k3.wk.size, k2.old⟩
    have k1' : VR φ (.agg [si 3, si 4, si 5]) v := k1
    simp only [VR, VRs, si] at k1'
    obtain ⟨_, ⟨_, _, rfl, rfl, _, _, rfl, rfl, _, _, rfl, rfl, rfl⟩, rfl⟩ := k1'
    rw [hφ]
    rfl
end
end
end Go.Proofs.Ytgbhmkdldfhamaa.split
