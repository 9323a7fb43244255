/-
  Folds of effects (chars.Fold): symbols, facts, certificates (printed in part by a program of ours).
-/
import Derived.Test.YtgbhmkdldfhamaaProg
import Derived.Test.YtgbhmkdldfhamaaEv9
import Derived.ProofKit
import Derived.Test.YtgbhmkdldfhamaaEvQe
namespace Go.Proofs.Ytgbhmkdldfhamaa.order
open Go.Ev Go.RowKit
set_option linter.unusedVariables false
noncomputable section
abbrev bI : Int × Int := (-9223372036854775808, 9223372036854775807)
theorem noNG : Go.Ev.noNGb Try.prog = true := by kernel_rfl
theorem mixed : Try.prog.follows .mixedOrders = true := by kernel_rfl
def si (i : Nat) : VV := .sint .i64 i
def hasLss (fs : List Fact) (a b : Nat) : Bool := fs.any fun f => match f with
  | .bin .lss (.sint _ x) (.sint _ y) (.bool true) => Nat.beq x a && Nat.beq y b
  | _ => false
def foF : List Fact := [.len false (.sym 0) (si 2), .fn .max [si 3, .int .i64 (-999)] (si 32), .fn .min [si 32, .int .i64 999] (si 33), .fn .max [si 4, .int .i64 (-999)] (si 34), .fn .min [si 34, .int .i64 999] (si 35)]
def foEl : List Fact := [.at 4 (.sym 0) (si 10) ⟨.sym 5, 0⟩, .bin .add (si 10) (.int .i64 1) (si 9), .fn .max [si 21, .int .i64 (-999)] (si 24), .fn .min [si 24, .int .i64 999] (si 25), .fn .max [si 22, .int .i64 (-999)] (si 26), .fn .min [si 26, .int .i64 999] (si 27), .bin .add (si 3) (si 25) (si 28), .bin .add (si 4) (si 27) (si 29), .bin .or (si 5) (si 21) (si 30), .bin .andNot (si 5) (si 21) (si 31)]
def Floop (iv : Ivs) (fs : List Fact) : Env := match hasLss fs 10 2 with
  | true => ⟨fun _ => none, ivAt iv, fs ++ (foF ++ foEl), fun i => match Nat.beq i 5 with | true => some [sv iv .i64 20, si 21, si 22, si 23] | false => none⟩
  | false => ⟨fun _ => none, ivAt iv, fs ++ foF, fun _ => none⟩
theorem Floop_blk (iv : Ivs) (fs : List Fact) : (Floop iv fs).blk = fun _ => none := by
  unfold Floop
  split <;> rfl
def foiv0 : Go.Ev.Ivs := [bI, bI, (0, 9223372036854775807), bI, bI, bI, bI, bI, bI, bI, (0, 9223372036854775807), bI, bI, bI, bI, bI, bI, bI, bI, bI, bI, bI, bI, bI, bI, bI, bI, bI, bI, bI, bI, bI, bI, bI, bI, bI]
def fot0 : Go.Ev.TrX Go.Ev.Leaf := (.leaf (.goto 1 [(.int .i64 (0)), (.int .i64 (0)), (.int .i64 (0)), (.sint .i64 5), (.sint .i64 35), (.sint .i64 33), (.int .i64 (0))]))
def foc0 : Go.Ev.CutP := ⟨none, (.nd (.nd .lf (some (.sym 0)) .lf) (some (.agg [(.sint .i64 3), (.sint .i64 4), (.sint .i64 5)])) .lf), .lf, 0, 0, [], foiv0, Floop, fot0⟩
def foiv1 : Go.Ev.Ivs := [bI, bI, (0, 9223372036854775807), bI, bI, bI, bI, bI, bI, bI, (0, 9223372036854775807), bI, bI, bI, bI, bI, bI, bI, bI, bI, bI, bI, bI, bI, bI, bI, bI, bI, bI, bI, bI, bI, bI, bI, bI, bI]
def fot1 : Go.Ev.TrX Go.Ev.Leaf := (.rel .i64 10 2 (.cut 20 (-1) (.leaf (.goto 1 [(.sint .i64 8), (.sint .i64 7), (.sint .i64 6), (.sint .i64 5), (.sint .i64 4), (.sint .i64 3), (.sint .i64 9)])) (.cut 20 (4) (.cut 20 (0) (.leaf (.goto 1 [(.sint .i64 8), (.sint .i64 7), (.sint .i64 6), (.sint .i64 5), (.sint .i64 4), (.sint .i64 3), (.sint .i64 9)])) (.cut 20 (1) (.leaf (.goto 1 [(.sint .i64 8), (.sint .i64 7), (.sint .i64 6), (.sint .i64 30), (.sint .i64 4), (.sint .i64 3), (.sint .i64 9)])) (.cut 20 (2) (.leaf (.goto 1 [(.sint .i64 8), (.sint .i64 7), (.sint .i64 6), (.sint .i64 31), (.sint .i64 4), (.sint .i64 3), (.sint .i64 9)])) (.cut 20 (3) (.leaf (.goto 1 [(.sint .i64 8), (.sint .i64 7), (.sint .i64 6), (.sint .i64 5), (.sint .i64 27), (.sint .i64 25), (.sint .i64 9)])) (.leaf (.goto 1 [(.sint .i64 8), (.sint .i64 7), (.sint .i64 6), (.sint .i64 5), (.sint .i64 29), (.sint .i64 28), (.sint .i64 9)])))))) (.leaf (.goto 1 [(.sint .i64 8), (.sint .i64 7), (.sint .i64 6), (.sint .i64 5), (.sint .i64 4), (.sint .i64 3), (.sint .i64 9)])))) (.leaf (.goto 2 [(.sint .i64 5), (.sint .i64 35), (.sint .i64 33)])))
def foc1 : Go.Ev.CutP := ⟨some 0, (.nd (.nd (.nd (.nd (.nd (.nd .lf (some .any) .lf) (some .any) .lf) (some .any) (.nd (.nd .lf (some .any) .lf) (some .any) .lf)) (some .any) (.nd (.nd (.nd .lf (some .any) .lf) (some .any) .lf) (some .any) (.nd .lf (some .any) .lf))) (some .any) (.nd (.nd (.nd (.nd .lf (some .any) .lf) (some (.sint .i64 2)) .lf) (some .any) (.nd .lf (some .any) .lf)) (some .any) (.nd (.nd (.nd .lf (some .any) .lf) (some .any) .lf) (some .any) (.nd .lf (some .any) .lf)))) (some .any) (.nd (.nd (.nd (.nd (.nd .lf (some .any) .lf) (some (.sym 0)) .lf) (some .any) (.nd (.nd .lf (some .any) .lf) (some .any) .lf)) (some (.ptr (some ⟨(.loc 1), 0⟩))) (.nd (.nd (.nd .lf (some .any) .lf) (some .any) .lf) (some .any) (.nd .lf (some .any) .lf))) (some (.ptr (some ⟨(.loc 0), 0⟩))) (.nd (.nd (.nd (.nd .lf (some .any) .lf) (some (.sint .i64 10)) .lf) (some .any) (.nd .lf (some .any) .lf)) (some .any) (.nd (.nd (.nd .lf (some .any) .lf) (some .any) .lf) (some .any) (.nd .lf (some .any) .lf))))), (.nd (.nd .lf (some (.cells [(.sint .i64 6), (.sint .i64 7), (.sint .i64 8)] none 0 (some 36))) .lf) (some (.cells [(.sint .i64 3), (.sint .i64 4), (.sint .i64 5)] none 0 none)) .lf), 2, 3, [(.sint .i64 8), (.sint .i64 7), (.sint .i64 6), (.sint .i64 5), (.sint .i64 4), (.sint .i64 3), (.sint .i64 10)], foiv1, Floop, fot1⟩
def foiv2 : Go.Ev.Ivs := []
def fot2 : Go.Ev.TrX Go.Ev.Leaf := (.leaf (.ret .any))
def foc2 : Go.Ev.CutP := ⟨none, (.nd .lf (some (.agg [(.sint .i64 3), (.sint .i64 4), (.sint .i64 5)])) .lf), .lf, 0, 0, [(.sint .i64 5), (.sint .i64 4), (.sint .i64 3)], foiv2, Floop, fot2⟩
def foKT : List Go.Ev.KE := []
def foK2 : List Go.Ev.KE2 := []
def foC : List Go.Ev.CutP := [foc0, foc1, foc2]
def fobody : Code := match Try.f18.body with | some c => c | none => .skip
def folf (c : Go.Ev.CutP) : Go.Ev.Ivs → List Go.Ev.Fact → Go.Ev.Leaf → Bool := Go.Ev.chkLfH Try.prog (Go.Ev.rcKA Try.prog foKT foK2 20000) Try.f18.ntmps [0] 1000 Try.f18.results.toList fobody foC 0 c
theorem fok0 : Go.Ev.chkX (folf foc0) fot0 foiv0 [] = true := by kernel_rfl
theorem fok1 : Go.Ev.chkX (folf foc1) fot1 foiv1 [] = true := by kernel_rfl
theorem foauto : @Go.Ev.AutoH (Go.Ev.extKA Try.prog foKT foK2) Try.prog (Go.Ev.rcKA Try.prog foKT foK2 20000) Try.f18 fobody [0] 1000 foC (fun _ => none) 0 := Go.Ev.auto_ofH noNG mixed (by kernel_rfl) ⟨.inr fok0, .inr fok1, .inl rfl, trivial⟩ ⟨Floop_blk, Floop_blk, Floop_blk, trivial⟩
end
end Go.Proofs.Ytgbhmkdldfhamaa.order
namespace Go.Proofs.Ytgbhmkdldfhamaa.order
open Go.Ev Go.RowKit
set_option linter.unusedVariables false
noncomputable section
structure Eff where
  op : Int
  a : Int
  b : Int
  st : Int
def Eff.cell (e : Eff) : Nat → Int
  | 0 => e.op
  | 1 => e.a
  | 2 => e.b
  | _ => e.st
def eff0 : Eff := ⟨0, 0, 0, 0⟩
/-- From -999 to 999. -/
def mx (n : Int) : Int := if -999 > n then -999 else n
def sm (n : Int) : Int := if 999 < mx n then 999 else mx n
def w64 (n : Int) : Int := IntKind.i64.wrap n
def kor (a b : Int) : Int := w64 (BitVec.ofInt 64 a ||| BitVec.ofInt 64 b).toNat
def kan (a b : Int) : Int := w64 (BitVec.ofInt 64 a &&& ~~~(BitVec.ofInt 64 b)).toNat
/-- Numbers: power, toughness, keys. -/
structure Nums where
  p : Int
  t : Int
  k : Int
def stepF (s : Nums) (e : Eff) : Nums :=
  if e.op = 1 then ⟨s.p, s.t, kor s.k e.a⟩ else if e.op = 2 then ⟨s.p, s.t, kan s.k e.a⟩ else if e.op = 3 then ⟨sm e.a, sm e.b, s.k⟩ else if e.op = 4 then ⟨w64 (s.p + sm e.a), w64 (s.t + sm e.b), s.k⟩ else s
def clamp (s : Nums) : Nums := ⟨sm s.p, sm s.t, s.k⟩
def foldN (s : Nums) (l : List Eff) : Nums := clamp (l.foldl stepF (clamp s))
def I64 (n : Int) : Prop := -9223372036854775808 ≤ n ∧ n ≤ 9223372036854775807
theorem w64_fits (n : Int) : I64 (w64 n) := by
  unfold w64 I64
  rw [IntKind.wrap_i64]
  omega
theorem mx_fits {n : Int} (h : I64 n) : I64 (mx n) := by unfold mx I64 at *; split <;> omega
theorem sm_fits {n : Int} (h : I64 n) : I64 (sm n) := by have := mx_fits h; unfold sm; split <;> first | exact this | (unfold I64; omega)
theorem i64_0 : I64 0 := ⟨by omega, by omega⟩
structure Nums.Fit (s : Nums) : Prop where
  p : I64 s.p
  t : I64 s.t
  k : I64 s.k
structure Eff.Fit (e : Eff) : Prop where
  op : I64 e.op
  a : I64 e.a
  b : I64 e.b
  st : I64 e.st
theorem clamp_fit {s : Nums} (h : s.Fit) : (clamp s).Fit := ⟨sm_fits h.p, sm_fits h.t, h.k⟩
theorem step_fit {s : Nums} {e : Eff} (h : s.Fit) (he : e.Fit) : (stepF s e).Fit := by
  unfold stepF
  split
  · exact ⟨h.p, h.t, w64_fits _⟩
  split
  · exact ⟨h.p, h.t, w64_fits _⟩
  split
  · exact ⟨sm_fits he.a, sm_fits he.b, h.k⟩
  split
  · exact ⟨w64_fits _, w64_fits _, h.k⟩
  · exact h
/-- A list of effects in memory. -/
structure FoIn where
  l : List Eff
  oa : Option Addr
  ca : Nat
  B : Nat
  O : Nat
structure FoIn.OK (g : FoIn) (w : World) : Prop where
  n : g.l.length ≤ 9223372036854775807
  fit : ∀ e ∈ g.l, e.Fit
  cl : ∀ i e, g.l[i]? = some e → g.oa = some ⟨g.B, g.O, none⟩ ∧ g.B < w.heap.size ∧ ∀ j, j < 4 → w.cell? ⟨g.B, g.O + i * 4 + j, none⟩ = some (.int .i64 (e.cell j))
def FoIn.at (g : FoIn) (i : Nat) : Eff := g.l.getD i eff0
def fint (g : FoIn) (i : Nat) (s : Nums) : Nat → Int
  | 2 => (g.l.length : Int)
  | 3 => s.p
  | 4 => s.t
  | 5 => s.k
  | 9 => w64 ((i : Int) + 1)
  | 10 => (i : Int)
  | 20 => (g.at i).op
  | 21 => (g.at i).a
  | 22 => (g.at i).b
  | 23 => (g.at i).st
  | 24 => mx (g.at i).a
  | 25 => sm (g.at i).a
  | 26 => mx (g.at i).b
  | 27 => sm (g.at i).b
  | 28 => w64 (s.p + sm (g.at i).a)
  | 29 => w64 (s.t + sm (g.at i).b)
  | 30 => kor s.k (g.at i).a
  | 31 => kan s.k (g.at i).a
  | 32 => mx s.p
  | 33 => sm s.p
  | 34 => mx s.t
  | 35 => sm s.t
  | _ => 0
def fval (g : FoIn) : Nat → Value
  | 0 => .slice g.oa g.l.length g.ca
  | _ => .bool false
theorem fval_one {g : FoIn} (j : Nat) : (fval g j).oneCell' = true := by
  unfold fval
  split <;> rfl
def frho (g : FoIn) (i : Nat) (s : Nums) : Rho :=
  ⟨fint g i s, fval g, fun _ => g.B, fun k => if k = 5 then g.O + i * 4 else g.O, fval_one, fun _ => [], fun _ _ h => by cases h⟩
theorem eff0_fit : eff0.Fit := ⟨i64_0, i64_0, i64_0, i64_0⟩
section
variable {w : World} {g : FoIn} {i : Nat} {s : Nums}
theorem at_fit (h : g.OK w) (i : Nat) : (g.at i).Fit := by
  unfold FoIn.at
  rw [List.getD_eq_getElem?_getD]
  cases hx : g.l[i]? with
  | none => exact eff0_fit
  | some e => exact h.fit e (List.mem_of_getElem? hx)
theorem fint_fits (h : g.OK w) (hi : i ≤ g.l.length) (hs : s.Fit) : ∀ k, I64 (fint g i s k) := fun k => by
  have hn := h.n
  have he := at_fit h i
  unfold fint
  split
  · exact ⟨by omega, by omega⟩
  · exact hs.p
  · exact hs.t
  · exact hs.k
  · exact w64_fits _
  · exact ⟨by omega, by omega⟩
  · exact he.op
  · exact he.a
  · exact he.b
  · exact he.st
  · exact mx_fits he.a
  · exact sm_fits he.a
  · exact mx_fits he.b
  · exact sm_fits he.b
  · exact w64_fits _
  · exact w64_fits _
  · exact w64_fits _
  · exact w64_fits _
  · exact mx_fits hs.p
  · exact sm_fits hs.p
  · exact mx_fits hs.t
  · exact sm_fits hs.t
  · exact i64_0
theorem iv_fo (h : g.OK w) (hi : i ≤ g.l.length) (hs : s.Fit) : IvOK foiv1 (frho g i s) := by
  have f := fint_fits h hi hs
  have hl := h.n
  refine iv_all (f := fint g i s) ?_ f
  unfold foiv1
  refine ⟨f 0, f 1, ⟨by show (0 : Int) ≤ (g.l.length : Int); omega, by show (g.l.length : Int) ≤ _; omega⟩, f 3, f 4, f 5, f 6, f 7, f 8, f 9, ⟨by show (0 : Int) ≤ (i : Int); omega, by show (i : Int) ≤ _; omega⟩, f 11, f 12, f 13, f 14, f 15, f 16, f 17, f 18, f 19, f 20, f 21, f 22, f 23, f 24, f 25, f 26, f 27, f 28, f 29, f 30, f 31, f 32, f 33, f 34, f 35, trivial⟩
theorem iv_fo2 (h : g.OK w) (hi : i ≤ g.l.length) (hs : s.Fit) : IvOK foiv2 (frho g i s) := fun k => fint_fits h hi hs k
theorem fact_max {ρ : Rho} {a b : Nat} {c : Int} (h : ρ.int b = if c > ρ.int a then c else ρ.int a) : FactOK ρ (.fn .max [si a, .int .i64 c] (si b)) :=
  ⟨[.int .i64 (ρ.int a), .int .i64 c], .int .i64 (ρ.int b), rfl, rfl, by simp only [FOsem, h]⟩
theorem fact_min {ρ : Rho} {a b : Nat} {c : Int} (h : ρ.int b = if c < ρ.int a then c else ρ.int a) : FactOK ρ (.fn .min [si a, .int .i64 c] (si b)) :=
  ⟨[.int .i64 (ρ.int a), .int .i64 c], .int .i64 (ρ.int b), rfl, rfl, by simp only [FOsem, h]⟩
theorem fact_addW {ρ : Rho} {a b : Nat} {y : VV} {n : Int} (hy : sval ρ y = some (.int .i64 n)) (h : ρ.int b = w64 (ρ.int a + n)) : FactOK ρ (.bin .add (si a) y (si b)) := by
  refine ⟨_, _, _, rfl, hy, rfl, by simp, by simp, fun P t w => ?_⟩
  rw [h]
  simp [binOp, Op.intArith, w64]
theorem fact_or {ρ : Rho} {a b c : Nat} (h : ρ.int c = kor (ρ.int a) (ρ.int b)) : FactOK ρ (.bin .or (si a) (si b) (si c)) := by
  refine ⟨_, _, _, rfl, rfl, rfl, by simp, by simp, fun P t w => ?_⟩
  rw [h]
  unfold binOp
  rfl
theorem fact_an {ρ : Rho} {a b c : Nat} (h : ρ.int c = kan (ρ.int a) (ρ.int b)) : FactOK ρ (.bin .andNot (si a) (si b) (si c)) := by
  refine ⟨_, _, _, rfl, rfl, rfl, by simp, by simp, fun P t w => ?_⟩
  rw [h]
  unfold binOp
  rfl
theorem foF_ok : FsOK foF (frho g i s) :=
  fs_cons (fact_len rfl rfl) (fs_cons (fact_max rfl) (fs_cons (fact_min rfl) (fs_cons (fact_max rfl) (fs_cons (fact_min rfl) fs_nil))))
theorem foEl_ok (h : g.OK w) (hi : i < g.l.length) : FsOK foEl (frho g i s) := by
  obtain ⟨g1, _, _⟩ := h.cl i _ (List.getElem?_eq_getElem hi)
  refine fs_cons (fact_at (n := i) (B := g.B) (O := g.O) (l := g.l.length) (c := g.ca) ?_ rfl hi rfl rfl) ?_
  · show some (Value.slice g.oa g.l.length g.ca) = _
    rw [g1]
  exact fs_cons (fact_addW rfl rfl) (fs_cons (fact_max rfl) (fs_cons (fact_min rfl) (fs_cons (fact_max rfl) (fs_cons (fact_min rfl) (fs_cons (fact_addW rfl rfl) (fs_cons (fact_addW rfl rfl) (fs_cons (fact_or rfl) (fs_cons (fact_an rfl) fs_nil))))))))
theorem lss_has {fs : List Fact} {a b : Nat} {ρ : Rho} (w : World) (h : hasLss fs a b = true) (k : FsOK fs ρ) : ρ.int a < ρ.int b := by
  unfold hasLss at h
  rw [List.any_eq_true] at h
  obtain ⟨f, hf, hh⟩ := h
  split at hh
  · rename_i k1 x k2 y
    simp only [Bool.and_eq_true] at hh
    have e1 := Nat.eq_of_beq_eq_true hh.1
    have e2 := Nat.eq_of_beq_eq_true hh.2
    subst e1 e2
    exact lss_of Try.prog w (k _ hf)
  · cases hh
theorem at_of (hi : i < g.l.length) : g.l[i]? = some (g.at i) := by
  unfold FoIn.at
  rw [List.getD_eq_getElem?_getD, List.getElem?_eq_getElem hi]
  rfl
theorem fl_ok (h : g.OK w) {iv : Ivs} {fs : List Fact} (h1 : IvOK iv (frho g i s)) (h2 : FsOK fs (frho g i s)) (φ : Phi) (hφ : φ.ρ = frho g i s) : EnvP (Floop iv fs) φ w := by
  have v : ∀ k, VR φ (sv iv .i64 k) (.int .i64 (fint g i s k)) := fun k => by have := VR_sv (φ := φ) (iv := iv) (by rw [hφ]; exact h1) .i64 k; rw [hφ] at this; exact this
  have v' : ∀ k, VR φ (si k) (.int .i64 (fint g i s k)) := fun k => by simp only [si, VR, hφ]; rfl
  unfold Floop
  split
  · rename_i hh
    have hi : (i : Int) < (g.l.length : Int) := lss_has w hh h2
    refine ⟨by rw [hφ]; exact h1, by rw [hφ]; exact fs_app h2 (fs_app foF_ok (foEl_ok h (by omega))), fun k cs hk => ?_⟩
    simp only at hk
    split at hk
    · rename_i hb
      have := Nat.eq_of_beq_eq_true hb
      subst this
      cases hk
      obtain ⟨g1, g2, g3⟩ := h.cl i _ (at_of (by omega))
      have eb : φ.ρ.blk 5 = g.B := by rw [hφ]; rfl
      have eo : φ.ρ.off 5 = g.O + i * 4 := by rw [hφ]; rfl
      rw [eb, eo]
      refine ⟨g2, fun j x hx => ?_⟩
      match j with
      | 0 => cases hx; exact ⟨_, g3 0 (by omega), v 20⟩
      | 1 => cases hx; exact ⟨_, g3 1 (by omega), v' 21⟩
      | 2 => cases hx; exact ⟨_, g3 2 (by omega), v' 22⟩
      | 3 => cases hx; exact ⟨_, g3 3 (by omega), v' 23⟩
      | j + 4 => simp at hx
    · cases hk
  · exact ⟨by rw [hφ]; exact h1, by rw [hφ]; exact fs_app h2 foF_ok, fun k cs h => by cases h⟩
theorem extF {ρ : Rho} : (∀ e ∈ foKT, KEok Try.prog ρ w e) ∧ ∀ e ∈ foK2, KE2ok Try.prog ρ w e := ⟨(fun e he => by cases he), (fun e he => by cases he)⟩
theorem extF' : @Ext.ok (extKA Try.prog foKT foK2) (frho g i s) w := extF
theorem floopE (h : g.OK w) (iv : Ivs) (fs : List Fact) (h1 : IvOK iv (frho g i s)) (h2 : FsOK fs (frho g i s)) (φ : Phi) (hφ : φ.ρ = frho g i s) : EnvP (Floop iv fs) φ w := fl_ok h h1 h2 φ hφ
theorem okF {c : CutP} (hE : c.E = Floop) (hiv : c.iv = foiv1) (h : g.OK w) (hi : i ≤ g.l.length) (hs : s.Fit) : @CutP.OK (extKA Try.prog foKT foK2) c w (frho g i s) := by
  refine @CutP.ok_of (extKA Try.prog foKT foK2) c w (frho g i s) extF' (hiv ▸ iv_fo h hi hs) ?_
  rw [hE]
  exact floopE h
theorem okF2 {c : CutP} (hE : c.E = Floop) (hiv : c.iv = foiv2) (h : g.OK w) (hi : i ≤ g.l.length) (hs : s.Fit) : @CutP.OK (extKA Try.prog foKT foK2) c w (frho g i s) := by
  refine @CutP.ok_of (extKA Try.prog foKT foK2) c w (frho g i s) extF' (hiv ▸ iv_fo2 h hi hs) ?_
  rw [hE]
  exact floopE h
theorem fi0 {g : FoIn} {i : Nat} {s : Nums} : (frho g i s).int 0 = 0 := rfl
theorem fi1 {g : FoIn} {i : Nat} {s : Nums} : (frho g i s).int 1 = 0 := rfl
theorem fi2 {g : FoIn} {i : Nat} {s : Nums} : (frho g i s).int 2 = (g.l.length : Int) := rfl
theorem fi3 {g : FoIn} {i : Nat} {s : Nums} : (frho g i s).int 3 = s.p := rfl
theorem fi4 {g : FoIn} {i : Nat} {s : Nums} : (frho g i s).int 4 = s.t := rfl
theorem fi5 {g : FoIn} {i : Nat} {s : Nums} : (frho g i s).int 5 = s.k := rfl
theorem fi6 {g : FoIn} {i : Nat} {s : Nums} : (frho g i s).int 6 = 0 := rfl
theorem fi7 {g : FoIn} {i : Nat} {s : Nums} : (frho g i s).int 7 = 0 := rfl
theorem fi8 {g : FoIn} {i : Nat} {s : Nums} : (frho g i s).int 8 = 0 := rfl
theorem fi9 {g : FoIn} {i : Nat} {s : Nums} : (frho g i s).int 9 = w64 ((i : Int) + 1) := rfl
theorem fi10 {g : FoIn} {i : Nat} {s : Nums} : (frho g i s).int 10 = (i : Int) := rfl
theorem fi25 {g : FoIn} {i : Nat} {s : Nums} : (frho g i s).int 25 = sm (g.at i).a := rfl
theorem fi27 {g : FoIn} {i : Nat} {s : Nums} : (frho g i s).int 27 = sm (g.at i).b := rfl
theorem fi28 {g : FoIn} {i : Nat} {s : Nums} : (frho g i s).int 28 = w64 (s.p + sm (g.at i).a) := rfl
theorem fi29 {g : FoIn} {i : Nat} {s : Nums} : (frho g i s).int 29 = w64 (s.t + sm (g.at i).b) := rfl
theorem fi30 {g : FoIn} {i : Nat} {s : Nums} : (frho g i s).int 30 = kor s.k (g.at i).a := rfl
theorem fi31 {g : FoIn} {i : Nat} {s : Nums} : (frho g i s).int 31 = kan s.k (g.at i).a := rfl
theorem fi33 {g : FoIn} {i : Nat} {s : Nums} : (frho g i s).int 33 = sm s.p := rfl
theorem fi35 {g : FoIn} {i : Nat} {s : Nums} : (frho g i s).int 35 = sm s.t := rfl
theorem fagree {i j : Nat} {s s' : Nums} : agree 3 (frho g i s) (frho g j s') := fun k hk => by
  match k, hk with
  | 0, _ => exact ⟨by rw [fi0, fi0], rfl, rfl, rfl, rfl⟩
  | 1, _ => exact ⟨by rw [fi1, fi1], rfl, rfl, rfl, rfl⟩
  | 2, _ => exact ⟨by rw [fi2, fi2], rfl, rfl, rfl, rfl⟩
theorem agree00 {ρ ρ' : Rho} : agree 0 ρ ρ' := fun k hk => absurd hk (Nat.not_lt_zero _)
theorem car_i {ρ ρ' : Rho} {a b : Nat} (h : ρ'.int b = ρ.int a) : Car ρ ρ' (si a, si b) := ⟨.int .i64 (ρ.int a), rfl, by simp only [si, sval, h]⟩
theorem car_c {ρ ρ' : Rho} {n : Int} {b : Nat} (h : ρ'.int b = n) : Car ρ ρ' (.int .i64 n, si b) := ⟨.int .i64 n, rfl, by simp only [si, sval, h]⟩
theorem fold_run (h : g.OK w) : ∀ (m i : Nat) (s : Nums), i + m = g.l.length → s.Fit → ∃ k, @RunsH (extKA Try.prog foKT foK2) foC w 2 (frho g g.l.length (clamp ((g.l.drop i).foldl stepF s))) k 1 (frho g i s) := by
  letI : Ext := extKA Try.prog foKT foK2
  have hnl := h.n
  intro m
  induction m with
  | zero =>
    intro i s hi hs
    have hi : i = g.l.length := by omega
    subst hi
    have e0 : (g.l.drop g.l.length).foldl stepF s = s := by simp
    rw [e0]
    refine ⟨0, .exit (c := foc1) (d := foc2) (xs := [si 5, si 35, si 33]) rfl (okF rfl rfl h (Nat.le_refl _) hs) ?_ rfl rfl agree00 ?_ (okF2 rfl rfl h (Nat.le_refl _) (clamp_fit hs))⟩
    · show valX fot1 _ = _
      simp only [fot1, valX]
      rw [if_neg (show ¬ (frho g g.l.length s).int 10 < (frho g g.l.length s).int 2 by show ¬ ((g.l.length : Int) < (g.l.length : Int)); omega)]
      rfl
    · exact ⟨car_i (by rw [fi5, fi5] <;> rfl), car_i (by rw [fi4, fi35] <;> rfl), car_i (by rw [fi3, fi33] <;> rfl), trivial⟩
  | succ m ih =>
    intro i s hi hs
    have hlt : i < g.l.length := by omega
    obtain ⟨k, hk⟩ := ih (i + 1) (stepF s (g.at i)) (by omega) (step_fit hs (at_fit h i))
    have e1 : g.l.drop i = g.at i :: g.l.drop (i + 1) := by
      rw [List.drop_eq_getElem_cons hlt]
      congr 1
      have := at_of (g := g) hlt
      rw [List.getElem?_eq_getElem hlt] at this
      exact Option.some.inj this
    rw [e1, List.foldl_cons]
    have ei : (frho g (i + 1) (stepF s (g.at i))).int 10 = (frho g i s).int 9 := by
      rw [fi10, fi9]
      unfold w64
      rw [wrap_in (by simp [IntKind.min, IntKind.signed, IntKind.bits]; omega) (by simp [IntKind.max, IntKind.signed, IntKind.bits]; omega)]
      omega
    have go : ∀ xs, valX fot1 (frho g i s).int = .goto 1 xs → carry (frho g i s) (frho g (i + 1) (stepF s (g.at i))) xs foc1.ys → ∃ k, @RunsH (extKA Try.prog foKT foK2) foC w 2 (frho g g.l.length (clamp ((g.l.drop (i + 1)).foldl stepF (stepF s (g.at i))))) k 1 (frho g i s) := fun xs h1 h2 =>
      ⟨k + 1, .step (c := foc1) (d := foc1) (xs := xs) rfl (okF rfl rfl h (Nat.le_of_lt hlt) hs) h1 rfl (by decide) fagree h2 hk⟩
    have hrel : (frho g i s).int 10 < (frho g i s).int 2 := by show (i : Int) < (g.l.length : Int); omega
    have tree : ∀ (P : Leaf → Prop), (P (valX fot1 (frho g i s).int)) ↔ P (valX fot1 (frho g i s).int) := fun _ => Iff.rfl
    have e20 : (frho g i s).int 20 = (g.at i).op := rfl
    have keep : ∀ {a b c d}, a = 5 ∨ True → carry (frho g i s) (frho g (i + 1) ⟨b, c, d⟩) [] [] := fun _ => trivial
    by_cases o1 : (g.at i).op = 1
    · refine go [si 8, si 7, si 6, si 30, si 4, si 3, si 9] ?_ ?_
      · simp only [fot1, valX, if_pos hrel, e20, o1]
        rfl
      · have es : stepF s (g.at i) = ⟨s.p, s.t, kor s.k (g.at i).a⟩ := by unfold stepF; rw [if_pos o1]
        rw [es] at ei ⊢
        exact ⟨car_i (by rw [fi8, fi8] <;> rfl), car_i (by rw [fi7, fi7] <;> rfl), car_i (by rw [fi6, fi6] <;> rfl), car_i (by rw [fi5, fi30] <;> rfl), car_i (by rw [fi4, fi4] <;> rfl), car_i (by rw [fi3, fi3] <;> rfl), car_i ei, trivial⟩
    by_cases o2 : (g.at i).op = 2
    · refine go [si 8, si 7, si 6, si 31, si 4, si 3, si 9] ?_ ?_
      · simp only [fot1, valX, if_pos hrel, e20, o2]
        rfl
      · have es : stepF s (g.at i) = ⟨s.p, s.t, kan s.k (g.at i).a⟩ := by unfold stepF; rw [if_neg o1, if_pos o2]
        rw [es] at ei ⊢
        exact ⟨car_i (by rw [fi8, fi8] <;> rfl), car_i (by rw [fi7, fi7] <;> rfl), car_i (by rw [fi6, fi6] <;> rfl), car_i (by rw [fi5, fi31] <;> rfl), car_i (by rw [fi4, fi4] <;> rfl), car_i (by rw [fi3, fi3] <;> rfl), car_i ei, trivial⟩
    by_cases o3 : (g.at i).op = 3
    · refine go [si 8, si 7, si 6, si 5, si 27, si 25, si 9] ?_ ?_
      · simp only [fot1, valX, if_pos hrel, e20, o3]
        rfl
      · have es : stepF s (g.at i) = ⟨sm (g.at i).a, sm (g.at i).b, s.k⟩ := by unfold stepF; rw [if_neg o1, if_neg o2, if_pos o3]
        rw [es] at ei ⊢
        exact ⟨car_i (by rw [fi8, fi8] <;> rfl), car_i (by rw [fi7, fi7] <;> rfl), car_i (by rw [fi6, fi6] <;> rfl), car_i (by rw [fi5, fi5] <;> rfl), car_i (by rw [fi4, fi27] <;> rfl), car_i (by rw [fi3, fi25] <;> rfl), car_i ei, trivial⟩
    by_cases o4 : (g.at i).op = 4
    · refine go [si 8, si 7, si 6, si 5, si 29, si 28, si 9] ?_ ?_
      · simp only [fot1, valX, if_pos hrel, e20, o4]
        rfl
      · have es : stepF s (g.at i) = ⟨w64 (s.p + sm (g.at i).a), w64 (s.t + sm (g.at i).b), s.k⟩ := by unfold stepF; rw [if_neg o1, if_neg o2, if_neg o3, if_pos o4]
        rw [es] at ei ⊢
        exact ⟨car_i (by rw [fi8, fi8] <;> rfl), car_i (by rw [fi7, fi7] <;> rfl), car_i (by rw [fi6, fi6] <;> rfl), car_i (by rw [fi5, fi5] <;> rfl), car_i (by rw [fi4, fi29] <;> rfl), car_i (by rw [fi3, fi28] <;> rfl), car_i ei, trivial⟩
    · refine go [si 8, si 7, si 6, si 5, si 4, si 3, si 9] ?_ ?_
      · simp only [fot1, valX, if_pos hrel, e20]
        by_cases c1 : (g.at i).op ≤ -1
        · rw [if_pos c1]; rfl
        rw [if_neg c1]
        by_cases c2 : (g.at i).op ≤ 4
        · have e0 : (g.at i).op = 0 := by omega
          rw [e0]
          rfl
        · rw [if_neg c2]; rfl
      · have es : stepF s (g.at i) = s := by unfold stepF; rw [if_neg o1, if_neg o2, if_neg o3, if_neg o4]
        rw [es] at ei ⊢
        exact ⟨car_i (by rw [fi8, fi8] <;> rfl), car_i (by rw [fi7, fi7] <;> rfl), car_i (by rw [fi6, fi6] <;> rfl), car_i (by rw [fi5, fi5] <;> rfl), car_i (by rw [fi4, fi4] <;> rfl), car_i (by rw [fi3, fi3] <;> rfl), car_i ei, trivial⟩
theorem fold_entry (h : g.OK w) (hs : s.Fit) : ∃ k, @RunsH (extKA Try.prog foKT foK2) foC w 2 (frho g g.l.length (foldN s g.l)) k 0 (frho g 0 s) := by
  letI : Ext := extKA Try.prog foKT foK2
  obtain ⟨k, hk⟩ := fold_run h g.l.length 0 (clamp s) (by omega) (clamp_fit hs)
  refine ⟨k + 1, .step (c := foc0) (d := foc1) (xs := [.int .i64 0, .int .i64 0, .int .i64 0, si 5, si 35, si 33, .int .i64 0]) rfl (okF rfl rfl h (Nat.zero_le _) hs) rfl rfl (by decide) fagree ?_ hk⟩
  exact ⟨car_c fi8, car_c fi7, car_c fi6, car_i (by rw [fi5, fi5]; rfl), car_i (by rw [fi4, fi35]; rfl), car_i (by rw [fi3, fi33]; rfl), car_c (by rw [fi10]; rfl), trivial⟩
def numV (s : Nums) : Value := .agg ⟨[.int .i64 s.p, .int .i64 s.t, .int .i64 s.k]⟩
/-- chars.Fold, of any list in memory. -/
theorem fold_calls (h : g.OK w) (hs : s.Fit) : Calls Try.prog 18 ⟨[numV s, .slice g.oa g.l.length g.ca]⟩ w fun e w' => e = .returned (numV (foldN s g.l)) ∧ Below w.heap.size w w' := by
  letI : Ext := extKA Try.prog foKT foK2
  obtain ⟨k, hr⟩ := fold_entry h hs
  obtain ⟨c, hc, hok⟩ := hr.ok
  cases (show some foc0 = some c from hc)
  have hst : HSim w ⟨fun _ => none, frho g 0 s⟩ ⟨foc0.env (frho g 0 s), .lf, 0⟩ w := HSim.startE ((hok.env _ rfl).ok hok.ext) (fun r b hb => by rw [show (foc0.env (frho g 0 s)).blk = fun _ => none from foauto.blk 0 foc0 rfl _ _] at hb; cases hb)
  refine (autoH_calls foauto (f := 18) Try.func18 rfl (F := ⟨w, fun _ => none⟩) (fun i inf hi => by cases hi) (args := [.agg [si 3, si 4, si 5], .sym 0]) (c := foc0) (d := foc2) (p0 := 0) (by kernel_rfl) rfl rfl rfl rfl hst ?_ hr).mono ?_
  · simp only [VRs]
    refine ⟨_, _, rfl, ?_, _, _, rfl, ?_, rfl⟩
    · simp only [VR, VRs, si]
      exact ⟨_, ⟨_, _, rfl, rfl, _, _, rfl, rfl, _, _, rfl, rfl, rfl⟩, rfl⟩
    · simp only [VR]
      rfl
  · rintro e w' ⟨v, rfl, φ, hφ, k1, k2, k3⟩
    refine ⟨?_, k3.wk.os, k3.wk.tape, k3.wk.output, k3.wk.size, fun k hk => k2.old.same k hk id⟩
    have k1' : VR φ (.agg [si 3, si 4, si 5]) v := k1
    simp only [VR, VRs, si] at k1'
    obtain ⟨_, ⟨_, _, rfl, rfl, _, _, rfl, rfl, _, _, rfl, rfl, rfl⟩, rfl⟩ := k1'
    rw [hφ]
    rfl
end
end
end Go.Proofs.Ytgbhmkdldfhamaa.order
namespace Go.Proofs.Ytgbhmkdldfhamaa.order
open Go.Ev Go.RowKit
set_option linter.unusedVariables false
noncomputable section
def i8 (n : Int) : VV := .int .i64 n
def Ebe (iv : Ivs) (fs : List Fact) : Env := ⟨fun _ => none, ivAt iv, fs, fun _ => none⟩
def beiv0 : Go.Ev.Ivs := [bI, bI, bI, bI, bI, bI, bI, bI, bI]
def bet0 : Go.Ev.TrX Go.Ev.Leaf := (.cut 1 (-1) (.cut 5 (-1) (.rel .i64 4 8 (.leaf (.ret (.int .i64 (-1)))) (.rel .i64 8 4 (.leaf (.ret (.int .i64 (1)))) (.leaf (.ret (.int .i64 (0)))))) (.cut 5 (4) (.cut 5 (0) (.rel .i64 4 8 (.leaf (.ret (.int .i64 (-1)))) (.rel .i64 8 4 (.leaf (.ret (.int .i64 (1)))) (.leaf (.ret (.int .i64 (0)))))) (.cut 5 (1) (.leaf (.ret (.int .i64 (-1)))) (.cut 5 (2) (.leaf (.ret (.int .i64 (-1)))) (.cut 5 (3) (.leaf (.ret (.int .i64 (-2)))) (.leaf (.ret (.int .i64 (-3)))))))) (.rel .i64 4 8 (.leaf (.ret (.int .i64 (-1)))) (.rel .i64 8 4 (.leaf (.ret (.int .i64 (1)))) (.leaf (.ret (.int .i64 (0)))))))) (.cut 1 (4) (.cut 1 (0) (.cut 5 (-1) (.rel .i64 4 8 (.leaf (.ret (.int .i64 (-1)))) (.rel .i64 8 4 (.leaf (.ret (.int .i64 (1)))) (.leaf (.ret (.int .i64 (0)))))) (.cut 5 (4) (.cut 5 (0) (.rel .i64 4 8 (.leaf (.ret (.int .i64 (-1)))) (.rel .i64 8 4 (.leaf (.ret (.int .i64 (1)))) (.leaf (.ret (.int .i64 (0)))))) (.cut 5 (1) (.leaf (.ret (.int .i64 (-1)))) (.cut 5 (2) (.leaf (.ret (.int .i64 (-1)))) (.cut 5 (3) (.leaf (.ret (.int .i64 (-2)))) (.leaf (.ret (.int .i64 (-3)))))))) (.rel .i64 4 8 (.leaf (.ret (.int .i64 (-1)))) (.rel .i64 8 4 (.leaf (.ret (.int .i64 (1)))) (.leaf (.ret (.int .i64 (0)))))))) (.cut 1 (1) (.cut 5 (-1) (.leaf (.ret (.int .i64 (1)))) (.cut 5 (4) (.cut 5 (0) (.leaf (.ret (.int .i64 (1)))) (.cut 5 (1) (.rel .i64 4 8 (.leaf (.ret (.int .i64 (-1)))) (.rel .i64 8 4 (.leaf (.ret (.int .i64 (1)))) (.leaf (.ret (.int .i64 (0)))))) (.cut 5 (2) (.rel .i64 4 8 (.leaf (.ret (.int .i64 (-1)))) (.rel .i64 8 4 (.leaf (.ret (.int .i64 (1)))) (.leaf (.ret (.int .i64 (0)))))) (.cut 5 (3) (.leaf (.ret (.int .i64 (-1)))) (.leaf (.ret (.int .i64 (-2)))))))) (.leaf (.ret (.int .i64 (1)))))) (.cut 1 (2) (.cut 5 (-1) (.leaf (.ret (.int .i64 (1)))) (.cut 5 (4) (.cut 5 (0) (.leaf (.ret (.int .i64 (1)))) (.cut 5 (1) (.rel .i64 4 8 (.leaf (.ret (.int .i64 (-1)))) (.rel .i64 8 4 (.leaf (.ret (.int .i64 (1)))) (.leaf (.ret (.int .i64 (0)))))) (.cut 5 (2) (.rel .i64 4 8 (.leaf (.ret (.int .i64 (-1)))) (.rel .i64 8 4 (.leaf (.ret (.int .i64 (1)))) (.leaf (.ret (.int .i64 (0)))))) (.cut 5 (3) (.leaf (.ret (.int .i64 (-1)))) (.leaf (.ret (.int .i64 (-2)))))))) (.leaf (.ret (.int .i64 (1)))))) (.cut 1 (3) (.cut 5 (-1) (.leaf (.ret (.int .i64 (2)))) (.cut 5 (4) (.cut 5 (0) (.leaf (.ret (.int .i64 (2)))) (.cut 5 (1) (.leaf (.ret (.int .i64 (1)))) (.cut 5 (2) (.leaf (.ret (.int .i64 (1)))) (.cut 5 (3) (.rel .i64 4 8 (.leaf (.ret (.int .i64 (-1)))) (.rel .i64 8 4 (.leaf (.ret (.int .i64 (1)))) (.leaf (.ret (.int .i64 (0)))))) (.leaf (.ret (.int .i64 (-1)))))))) (.leaf (.ret (.int .i64 (2)))))) (.cut 5 (-1) (.leaf (.ret (.int .i64 (3)))) (.cut 5 (4) (.cut 5 (0) (.leaf (.ret (.int .i64 (3)))) (.cut 5 (1) (.leaf (.ret (.int .i64 (2)))) (.cut 5 (2) (.leaf (.ret (.int .i64 (2)))) (.cut 5 (3) (.leaf (.ret (.int .i64 (1)))) (.rel .i64 4 8 (.leaf (.ret (.int .i64 (-1)))) (.rel .i64 8 4 (.leaf (.ret (.int .i64 (1)))) (.leaf (.ret (.int .i64 (0)))))))))) (.leaf (.ret (.int .i64 (3)))))))))) (.cut 5 (-1) (.rel .i64 4 8 (.leaf (.ret (.int .i64 (-1)))) (.rel .i64 8 4 (.leaf (.ret (.int .i64 (1)))) (.leaf (.ret (.int .i64 (0)))))) (.cut 5 (4) (.cut 5 (0) (.rel .i64 4 8 (.leaf (.ret (.int .i64 (-1)))) (.rel .i64 8 4 (.leaf (.ret (.int .i64 (1)))) (.leaf (.ret (.int .i64 (0)))))) (.cut 5 (1) (.leaf (.ret (.int .i64 (-1)))) (.cut 5 (2) (.leaf (.ret (.int .i64 (-1)))) (.cut 5 (3) (.leaf (.ret (.int .i64 (-2)))) (.leaf (.ret (.int .i64 (-3)))))))) (.rel .i64 4 8 (.leaf (.ret (.int .i64 (-1)))) (.rel .i64 8 4 (.leaf (.ret (.int .i64 (1)))) (.leaf (.ret (.int .i64 (0))))))))))
def bec0 : Go.Ev.CutP := ⟨none, (.nd (.nd .lf (some (.agg [(.sint .i64 1), (.sint .i64 2), (.sint .i64 3), (.sint .i64 4)])) .lf) (some (.sym 0)) (.nd .lf (some (.agg [(.sint .i64 5), (.sint .i64 6), (.sint .i64 7), (.sint .i64 8)])) .lf)), .lf, 0, 0, [], beiv0, Ebe, bet0⟩
def beKT : List Go.Ev.KE := []
def beK2 : List Go.Ev.KE2 := []
def beC : List Go.Ev.CutP := [bec0]
def bebody : Code := match Try.f31.body with | some c => c | none => .skip
def belf (c : Go.Ev.CutP) : Go.Ev.Ivs → List Go.Ev.Fact → Go.Ev.Leaf → Bool := Go.Ev.chkLf Try.prog (Go.Ev.rcKA Try.prog beKT beK2 20000) Try.f31.ntmps [] 1000 Try.f31.results.toList bebody beC c
theorem bek0 : Go.Ev.chkX (belf bec0) bet0 beiv0 [] = true := by kernel_rfl
theorem beauto : @Go.Ev.Auto (Go.Ev.extKA Try.prog beKT beK2) Try.prog (Go.Ev.rcKA Try.prog beKT beK2 20000) Try.f31 bebody [] 1000 beC (fun _ => none) := Go.Ev.auto_ofA noNG mixed (by kernel_rfl) ⟨bek0, trivial⟩ ⟨(fun _ _ => rfl), trivial⟩
/-! ### insertion sort: what the kernel runs -/
def anyN : Nat → List VV
  | 0 => []
  | n + 1 => .any :: anyN n
def big1 : Int × Int := bI
def manyI : Nat → Ivs
  | 0 => []
  | n + 1 => big1 :: manyI n
def cmpV : VV := .func (.func 31) [.sym 1] []
def isbody : Code := match Try.f50.body with | some c => c | none => .skip
def rcN (K : List KE) : CE := (evN Try.prog (drawRun Try.prog) (knL K) 20000).1.2
/-- The state at a loop's head. -/
def isa (i j : VV) : VT := (((((listT (anyN 53) 0 .lf).put 0 (.sym 0)).put 1 (i8 0)).put 2 (si 2)).put 3 cmpV |>.put 8 i).put 9 j
def isKT : List KE := [⟨31, [.sym 1, .agg [si 14, si 15, si 16, si 17], .agg [si 10, si 11, si 12, si 13]], [], si 20⟩]
def isF0 : List Fact := [.bin .add (si 3) (i8 1) (si 5)]
def isFw : List Fact := [.win 4 (.sym 0) (si 4) 0 4, .win 4 (.sym 0) (si 6) 0 0, .bin .sub (si 4) (i8 1) (si 6), .bin .add (si 3) (i8 1) (si 5)]
def iscells : List VV := [si 10, si 11, si 12, si 13, si 14, si 15, si 16, si 17]
def iswap : List VV := [si 14, si 15, si 16, si 17, si 10, si 11, si 12, si 13]
def iswin : TT VO := .nd .lf (some (.win 0 iscells)) .lf
/-- Intervals, but for two symbols. -/
def isiv (j c : Int × Int) : Ivs := [big1, big1, big1, big1, j] ++ (manyI 15 ++ [c])
def Eis (j c : Int × Int) (fs : List Fact) : Env := ⟨fun _ => none, ivAt (isiv j c), fs, fun _ => none⟩
def seg1 (a : VT) (H : VH) (t : Nat) : Option SegO := match ctx t isbody 0 [] with
  | some (c, K) => seg (rcN isKT) Try.f50.ntmps [0, 1] 1000 c (t + 1) (.lp c t :: K) a H
  | none => none
/-- A head is reached, at which temporaries hold so much. -/
def atHead (t : Nat) (l : List (Nat × VV)) (wd : Option (List VV)) : Option SegO → Bool
  | some (.cut t' a H) => match Nat.beq t t', allL2 a l with
    | true, true => match wd with
      | none => true
      | some cs => match H.locs.get 0 with
        | some (.win 0 c) => vvsEq c cs
        | _ => false
    | _, _ => false
  | _ => false
where allL2 (a : VT) : List (Nat × VV) → Bool
  | [] => true
  | (k, v) :: l => match vvEq (tget a k) v with
    | true => allL2 a l
    | false => false
def isOut : Option SegO → Bool
  | some (.out .normal _ _) => true
  | _ => false
def keepT (i j : VV) : List (Nat × VV) := [(0, .sym 0), (1, i8 0), (2, si 2), (3, cmpV), (8, i), (9, j)]
def keepO (i : VV) : List (Nat × VV) := [(0, .sym 0), (1, i8 0), (2, si 2), (3, cmpV), (8, i)]
def is0 : Bool := atHead 0 (keepO (i8 1)) none (seg (rcN isKT) Try.f50.ntmps [0, 1] 1000 isbody 0 [] (listT [.sym 0, i8 0, si 2, cmpV] 0 .lf) ⟨Eis big1 big1 [], .lf, 0⟩)
def is1 : Bool := atHead 1 (keepT (si 3) (si 3)) none (seg1 (isa (si 3) .any) ⟨Eis big1 big1 [.bin .lss (si 3) (si 2) (.bool true)], .lf, 0⟩ 0)
def is2 : Bool := isOut (seg1 (isa (si 3) .any) ⟨Eis big1 big1 [.bin .lss (si 3) (si 2) (.bool false)], .lf, 0⟩ 0)
def is3 : Bool := atHead 0 (keepO (si 5)) none (seg1 (isa (si 3) (si 4)) ⟨Eis (0, 0) big1 isF0, .lf, 0⟩ 1)
def is4 : Bool := atHead 0 (keepO (si 5)) (some iscells) (seg1 (isa (si 3) (si 4)) ⟨Eis (1, 9223372036854775807) (0, 9223372036854775807) isFw, iswin, 1⟩ 1)
def is5 : Bool := atHead 1 (keepT (si 3) (si 6)) (some iswap) (seg1 (isa (si 3) (si 4)) ⟨Eis (1, 9223372036854775807) (-9223372036854775808, -1) isFw, iswin, 1⟩ 1)
end
end Go.Proofs.Ytgbhmkdldfhamaa.order
namespace Go.Proofs.Ytgbhmkdldfhamaa.order
open Go.Ev Go.RowKit
set_option linter.unusedVariables false
noncomputable section
/-! ### the order -/
def lay (o : Int) : Int := if o = 1 then 1 else if o = 2 then 1 else if o = 3 then 2 else if o = 4 then 3 else 0
def cmpE (a b : Eff) : Int := if lay a.op = lay b.op then (if a.st < b.st then -1 else if b.st < a.st then 1 else 0) else lay a.op - lay b.op
def opT (i : Nat) (f : Int → TrX Leaf) : TrX Leaf := .cut i (-1) (f 0) (.cut i 4 (.cut i 0 (f 0) (.cut i 1 (f 1) (.cut i 2 (f 1) (.cut i 3 (f 2) (f 3))))) (f 0))
def cmpT (a b : Int) : TrX Leaf := match decide (a = b) with
  | true => .rel .i64 4 8 (.leaf (.ret (i8 (-1)))) (.rel .i64 8 4 (.leaf (.ret (i8 1))) (.leaf (.ret (i8 0))))
  | false => .leaf (.ret (i8 (a - b)))
theorem bet0_eq : bet0 = opT 1 fun a => opT 5 fun b => cmpT a b := by kernel_rfl
theorem opT_val (i : Nat) (f : Int → TrX Leaf) (v : Nat → Int) : valX (opT i f) v = valX (f (lay (v i))) v := by
  unfold opT lay
  simp only [valX]
  by_cases h1 : v i ≤ -1
  · rw [if_pos h1, if_neg (by omega), if_neg (by omega), if_neg (by omega), if_neg (by omega)]
  rw [if_neg h1]
  by_cases h2 : v i ≤ 4
  · rw [if_pos h2]
    by_cases h3 : v i ≤ 0
    · rw [if_pos h3, if_neg (by omega), if_neg (by omega), if_neg (by omega), if_neg (by omega)]
    rw [if_neg h3]
    by_cases h4 : v i ≤ 1
    · rw [if_pos h4, if_pos (by omega)]
    rw [if_neg h4]
    by_cases h5 : v i ≤ 2
    · rw [if_pos h5, if_neg (by omega), if_pos (by omega)]
    rw [if_neg h5]
    by_cases h6 : v i ≤ 3
    · rw [if_pos h6, if_neg (by omega), if_neg (by omega), if_pos (by omega)]
    · rw [if_neg h6, if_neg (by omega), if_neg (by omega), if_neg (by omega), if_pos (by omega)]
  · rw [if_neg h2, if_neg (by omega), if_neg (by omega), if_neg (by omega), if_neg (by omega)]
theorem cmpT_val (a b : Int) (v : Nat → Int) : valX (cmpT a b) v = .ret (i8 (if a = b then (if v 4 < v 8 then -1 else if v 8 < v 4 then 1 else 0) else a - b)) := by
  unfold cmpT
  by_cases h : a = b
  · rw [decide_eq_true h, if_pos h]
    simp only [valX]
    split
    · rfl
    · split <;> rfl
  · rw [decide_eq_false h, if_neg h]
    simp only [valX]
theorem lay_in (o : Int) : 0 ≤ lay o ∧ lay o ≤ 3 := by
  unfold lay
  repeat' split
  all_goals omega
theorem cmp_in (a b : Eff) : I64 (cmpE a b) := by
  have := lay_in a.op
  have := lay_in b.op
  unfold cmpE I64
  repeat' split
  all_goals omega
def effV (e : Eff) : Value := .agg ⟨[.int .i64 e.op, .int .i64 e.a, .int .i64 e.b, .int .i64 e.st]⟩
def bint (a b : Eff) : Nat → Int
  | 1 => a.op
  | 2 => a.a
  | 3 => a.b
  | 4 => a.st
  | 5 => b.op
  | 6 => b.a
  | 7 => b.b
  | 8 => b.st
  | _ => 0
def brho (a b : Eff) (lv : Value) (h : lv.oneCell' = true) : Rho := ⟨bint a b, fun _ => lv, fun _ => 0, fun _ => 0, fun _ => h, fun _ => [], fun _ _ h => by cases h⟩
theorem bint_fits {a b : Eff} (ha : a.Fit) (hb : b.Fit) (k : Nat) : I64 (bint a b k) := by
  unfold bint
  split
  · exact ha.op
  · exact ha.a
  · exact ha.b
  · exact ha.st
  · exact hb.op
  · exact hb.a
  · exact hb.b
  · exact hb.st
  · exact i64_0
theorem extB {ρ : Rho} {w : World} : (∀ e ∈ beKT, KEok Try.prog ρ w e) ∧ ∀ e ∈ beK2, KE2ok Try.prog ρ w e := ⟨(fun e he => by cases he), (fun e he => by cases he)⟩
/-- (effects).before. -/
theorem before_calls {a b : Eff} (ha : a.Fit) (hb : b.Fit) {lv : Value} (hl : lv.oneCell' = true) (w : World) : Calls Try.prog 31 ⟨[lv, effV a, effV b]⟩ w fun e w' => e = .returned (.int .i64 (cmpE a b)) ∧ Below w.heap.size w w' := by
  letI : Ext := extKA Try.prog beKT beK2
  have f := bint_fits ha hb
  have hiv : IvOK beiv0 (brho a b lv hl) := iv_all (f := bint a b) (by unfold beiv0; exact ⟨f 0, f 1, f 2, f 3, f 4, f 5, f 6, f 7, f 8, trivial⟩) f
  have hok : CutP.OK bec0 w (brho a b lv hl) := CutP.ok_of extB hiv fun iv fs h1 h2 φ hφ => ⟨by rw [hφ]; exact h1, by rw [hφ]; exact h2, fun k cs hk => by cases hk⟩
  refine auto_callsP beauto (f := 31) Try.func31 rfl (args := [.sym 0, .agg [si 1, si 2, si 3, si 4], .agg [si 5, si 6, si 7, si 8]]) (ρ := brho a b lv hl) (c := bec0) (p0 := 0) (k := 0) (by kernel_rfl) rfl rfl rfl rfl rfl (fun r b h => by cases h) ?_ (.ret (c := bec0) rfl hok (r := i8 (cmpE a b)) ?_ rfl)
  · simp only [VRs, VR, si]
    exact ⟨_, _, rfl, rfl, _, _, rfl, ⟨_, ⟨_, _, rfl, rfl, _, _, rfl, rfl, _, _, rfl, rfl, _, _, rfl, rfl, rfl⟩, rfl⟩, _, _, rfl, ⟨_, ⟨_, _, rfl, rfl, _, _, rfl, rfl, _, _, rfl, rfl, _, _, rfl, rfl, rfl⟩, rfl⟩, rfl⟩
  · show valX bet0 (bint a b) = _
    rw [bet0_eq, opT_val, opT_val, cmpT_val]
    rfl
end
end Go.Proofs.Ytgbhmkdldfhamaa.order
namespace Go.Proofs.Ytgbhmkdldfhamaa.order
open Go.Ev Go.RowKit
set_option linter.unusedVariables false
noncomputable section
/-! ### the list -/
def bub : Nat → List Eff → List Eff
  | 0, l => l
  | j + 1, l => if cmpE (l.getD (j + 1) eff0) (l.getD j eff0) < 0 then bub j ((l.set j (l.getD (j + 1) eff0)).set (j + 1) (l.getD j eff0)) else l
def outer : Nat → Nat → List Eff → List Eff
  | 0, _, l => l
  | m + 1, i, l => outer m (i + 1) (bub i l)
def isort (l : List Eff) : List Eff := outer (l.length - 1) 1 l
/-! ### memory -/
structure Srt where
  n : Nat
  oa : Option Addr
  ca : Nat
  B : Nat
  O : Nat
  m : Nat
  lv : Value
  one : lv.oneCell' = true
def Srt.sl (g : Srt) : Value := .slice g.oa g.n g.ca
def Srt.cmp (g : Srt) : Value := .func (.func 31) ⟨[g.lv]⟩ ⟨[]⟩
def Srt.Has (g : Srt) : Prop := 0 < g.n ∨ g.oa ≠ none
structure Srt.Mem (g : Srt) (l : List Eff) (w : World) : Prop where
  len : l.length = g.n
  fit : ∀ e ∈ l, e.Fit
  adr : g.Has → g.oa = some ⟨g.B, g.O, none⟩
  mem : g.Has → ∃ (c' : Array Value) (e : TypeId) (fr : Nat × Nat), w.heap[g.B]? = some (.cells c' e fr) ∧ fr.2 ≤ g.O ∧ (g.O + g.n * 4 ≤ g.m ∧ g.m ≤ c'.size) ∧ ∀ i x, l[i]? = some x → ∀ j, j < 4 → c'[g.O + i * 4 + j]? = some (.int .i64 (x.cell j))
/-- All but one block is as it was. -/
structure FrB (B : Nat) (w w' : World) : Prop where
  wk : WK w w'
  same : ∀ k, k < w.heap.size → k ≠ B → w'.heap[k]? = w.heap[k]?
theorem FrB.refl (B : Nat) (w : World) : FrB B w w := ⟨.refl w, fun _ _ _ => rfl⟩
theorem FrB.trans {B : Nat} {a b c : World} (h : FrB B a b) (k : FrB B b c) : FrB B a c := ⟨h.wk.trans k.wk, fun i h1 h2 => by rw [k.same i (Nat.lt_of_lt_of_le h1 h.wk.size) h2, h.same i h1 h2]⟩
theorem Srt.Mem.later {g : Srt} {l : List Eff} {w w' : World} (h : g.Mem l w) (hs : ∀ k, k < w.heap.size → w'.heap[k]? = w.heap[k]?) : g.Mem l w' :=
  ⟨h.len, h.fit, h.adr, fun h0 => let ⟨c', e, fr, h1, h2⟩ := h.mem h0; ⟨c', e, fr, by rw [hs _ (get_lt h1)]; exact h1, h2⟩⟩
structure IsAct (g : Srt) (i : Nat) (act : Act) : Prop where
  sz : act.tmps.size = Try.f50.ntmps
  df : act.defers = []
  t0 : act.tmps.getD 0 undef = g.sl
  t1 : act.tmps.getD 1 undef = .int .i64 0
  t2 : act.tmps.getD 2 undef = .int .i64 g.n
  t3 : act.tmps.getD 3 undef = g.cmp
  t8 : act.tmps.getD 8 undef = .int .i64 i
/-! ### symbols -/
def isint (g : Srt) (i j : Nat) (x y : Eff) (k : Nat) : Int :=
  if k < 10 then (if k = 2 then (g.n : Int) else if k = 3 then (i : Int) else if k = 4 then (j : Int) else if k = 5 then (i : Int) + 1 else if k = 6 then (j : Int) - 1 else 0)
  else if k < 14 then x.cell (k - 10) else if k < 18 then y.cell (k - 14) else if k = 20 then cmpE y x else 0
def isval (g : Srt) (k : Nat) : Value := match k with
  | 0 => g.sl
  | 1 => g.lv
  | _ => .nilIface
theorem isval_one {g : Srt} (k : Nat) : (isval g k).oneCell' = true := by
  unfold isval
  split
  · rfl
  · exact g.one
  · rfl
def irho (g : Srt) (i j : Nat) (x y : Eff) (c : Array Value) : Rho := ⟨isint g i j x y, isval g, fun _ => 0, fun _ => 0, isval_one, fun _ => numVs c, fun _ => numVs_closed c⟩
abbrev XI (S : Nat → Prop) : Ext := ⟨fun ρ w => ∀ e ∈ isKT, KEok Try.prog ρ w e S, S⟩
theorem hrcI {S : Nat → Prop} : @CEokT (XI S) Try.prog False (fun _ => True) (rcN isKT) := by
  letI : Ext := XI S
  exact evN_rc2 (noNG_of noNG) mixed (knL_ok fun _ _ h => h) 20000
theorem nt50 : Try.f50.ntmps ≤ top := Nat.le_of_ble_eq_true (by kernel_rfl)
theorem nt50' : Try.f50.ntmps = 53 := by kernel_rfl
section
variable {g : Srt} {i j : Nat} {x y : Eff} {c : Array Value} {S : Nat → Prop}
theorem ii2 : (irho g i j x y c).int 2 = (g.n : Int) := rfl
theorem ii5 : (irho g i j x y c).int 5 = (i : Int) + 1 := rfl
theorem ii6 : (irho g i j x y c).int 6 = (j : Int) - 1 := rfl
theorem iix (k : Nat) (hk : k < 4) : (irho g i j x y c).int (10 + k) = x.cell k := by
  show isint g i j x y (10 + k) = _
  unfold isint
  rw [if_neg (by omega), if_pos (by omega), Nat.add_sub_cancel_left]
theorem iiy (k : Nat) (hk : k < 4) : (irho g i j x y c).int (14 + k) = y.cell k := by
  show isint g i j x y (14 + k) = _
  unfold isint
  rw [if_neg (by omega), if_neg (by omega), if_pos (by omega), Nat.add_sub_cancel_left]
theorem ii20 : (irho g i j x y c).int 20 = cmpE y x := by
  show isint g i j x y 20 = _
  unfold isint
  rw [if_neg (by omega), if_neg (by omega), if_neg (by omega), if_pos rfl]
theorem cell_fit {e : Eff} (h : e.Fit) (k : Nat) : I64 (e.cell k) := by
  unfold Eff.cell
  split
  · exact h.op
  · exact h.a
  · exact h.b
  · exact h.st
theorem is_fits (hn : (g.n : Int) ≤ 1000000) (hi : i ≤ 1000001) (hj : j ≤ 1000001) (hx : x.Fit) (hy : y.Fit) (k : Nat) : I64 (isint g i j x y k) := by
  unfold isint
  split
  · repeat' split
    all_goals exact ⟨by omega, by omega⟩
  split
  · exact cell_fit hx _
  split
  · exact cell_fit hy _
  split
  · exact cmp_in _ _
  · exact i64_0
theorem is_iv {a b : Int × Int} (f : ∀ k, I64 (isint g i j x y k)) (h4 : a.1 ≤ (j : Int) ∧ (j : Int) ≤ a.2) (h20 : b.1 ≤ cmpE y x ∧ cmpE y x ≤ b.2) : IvOK (isiv a b) (irho g i j x y c) := by
  have e20 : isint g i j x y 20 = cmpE y x := ii20 (g := g) (i := i) (j := j) (x := x) (y := y) (c := #[])
  refine iv_all (f := isint g i j x y) ?_ f
  unfold isiv
  simp only [manyI, List.cons_append, List.nil_append]
  exact ⟨f 0, f 1, f 2, f 3, h4, f 5, f 6, f 7, f 8, f 9, f 10, f 11, f 12, f 13, f 14, f 15, f 16, f 17, f 18, f 19, ⟨by show b.1 ≤ isint g i j x y 20; rw [e20]; exact h20.1, by show isint g i j x y 20 ≤ b.2; rw [e20]; exact h20.2⟩, trivial⟩
theorem extI (hx : x.Fit) (hy : y.Fit) (w : World) : ∀ e ∈ isKT, KEok Try.prog (irho g i j x y c) w e S := by
  intro e he
  simp only [isKT, List.mem_singleton] at he
  subst he
  intro φ vs w' hφ _ _ hv _
  have hvs : vs = [g.lv, effV y, effV x] := by
    simp only [VRs, VR, si] at hv
    obtain ⟨v1, _, rfl, h1, v2, _, rfl, ⟨_, ⟨_, _, rfl, rfl, _, _, rfl, rfl, _, _, rfl, rfl, _, _, rfl, rfl, rfl⟩, rfl⟩, v3, _, rfl, ⟨_, ⟨_, _, rfl, rfl, _, _, rfl, rfl, _, _, rfl, rfl, _, _, rfl, rfl, rfl⟩, rfl⟩, rfl⟩ := hv
    rw [hφ] at h1
    rw [h1, hφ]
    have a0 := iiy (g := g) (i := i) (j := j) (x := x) (y := y) (c := c) 0 (by omega)
    have a1 := iiy (g := g) (i := i) (j := j) (x := x) (y := y) (c := c) 1 (by omega)
    have a2 := iiy (g := g) (i := i) (j := j) (x := x) (y := y) (c := c) 2 (by omega)
    have a3 := iiy (g := g) (i := i) (j := j) (x := x) (y := y) (c := c) 3 (by omega)
    have b0 := iix (g := g) (i := i) (j := j) (x := x) (y := y) (c := c) 0 (by omega)
    have b1 := iix (g := g) (i := i) (j := j) (x := x) (y := y) (c := c) 1 (by omega)
    have b2 := iix (g := g) (i := i) (j := j) (x := x) (y := y) (c := c) 2 (by omega)
    have b3 := iix (g := g) (i := i) (j := j) (x := x) (y := y) (c := c) 3 (by omega)
    rw [show (irho g i j x y c).int 14 = _ from a0, show (irho g i j x y c).int 15 = _ from a1, show (irho g i j x y c).int 16 = _ from a2, show (irho g i j x y c).int 17 = _ from a3, show (irho g i j x y c).int 10 = _ from b0, show (irho g i j x y c).int 11 = _ from b1, show (irho g i j x y c).int 12 = _ from b2, show (irho g i j x y c).int 13 = _ from b3]
    rfl
  subst hvs
  refine (before_calls hy hx g.one w').mono ?_
  rintro en w'' ⟨rfl, hb⟩
  exact ⟨_, rfl, by simp only [VR, si, hφ]; rw [ii20], hb⟩
/-! ### temporaries -/
theorem anyN_get : ∀ (n i : Nat), i < n → (anyN n)[i]? = some .any
  | 0, i, h => by omega
  | n + 1, 0, _ => by simp [anyN]
  | n + 1, i + 1, h => by simpa [anyN] using anyN_get n i (by omega)
theorem anyN_len : ∀ n, (anyN n).length = n
  | 0 => rfl
  | n + 1 => by simp [anyN, anyN_len n]
theorem tget_put_same (a : VT) (t : Nat) (x : VV) (h : t < top) : tget (a.put t x) t = x := by
  unfold tget
  rw [TT.get_put_same _ _ _ h]
theorem tget_put_other (a : VT) (t u : Nat) (x : VV) (h : u ≠ t) : tget (a.put t x) u = tget a u := by
  unfold tget
  rw [TT.get_put_other _ _ _ _ h]
theorem isa_get (vi vj : VV) (t : Nat) : tget (isa vi vj) t = if t = 9 then vj else if t = 8 then vi else if t = 3 then cmpV else if t = 2 then si 2 else if t = 1 then i8 0 else if t = 0 then .sym 0 else if t < 53 then .any else vundef := by
  unfold isa
  by_cases h9 : t = 9
  · subst h9; rw [if_pos rfl, tget_put_same _ _ _ (by decide)]
  rw [if_neg h9, tget_put_other _ _ _ _ h9]
  by_cases h8 : t = 8
  · subst h8; rw [if_pos rfl, tget_put_same _ _ _ (by decide)]
  rw [if_neg h8, tget_put_other _ _ _ _ h8]
  by_cases h3 : t = 3
  · subst h3; rw [if_pos rfl, tget_put_same _ _ _ (by decide)]
  rw [if_neg h3, tget_put_other _ _ _ _ h3]
  by_cases h2 : t = 2
  · subst h2; rw [if_pos rfl, tget_put_same _ _ _ (by decide)]
  rw [if_neg h2, tget_put_other _ _ _ _ h2]
  by_cases h1 : t = 1
  · subst h1; rw [if_pos rfl, tget_put_same _ _ _ (by decide)]
  rw [if_neg h1, tget_put_other _ _ _ _ h1]
  by_cases h0 : t = 0
  · subst h0; rw [if_pos rfl, tget_put_same _ _ _ (by decide)]
  rw [if_neg h0, tget_put_other _ _ _ _ h0]
  rw [listT_get _ _ _ _ (by rw [anyN_len]; decide), anyN_len]
  by_cases ht : t < 53
  · rw [if_pos ⟨by omega, by omega⟩, if_pos ht, anyN_get 53 (t - 0) (by omega)]
    rfl
  · rw [if_neg (by omega), if_neg ht]
    rfl
theorem isa_TR {act : Act} (h : IsAct g i act) {φ : Phi} {vi vj : VV} (hφ : φ.ρ = irho g i j x y c) (hi : VR φ vi (.int .i64 i)) (hj : VR φ vj (act.tmps.getD 9 undef)) : TR φ (isa vi vj) act.tmps := by
  intro t
  rw [isa_get]
  by_cases h9 : t = 9
  · subst h9; rw [if_pos rfl]; exact hj
  rw [if_neg h9]
  by_cases h8 : t = 8
  · subst h8; rw [if_pos rfl, h.t8]; exact hi
  rw [if_neg h8]
  by_cases h3 : t = 3
  · subst h3
    rw [if_pos rfl, h.t3]
    simp only [cmpV, VR, VRs, hφ]
    exact ⟨_, _, rfl, ⟨_, _, rfl, rfl, rfl⟩, rfl, rfl⟩
  rw [if_neg h3]
  by_cases h2 : t = 2
  · subst h2
    rw [if_pos rfl, h.t2]
    simp only [si, VR, hφ]
    rw [ii2]
  rw [if_neg h2]
  by_cases h1 : t = 1
  · subst h1
    rw [if_pos rfl, h.t1]
    simp only [i8, VR]
  rw [if_neg h1]
  by_cases h0 : t = 0
  · subst h0
    rw [if_pos rfl, h.t0]
    simp only [VR, hφ]
    rfl
  rw [if_neg h0]
  by_cases ht : t < 53
  · rw [if_pos ht]
    simp only [VR]
  · rw [if_neg ht]
    have : act.tmps.getD t undef = undef := by
      have hs := h.sz
      rw [nt50'] at hs
      simp [Array.getD, show ¬ t < act.tmps.size by omega]
    rw [this]
    exact VR_undef φ
theorem keep_val {a : VT} {φ : Phi} {tmps : Array Value} (ht : TR φ a tmps) : ∀ {l : List (Nat × VV)}, atHead.allL2 a l = true → ∀ p ∈ l, VR φ p.2 (tmps.getD p.1 undef)
  | [], _, p, hp => by cases hp
  | (k, v) :: l, h, p, hp => by
    simp only [atHead.allL2] at h
    split at h
    · rename_i hv
      rcases List.mem_cons.1 hp with rfl | hp
      · have := ht k
        rw [vvEq_eq _ _ hv] at this
        exact this
      · exact keep_val ht h p hp
    · cases h
/-- What the temporaries are at a head that was reached. -/
theorem act_of {act : Act} {a : VT} {φ : Phi} {i' : Nat} {vi : VV} (hφ : φ.ρ = irho g i j x y c) (hsz : act.tmps.size = Try.f50.ntmps) (hd : act.defers = []) (ht : TR φ a act.tmps) (hk : ∀ p ∈ keepO vi, VR φ p.2 (act.tmps.getD p.1 undef)) (hi : ∀ v, VR φ vi v → v = .int .i64 i') : IsAct g i' act := by
  have k0 := hk (0, .sym 0) (by simp [keepO])
  have k1 := hk (1, i8 0) (by simp [keepO])
  have k2 := hk (2, si 2) (by simp [keepO])
  have k3 := hk (3, cmpV) (by simp [keepO])
  have k8 := hk (8, vi) (by simp [keepO])
  simp only [VR, hφ] at k0
  simp only [i8, VR] at k1
  simp only [si, VR, hφ] at k2
  simp only [cmpV, VR, VRs, hφ] at k3
  obtain ⟨_, _, _, ⟨_, _, rfl, rfl, rfl⟩, rfl, k3⟩ := k3
  exact ⟨hsz, hd, k0, k1, by rw [k2, ii2], k3, hi _ k8⟩
theorem keepO_of {vi vj : VV} {φ : Phi} {tmps : Array Value} (h : ∀ p ∈ keepT vi vj, VR φ p.2 (tmps.getD p.1 undef)) : ∀ p ∈ keepO vi, VR φ p.2 (tmps.getD p.1 undef) := fun p hp => h p (by
  simp only [keepO, List.mem_cons, List.not_mem_nil, or_false] at hp
  simp only [keepT, List.mem_cons, List.not_mem_nil, or_false]
  rcases hp with h | h | h | h | h <;> simp [h])
end
end
end Go.Proofs.Ytgbhmkdldfhamaa.order
namespace Go.Proofs.Ytgbhmkdldfhamaa.order
open Go.Ev Go.RowKit
set_option linter.unusedVariables false
noncomputable section
theorem atHead_of {t : Nat} {l : List (Nat × VV)} {o : Option SegO} (h : atHead t l none o = true) : ∃ a H, o = some (.cut t a H) ∧ atHead.allL2 a l = true := by
  unfold atHead at h
  split at h
  · rename_i t' a H
    split at h
    · rename_i h1 h2
      rw [Nat.eq_of_beq_eq_true h1]
      exact ⟨a, H, rfl, h2⟩
    · cases h
  · cases h
theorem atHeadW_of {t : Nat} {l : List (Nat × VV)} {cs : List VV} {o : Option SegO} (h : atHead t l (some cs) o = true) : ∃ a H, o = some (.cut t a H) ∧ atHead.allL2 a l = true ∧ H.locs.get 0 = some (.win 0 cs) := by
  unfold atHead at h
  split at h
  · rename_i t' a H
    split at h
    · rename_i h1 h2
      simp only at h
      split at h
      · rename_i c' hg
        rw [Nat.eq_of_beq_eq_true h1]
        exact ⟨a, H, rfl, h2, by rw [hg, vvsEq_eq _ _ h]⟩
      · cases h
    · cases h
  · cases h
section
variable {g : Srt} {i j : Nat} {Q : Exit → Act → World → Prop} {HD : Nat → Act → World → Prop}
theorem ivs_plain (hn : (g.n : Int) ≤ 1000000) (hi : i ≤ 1000001) (hj : j ≤ 1000001) {a : Int × Int} (h4 : a.1 ≤ (j : Int) ∧ (j : Int) ≤ a.2) : IvOK (isiv a big1) (irho g i j eff0 eff0 #[]) :=
  is_iv (is_fits hn hi hj eff0_fit eff0_fit) h4 (cmp_in _ _)
theorem big_in {z : Int} (h : I64 z) : big1.1 ≤ z ∧ z ≤ big1.2 := h
/-- The state at a head, no block being looked at. -/
theorem plain_RSG {act : Act} {w : World} {vi vj : VV} {a : Int × Int} {fs : List Fact} (hact : IsAct g i act) (hvi : VR ⟨fun _ => none, irho g i j eff0 eff0 #[]⟩ vi (.int .i64 i)) (hvj : VR ⟨fun _ => none, irho g i j eff0 eff0 #[]⟩ vj (act.tmps.getD 9 undef))
    (hiv : IvOK (isiv a big1) (irho g i j eff0 eff0 #[])) (hfs : FsOK fs (irho g i j eff0 eff0 #[])) : @RSG (XI fun _ => False) ⟨w, fun _ => none⟩ w (· = irho g i j eff0 eff0 #[]) Try.f50.ntmps (isa vi vj) ⟨Eis a big1 fs, .lf, 0⟩ act w := by
  letI : Ext := XI fun _ => False
  refine ⟨⟨fun _ => none, irho g i j eff0 eff0 #[]⟩, rfl, isa_TR hact rfl hvi hvj, HSim.startE ⟨extI eff0_fit eff0_fit w, hiv, fun f hf => FactOK.w (hfs f hf), fun k cs h => by cases h⟩ (fun r b h => by cases h), .start, hact.sz, hact.df⟩
/-- A round, no block being looked at. -/
theorem plain_step {t t' : Nat} {c : Code} {K : List Fr1} (hc : ctx t isbody 0 [] = some (c, K)) (hat : At1 isbody (.loop c) t K) (hko : KOK isbody K) {act : Act} {w : World} {vi vj : VV} {a : Int × Int} {fs : List Fact} {l : List (Nat × VV)}
    (hrun : atHead t' l none (seg1 (isa vi vj) ⟨Eis a big1 fs, .lf, 0⟩ t) = true)
    (hact : IsAct g i act) (hvi : VR ⟨fun _ => none, irho g i j eff0 eff0 #[]⟩ vi (.int .i64 i)) (hvj : VR ⟨fun _ => none, irho g i j eff0 eff0 #[]⟩ vj (act.tmps.getD 9 undef))
    (hiv : IvOK (isiv a big1) (irho g i j eff0 eff0 #[])) (hfs : FsOK fs (irho g i j eff0 eff0 #[]))
    (hgo : ∀ (act' : Act) (w' : World) (φ : Phi) (a' : VT), φ.ρ = irho g i j eff0 eff0 #[] → act'.tmps.size = Try.f50.ntmps → act'.defers = [] → TR φ a' act'.tmps → (∀ p ∈ l, VR φ p.2 (act'.tmps.getD p.1 undef)) → WK w w' → (∀ k, k < w.heap.size → w'.heap[k]? = w.heap[k]?) →
      HD t' act' w' ∧ ∀ c' K', ctx t' isbody 0 [] = some (c', K') → (Code.loop c').wpIn (Fr none) 0 Try.prog (postK Try.prog HD Q K') act' w') :
    c.wpIn (Fr none) 0 Try.prog (postK Try.prog HD Q (.lp c t :: K)) act w := by
  letI : Ext := XI fun _ => False
  obtain ⟨a', H', hs, hl⟩ := atHead_of hrun
  unfold seg1 at hs
  rw [hc] at hs
  refine segG_sound (Rr := fun _ => True) trivial hrcI nt50 (Nat.le_refl _) hat.loop.2 hko hs (plain_RSG hact hvi hvj hiv hfs) fun act' w' _ k => ?_
  obtain ⟨φ, k1, k2, k3, k4, k5, k6⟩ := k
  exact hgo act' w' φ a' k1 k5 k6 k2 (keep_val k2 hl) k4.wk fun q hq => k3.old.same q hq id
/-- The end. -/
theorem plain_end {c : Code} {K : List Fr1} (hc : ctx 0 isbody 0 [] = some (c, K)) (hat : At1 isbody (.loop c) 0 K) (hko : KOK isbody K) {act : Act} {w : World} {vi vj : VV} {a : Int × Int} {fs : List Fact}
    (hrun : isOut (seg1 (isa vi vj) ⟨Eis a big1 fs, .lf, 0⟩ 0) = true)
    (hact : IsAct g i act) (hvi : VR ⟨fun _ => none, irho g i j eff0 eff0 #[]⟩ vi (.int .i64 i)) (hvj : VR ⟨fun _ => none, irho g i j eff0 eff0 #[]⟩ vj (act.tmps.getD 9 undef))
    (hiv : IvOK (isiv a big1) (irho g i j eff0 eff0 #[])) (hfs : FsOK fs (irho g i j eff0 eff0 #[]))
    (hgo : ∀ (act' : Act) (w' : World), act'.defers = [] → (∃ v, (results Try.f50 act'.tmps).run Try.prog w' = .ok v w' ∧ v = .tuple ⟨[]⟩) → WK w w' → (∀ k, k < w.heap.size → w'.heap[k]? = w.heap[k]?) → Q .normal act' w') :
    c.wpIn (Fr none) 0 Try.prog (postK Try.prog HD Q (.lp c 0 :: K)) act w := by
  letI : Ext := XI fun _ => False
  unfold seg1 at hrun
  rw [hc] at hrun
  simp only at hrun
  unfold isOut at hrun
  split at hrun
  · rename_i a' H' hs
    refine segG_sound (Rr := fun _ => True) trivial hrcI nt50 (Nat.le_refl _) hat.loop.2 hko hs (plain_RSG hact hvi hvj hiv hfs) fun act' w' _ k => ?_
    obtain ⟨φ, k1, k2, k3, k4, k5, k6⟩ := k
    obtain ⟨v', r1, r2⟩ := results_sound (P := Try.prog) k2 k3 (fn := Try.f50) (vs := []) (by kernel_rfl)
    simp only [oneV, VR, VRs] at r2
    obtain ⟨_, rfl, rfl⟩ := r2
    exact hgo act' w' k6 ⟨_, r1, rfl⟩ k4.wk fun q hq => k3.old.same q hq id
  · cases hrun
/-! ### rounds that look at two elements -/
theorem cell_at {l : List Eff} {w : World} {c' : Array Value} {O : Nat} (h : ∀ i x, l[i]? = some x → ∀ j, j < 4 → c'[O + i * 4 + j]? = some (.int .i64 (x.cell j))) {i q : Nat} (hi : i < l.length) (hq : q < 4) : c'[O + i * 4 + q]? = some (.int .i64 ((l.getD i eff0).cell q)) := by
  have : l[i]? = some (l.getD i eff0) := by
    rw [List.getD_eq_getElem?_getD, List.getElem?_eq_getElem hi]
    rfl
  exact h i _ this q hq
theorem iscells_at (q : Nat) (hq : q < 8) : iscells[q]? = some (si (10 + q)) := by
  match q, hq with
  | 0, _ => rfl
  | 1, _ => rfl
  | 2, _ => rfl
  | 3, _ => rfl
  | 4, _ => rfl
  | 5, _ => rfl
  | 6, _ => rfl
  | 7, _ => rfl
theorem win_step {t' : Nat} {c : Code} {K : List Fr1} {j : Nat} (hc : ctx 1 isbody 0 [] = some (c, K)) (hat : At1 isbody (.loop c) 1 K) (hko : KOK isbody K) {act : Act} {w : World} {b : Int × Int} {l : List (Nat × VV)} {cs : List VV} {lst : List Eff}
    (hrun : atHead t' l (some cs) (seg1 (isa (si 3) (si 4)) ⟨Eis (1, 9223372036854775807) b isFw, iswin, 1⟩ 1) = true)
    (hact : IsAct g i act) (ht9 : act.tmps.getD 9 undef = .int .i64 ((j + 1 : Nat) : Int)) (hn : (g.n : Int) ≤ 1000000) (hi : i < g.n) (hj : j + 1 < g.n) (hm : g.Mem lst w)
    (hb : b.1 ≤ cmpE (lst.getD (j + 1) eff0) (lst.getD j eff0) ∧ cmpE (lst.getD (j + 1) eff0) (lst.getD j eff0) ≤ b.2)
    (hgo : ∀ (act' : Act) (w' : World) (φ : Phi) (a' : VT) (c0 c' : Array Value) (e : TypeId) (fr : Nat × Nat), φ.ρ = irho g i (j + 1) (lst.getD j eff0) (lst.getD (j + 1) eff0) c0 → act'.tmps.size = Try.f50.ntmps → act'.defers = [] → TR φ a' act'.tmps → (∀ p ∈ l, VR φ p.2 (act'.tmps.getD p.1 undef)) → WK w w' → (∀ k, k < w.heap.size → k ≠ g.B → w'.heap[k]? = w.heap[k]?) →
      (∀ i x, lst[i]? = some x → ∀ q, q < 4 → c0[g.O + i * 4 + q]? = some (.int .i64 (x.cell q))) → (g.O + g.n * 4 ≤ g.m ∧ g.m ≤ c0.size) → w'.heap[g.B]? = some (.cells c' e fr) → OR φ ⟨g.B, g.O + j * 4, j * 4⟩ (.win 0 cs) (.cells c' e fr) →
      HD t' act' w' ∧ ∀ c' K', ctx t' isbody 0 [] = some (c', K') → (Code.loop c').wpIn (Fr none) 0 Try.prog (postK Try.prog HD Q K') act' w') :
    c.wpIn (Fr none) 0 Try.prog (postK Try.prog HD Q (.lp c 1 :: K)) act w := by
  letI : Ext := XI fun k => k = g.B
  obtain ⟨a', H', hs, hl, hwin⟩ := atHeadW_of hrun
  unfold seg1 at hs
  rw [hc] at hs
  obtain ⟨c0, e0, fr0, m1, m2, m3, m4⟩ := hm.mem (.inl (by omega))
  have hlen := hm.len
  have hadr := hm.adr (.inl (by omega))
  have hfit : ∀ k, (lst.getD k eff0).Fit := fun k => by
    rw [List.getD_eq_getElem?_getD]
    cases hx : lst[k]? with
    | none => exact eff0_fit
    | some e => exact hm.fit e (List.mem_of_getElem? hx)
  generalize hx : lst.getD j eff0 = x at *
  generalize hy : lst.getD (j + 1) eff0 = y at *
  have fx : x.Fit := hx ▸ hfit j
  have fy : y.Fit := hy ▸ hfit (j + 1)
  let ρ := irho g i (j + 1) x y c0
  let inf : Inf := ⟨g.B, g.O + j * 4, j * 4⟩
  have hlt : g.B < w.heap.size := get_lt m1
  have hiv : IvOK (isiv (1, 9223372036854775807) b) ρ := is_iv (is_fits hn (by omega) (by omega) fx fy) ⟨by show (1 : Int) ≤ ((j + 1 : Nat) : Int); omega, by show ((j + 1 : Nat) : Int) ≤ 9223372036854775807; omega⟩ hb
  have hO : OR ⟨oneF inf, ρ⟩ inf (.win 0 iscells) (.cells c0 e0 fr0) := by
    refine ⟨c0, e0, fr0, rfl, by show fr0.2 + j * 4 ≤ g.O + j * 4; omega, by show g.O + j * 4 + 8 ≤ c0.size; omega, (numVs_len c0).symm, fun q v hq => ?_, fun q v _ hv hne => ?_⟩
    · have hq8 : q < 8 := (List.getElem?_eq_some_iff.1 hq).1
      rw [iscells_at q hq8] at hq
      cases hq
      by_cases h4 : q < 4
      · refine ⟨_, cell_at (w := w) m4 (i := j) (q := q) (by omega) h4, ?_⟩
        simp only [si, VR]
        rw [show (ρ.int (10 + q)) = x.cell q from iix q h4, hx]
      · refine ⟨_, by rw [show inf.off + q = g.O + (j + 1) * 4 + (q - 4) by show g.O + j * 4 + q = _; omega]; exact cell_at (w := w) m4 (i := j + 1) (q := q - 4) (by omega) (by omega), ?_⟩
        simp only [si, VR]
        rw [show 10 + q = 14 + (q - 4) by omega, show (ρ.int (14 + (q - 4))) = y.cell (q - 4) from iiy (q - 4) (by omega), hy]
    · have hv' : (numVs c0)[q]? = some v := hv
      unfold numVs at hv'
      rw [List.getElem?_map, Array.getElem?_toList] at hv'
      cases hcq : c0[q]? with
      | none => rw [hcq] at hv'; cases hv'
      | some u =>
        rw [hcq] at hv'
        simp only [Option.map_some, Option.some.injEq] at hv'
        subst hv'
        refine ⟨u, rfl, ?_⟩
        cases u with
        | int k n => exact ⟨rfl, fun f => by show VR ⟨f, ρ⟩ (.int k n) (.int k n); simp only [VR]⟩
        | _ => exact (hne rfl).elim
  have hE : EnvOK (Eis (1, 9223372036854775807) b isFw) ⟨oneF inf, ρ⟩ (less w g.B) := by
    refine ⟨extI fx fy _, hiv, fun f hf => ?_, fun k cs h => by cases h⟩
    have f' : f = .win 4 (.sym 0) (si 4) 0 4 ∨ f = .win 4 (.sym 0) (si 6) 0 0 ∨ f = .bin .sub (si 4) (i8 1) (si 6) ∨ f = .bin .add (si 3) (i8 1) (si 5) := by simpa [isFw, Eis] using hf
    rcases f' with rfl | rfl | rfl | rfl
    · refine ⟨⟨g.B, g.O, none⟩, g.n, g.ca, .i64, ((j + 1 : Nat) : Int), inf, ?_, rfl, rfl, by omega, by omega, rfl, rfl, ?_⟩
      · show some g.sl = _
        unfold Srt.sl
        rw [hadr]
      · show g.O + j * 4 + 4 = g.O + ((j + 1 : Nat) : Int).toNat * 4
        omega
    · refine ⟨⟨g.B, g.O, none⟩, g.n, g.ca, .i64, ((j + 1 : Nat) : Int) - 1, inf, ?_, rfl, rfl, by omega, by omega, rfl, rfl, ?_⟩
      · show some g.sl = _
        unfold Srt.sl
        rw [hadr]
      · show g.O + j * 4 + 0 = g.O + (((j + 1 : Nat) : Int) - 1).toNat * 4
        omega
    · refine FactOK.w ⟨_, _, _, rfl, rfl, rfl, by simp, by simp, fun P t w => ?_⟩
      have e : IntKind.i64.wrap (((j + 1 : Nat) : Int) - 1) = ((j + 1 : Nat) : Int) - 1 := by rw [IntKind.wrap_i64]; omega
      show (binOp .sub t (.int .i64 ((j + 1 : Nat) : Int)) (.int .i64 1)).run P w = .ok (.int .i64 (((j + 1 : Nat) : Int) - 1)) w
      simp only [binOp, Op.intArith, e, ne_eq, not_true_eq_false, if_false]
      rfl
    · exact FactOK.w (fact_add (show ρ.int 5 = ρ.int 3 + 1 from rfl) (by show -9223372036854775808 ≤ (i : Int) + 1; omega) (by show (i : Int) + 1 ≤ 9223372036854775807; omega))
  have hsim := HSim.window (b := g.B) (E := Eis (1, 9223372036854775807) b isFw) rfl m1 (fun k => Iff.rfl) hE (fun _ => rfl) hO
  have hRSG : RSG ⟨w, oneF inf⟩ (less w g.B) (· = ρ) Try.f50.ntmps (isa (si 3) (si 4)) ⟨Eis (1, 9223372036854775807) b isFw, iswin, 1⟩ act w :=
    ⟨⟨oneF inf, ρ⟩, rfl, isa_TR hact rfl (by simp only [si, VR]; rfl) (by rw [ht9]; simp only [si, VR]; rfl), hsim, .start, hact.sz, hact.df⟩
  refine segG_sound (Rr := fun _ => True) trivial hrcI nt50 (Nat.le_refl _) hat.loop.2 hko hs hRSG fun act' w' _ k => ?_
  obtain ⟨φ, k1, k2, k3, k4, k5, k6⟩ := k
  obtain ⟨inf', o', q1, q2, q3, _⟩ := k3.live 0 _ hwin
  have hp := k4.pin 0 inf rfl
  rw [q1] at hp
  cases hp
  obtain ⟨c', e, fr, rfl, _⟩ := id q3
  exact hgo act' w' φ a' c0 c' e fr k1 k5 k6 k2 (keep_val k2 hl) k4.wk (fun q hq hne => k4.frame q hq fun ⟨i0, inf0, h1, h2⟩ => by
    have h1' : (if i0 = 0 then some inf else none) = some inf0 := h1
    split at h1'
    · cases h1'
      exact hne h2.symm
    · cases h1') m4 m3 q2 q3
end
end
end Go.Proofs.Ytgbhmkdldfhamaa.order
namespace Go.Proofs.Ytgbhmkdldfhamaa.order
open Go.Ev Go.RowKit
set_option linter.unusedVariables false
noncomputable section
def swp (l : List Eff) (j : Nat) : List Eff := (l.set j (l.getD (j + 1) eff0)).set (j + 1) (l.getD j eff0)
theorem bub_lt {l : List Eff} {j : Nat} (h : cmpE (l.getD (j + 1) eff0) (l.getD j eff0) < 0) : bub (j + 1) l = bub j (swp l j) := by
  simp only [bub, if_pos h, swp]
theorem bub_ge {l : List Eff} {j : Nat} (h : ¬ cmpE (l.getD (j + 1) eff0) (l.getD j eff0) < 0) : bub (j + 1) l = l := by
  simp only [bub, if_neg h]
theorem swp_len (l : List Eff) (j : Nat) : (swp l j).length = l.length := by simp [swp]
theorem getD_fit {l : List Eff} (h : ∀ e ∈ l, e.Fit) (k : Nat) : (l.getD k eff0).Fit := by
  rw [List.getD_eq_getElem?_getD]
  cases hx : l[k]? with
  | none => exact eff0_fit
  | some e => exact h e (List.mem_of_getElem? hx)
theorem swp_fit {l : List Eff} (h : ∀ e ∈ l, e.Fit) (j : Nat) : ∀ e ∈ swp l j, e.Fit := by
  intro e he
  unfold swp at he
  rcases List.mem_or_eq_of_mem_set he with he | rfl
  · rcases List.mem_or_eq_of_mem_set he with he | rfl
    · exact h e he
    · exact getD_fit h _
  · exact getD_fit h _
theorem swp_at {l : List Eff} {j : Nat} (hj : j + 1 < l.length) {i : Nat} {x : Eff} (hx : (swp l j)[i]? = some x) : (i = j + 1 ∧ x = l.getD j eff0) ∨ (i = j ∧ x = l.getD (j + 1) eff0) ∨ (i ≠ j ∧ i ≠ j + 1 ∧ l[i]? = some x) := by
  unfold swp at hx
  rw [List.getElem?_set, List.getElem?_set] at hx
  by_cases h1 : j + 1 = i
  · rw [if_pos h1] at hx
    split at hx
    · exact .inl ⟨h1.symm, (Option.some.inj hx).symm⟩
    · cases hx
  · rw [if_neg h1] at hx
    by_cases h2 : j = i
    · rw [if_pos h2] at hx
      split at hx
      · exact .inr (.inl ⟨h2.symm, (Option.some.inj hx).symm⟩)
      · cases hx
    · rw [if_neg h2] at hx
      exact .inr (.inr ⟨fun e => h2 e.symm, fun e => h1 e.symm, hx⟩)
section
variable {g : Srt} {l : List Eff} {j : Nat} {φ : Phi} {c0 c' : Array Value} {e : TypeId} {fr : Nat × Nat} {i : Nat} {w' : World}
/-- Memory behind a look. -/
theorem mem_same (hlen : l.length = g.n) (hfit : ∀ e ∈ l, e.Fit) (hadr : g.oa = some ⟨g.B, g.O, none⟩) (hj : j + 1 < g.n) (hφ : φ.ρ = irho g i (j + 1) (l.getD j eff0) (l.getD (j + 1) eff0) c0)
    (m4 : ∀ i x, l[i]? = some x → ∀ q, q < 4 → c0[g.O + i * 4 + q]? = some (.int .i64 (x.cell q))) (m3 : (g.O + g.n * 4 ≤ g.m ∧ g.m ≤ c0.size)) (hw : w'.heap[g.B]? = some (.cells c' e fr)) (hO : OR φ ⟨g.B, g.O + j * 4, j * 4⟩ (.win 0 iscells) (.cells c' e fr)) : g.Mem l w' := by
  have hl : φ.ρ.lst 0 = numVs c0 := by rw [hφ]; rfl
  obtain ⟨s1, s2⟩ := win_size hl hO
  refine ⟨hlen, hfit, fun _ => hadr, fun _ => ⟨c', e, fr, hw, by have s2' : fr.2 + j * 4 ≤ g.O + j * 4 := s2; omega, by omega, fun k x hx q hq => ?_⟩⟩
  have hk : k < l.length := (List.getElem?_eq_some_iff.1 hx).1
  have ex : l.getD k eff0 = x := by rw [List.getD_eq_getElem?_getD, hx]; rfl
  by_cases h1 : k = j
  · subst h1
    have := win_in hO (q := q) (k := .i64) (i := 10 + q) (iscells_at q (by omega))
    rw [show g.O + k * 4 + q = (⟨g.B, g.O + k * 4, k * 4⟩ : Inf).off + q from rfl, this, hφ, iix q hq, ex]
  by_cases h2 : k = j + 1
  · subst h2
    have := win_in hO (q := q + 4) (k := .i64) (i := 10 + (q + 4)) (iscells_at (q + 4) (by omega))
    rw [show g.O + (j + 1) * 4 + q = (⟨g.B, g.O + j * 4, j * 4⟩ : Inf).off + (q + 4) by show _ = g.O + j * 4 + (q + 4); omega, this, hφ, show 10 + (q + 4) = 14 + q by omega, iiy q hq, ex]
  · exact win_out hl hO (by show g.O + k * 4 + q < g.O + j * 4 ∨ g.O + j * 4 + 8 ≤ g.O + k * 4 + q; omega) (m4 k x hx q hq)
theorem iswap_at (q : Nat) (hq : q < 4) : iswap[q]? = some (si (14 + q)) ∧ iswap[q + 4]? = some (si (10 + q)) := by
  match q, hq with
  | 0, _ => exact ⟨rfl, rfl⟩
  | 1, _ => exact ⟨rfl, rfl⟩
  | 2, _ => exact ⟨rfl, rfl⟩
  | 3, _ => exact ⟨rfl, rfl⟩
/-- Memory behind an exchange. -/
theorem mem_swap (hlen : l.length = g.n) (hfit : ∀ e ∈ l, e.Fit) (hadr : g.oa = some ⟨g.B, g.O, none⟩) (hj : j + 1 < g.n) (hφ : φ.ρ = irho g i (j + 1) (l.getD j eff0) (l.getD (j + 1) eff0) c0)
    (m4 : ∀ i x, l[i]? = some x → ∀ q, q < 4 → c0[g.O + i * 4 + q]? = some (.int .i64 (x.cell q))) (m3 : (g.O + g.n * 4 ≤ g.m ∧ g.m ≤ c0.size)) (hw : w'.heap[g.B]? = some (.cells c' e fr)) (hO : OR φ ⟨g.B, g.O + j * 4, j * 4⟩ (.win 0 iswap) (.cells c' e fr)) : g.Mem (swp l j) w' := by
  have hl : φ.ρ.lst 0 = numVs c0 := by rw [hφ]; rfl
  obtain ⟨s1, s2⟩ := win_size hl hO
  refine ⟨by rw [swp_len]; exact hlen, swp_fit hfit j, fun _ => hadr, fun _ => ⟨c', e, fr, hw, by have s2' : fr.2 + j * 4 ≤ g.O + j * 4 := s2; omega, by omega, fun k x hx q hq => ?_⟩⟩
  rcases swp_at (by omega) hx with ⟨rfl, rfl⟩ | ⟨rfl, rfl⟩ | ⟨h1, h2, h3⟩
  · have := win_in hO (q := q + 4) (k := .i64) (i := 10 + q) (iswap_at q hq).2
    rw [show g.O + (j + 1) * 4 + q = (⟨g.B, g.O + j * 4, j * 4⟩ : Inf).off + (q + 4) by show _ = g.O + j * 4 + (q + 4); omega, this, hφ, iix q hq]
  · have := win_in hO (q := q) (k := .i64) (i := 14 + q) (iswap_at q hq).1
    rw [show g.O + k * 4 + q = (⟨g.B, g.O + k * 4, k * 4⟩ : Inf).off + q from rfl, this, hφ, iiy q hq]
  · exact win_out hl hO (by show g.O + k * 4 + q < g.O + j * 4 ∨ g.O + j * 4 + 8 ≤ g.O + k * 4 + q; omega) (m4 k x h3 q hq)
end
theorem is0T : is0 = true := by kernel_rfl
theorem is1T : is1 = true := by kernel_rfl
theorem is2T : is2 = true := by kernel_rfl
theorem is3T : is3 = true := by kernel_rfl
theorem is4T : is4 = true := by kernel_rfl
theorem is5T : is5 = true := by kernel_rfl
theorem body50 : Try.f50.body = some isbody := rfl
theorem frB_same {B : Nat} {w w' : World} (h1 : WK w w') (h2 : ∀ k, k < w.heap.size → w'.heap[k]? = w.heap[k]?) : FrB B w w' := ⟨h1, fun k hk _ => h2 k hk⟩
/-- slices.insertionSortCmpFunc, from the first element on. -/
theorem isort_calls {g : Srt} {l0 : List Eff} {w : World} (h : g.Mem l0 w) (hn : (g.n : Int) ≤ 1000000) : Calls Try.prog 50 ⟨[g.sl, .int .i64 0, .int .i64 g.n, g.cmp]⟩ w fun e w' => e = .returned (.tuple ⟨[]⟩) ∧ g.Mem (isort l0) w' ∧ FrB g.B w w' := by
  have hlen0 := h.len
  let I : Nat → Nat → Act → World → Prop := fun k t act w' =>
    (t = 0 ∧ ∃ i l, 1 ≤ i ∧ IsAct g i act ∧ g.Mem l w' ∧ FrB g.B w w' ∧ (i ≤ g.n ∨ i = 1) ∧ outer (g.n - i) i l = isort l0 ∧ k = (g.n - i) * (g.n + 2)) ∨
    (t = 1 ∧ ∃ i j l, 1 ≤ i ∧ i < g.n ∧ j ≤ i ∧ IsAct g i act ∧ act.tmps.getD 9 undef = .int .i64 (j : Int) ∧ g.Mem l w' ∧ FrB g.B w w' ∧ outer (g.n - i - 1) (i + 1) (bub j l) = isort l0 ∧ k = (g.n - i - 1) * (g.n + 2) + j + 1)
  let Q : Exit → Act → World → Prop := fun e act' w' => (e = .ret ∨ e = .normal) ∧ act'.defers = [] ∧ ∃ v, (results Try.f50 act'.tmps).run Try.prog w' = .ok v w' ∧ (Ending.returned v = .returned (.tuple ⟨[]⟩) ∧ g.Mem (isort l0) w' ∧ FrB g.B w w')
  have hI : ∀ k t act w', I k t act w' → ∀ c K, ctx t isbody 0 [] = some (c, K) → At1 isbody (.loop c) t K → KOK isbody K → ∀ HD : Nat → Act → World → Prop, (∀ t' act' w'', (∃ j, j < k ∧ I j t' act' w'') → HD t' act' w'' ∧ ∀ c' K', ctx t' isbody 0 [] = some (c', K') → (Code.loop c').wpIn (Fr none) 0 Try.prog (postK Try.prog HD Q K') act' w'') →
      c.wpIn (Fr none) 0 Try.prog (postK Try.prog HD Q (.lp c t :: K)) act w' := by
    rintro k t act w' hk c K hc hat hko HD hHD
    rcases hk with ⟨rfl, i, l, hi1, ha, hm, hf, hin, ho, rfl⟩ | ⟨rfl, i, j, l, hi1, hi, hj, ha, h9, hm, hf, ho, rfl⟩
    · by_cases hlt : i < g.n
      · refine plain_step (j := 0) hc hat hko is1T ha (by simp only [si, VR]; rfl) (by simp only [VR]) (ivs_plain hn (by omega) (by omega) (big_in i64_0)) (fs_cons (factLss (decide_eq_true (show (i : Int) < (g.n : Int) by omega))) fs_nil) fun act' w'' φ a' hφ hsz hd ht hk hwk hsame => ?_
        refine hHD 1 act' w'' ⟨(g.n - i - 1) * (g.n + 2) + i + 1, ?_, .inr ⟨rfl, i, i, l, hi1, hlt, Nat.le_refl _, act_of hφ hsz hd ht (keepO_of hk) fun v hv => ?_, ?_, hm.later hsame, hf.trans (frB_same hwk hsame), ?_, rfl⟩⟩
        · have e : g.n - i = (g.n - i - 1) + 1 := by omega
          rw [e, Nat.add_mul, Nat.add_sub_cancel]
          omega
        · simp only [si, VR, hφ] at hv
          rw [hv]
          rfl
        · have := hk (9, si 3) (by simp [keepT])
          simp only [si, VR, hφ] at this
          rw [this]
          rfl
        · rw [show g.n - i = (g.n - i - 1) + 1 by omega] at ho
          exact ho
      · refine plain_end (j := 0) hc hat hko is2T ha (by simp only [si, VR]; rfl) (by simp only [VR]) (ivs_plain hn (by omega) (by omega) (big_in i64_0)) (fs_cons (factLss (decide_eq_false (show ¬ (i : Int) < (g.n : Int) by omega))) fs_nil) fun act' w'' hd hr hwk hsame => ?_
        obtain ⟨v, hv, rfl⟩ := hr
        rw [show g.n - i = 0 by omega] at ho
        have ho' : l = isort l0 := ho
        exact ⟨.inr rfl, hd, _, hv, rfl, by rw [← ho']; exact hm.later hsame, hf.trans (frB_same hwk hsame)⟩
    · cases j with
      | zero =>
        refine plain_step (j := 0) hc hat hko is3T ha (by simp only [si, VR]; rfl) (by rw [h9]; simp only [si, VR]; rfl) (ivs_plain hn (by omega) (by omega) ⟨by show (0 : Int) ≤ ((0 : Nat) : Int); omega, by show ((0 : Nat) : Int) ≤ 0; omega⟩) (fs_cons (fact_add (show (irho g i 0 eff0 eff0 #[]).int 5 = (irho g i 0 eff0 eff0 #[]).int 3 + 1 from rfl) (by rw [ii5]; omega) (by rw [ii5]; omega)) fs_nil) fun act' w'' φ a' hφ hsz hd ht hk hwk hsame => ?_
        refine hHD 0 act' w'' ⟨(g.n - (i + 1)) * (g.n + 2), ?_, .inl ⟨rfl, i + 1, l, by omega, act_of hφ hsz hd ht hk fun v hv => ?_, hm.later hsame, hf.trans (frB_same hwk hsame), .inl (by omega), ?_, rfl⟩⟩
        · rw [show g.n - (i + 1) = g.n - i - 1 by omega]
          omega
        · simp only [si, VR, hφ] at hv
          rw [hv, ii5]
          rfl
        · rw [show g.n - (i + 1) = g.n - i - 1 by omega]
          exact ho
      | succ j =>
        have hadr := hm.adr (.inl (by omega))
        have cb := cmp_in (l.getD (j + 1) eff0) (l.getD j eff0)
        by_cases hlt : cmpE (l.getD (j + 1) eff0) (l.getD j eff0) < 0
        · refine win_step (j := j) hc hat hko is5T ha h9 hn hi (by omega) hm ⟨cb.1, by show _ ≤ (-1 : Int); omega⟩ fun act' w'' φ a' c0 c' e fr hφ hsz hd ht hk hwk hsame m4 m3 hw hO => ?_
          refine hHD 1 act' w'' ⟨(g.n - i - 1) * (g.n + 2) + j + 1, by omega, .inr ⟨rfl, i, j, swp l j, hi1, hi, by omega, act_of hφ hsz hd ht (keepO_of hk) fun v hv => ?_, ?_, mem_swap hm.len hm.fit hadr (by omega) hφ m4 m3 hw hO, hf.trans ⟨hwk, hsame⟩, ?_, rfl⟩⟩
          · simp only [si, VR, hφ] at hv
            rw [hv]
            rfl
          · have := hk (9, si 6) (by simp [keepT])
            simp only [si, VR, hφ] at this
            rw [this, ii6]
            congr 1
            omega
          · rw [← bub_lt hlt]
            exact ho
        · refine win_step (j := j) hc hat hko is4T ha h9 hn hi (by omega) hm ⟨by show (0 : Int) ≤ _; omega, cb.2⟩ fun act' w'' φ a' c0 c' e fr hφ hsz hd ht hk hwk hsame m4 m3 hw hO => ?_
          refine hHD 0 act' w'' ⟨(g.n - (i + 1)) * (g.n + 2), ?_, .inl ⟨rfl, i + 1, l, by omega, act_of hφ hsz hd ht hk fun v hv => ?_, mem_same hm.len hm.fit hadr (by omega) hφ m4 m3 hw hO, hf.trans ⟨hwk, hsame⟩, .inl (by omega), ?_, rfl⟩⟩
          · rw [show g.n - (i + 1) = g.n - i - 1 by omega]
            omega
          · simp only [si, VR, hφ] at hv
            rw [hv, ii5]
            rfl
          · rw [show g.n - (i + 1) = g.n - i - 1 by omega, ← bub_ge hlt]
            exact ho
  letI : Ext := XI fun _ => False
  obtain ⟨a, H, hs, hl⟩ := atHead_of is0T
  refine calls_of_body (c := isbody) Try.func50 body50 ?_
  have h0 : At1 isbody isbody 0 [] := fun t _ _ => rfl
  have hargs : VRs ⟨fun _ => none, irho g 1 0 eff0 eff0 #[]⟩ [.sym 0, i8 0, si 2, cmpV] [g.sl, .int .i64 0, .int .i64 g.n, g.cmp] := by
    simp only [VRs, VR, i8, si, cmpV]
    exact ⟨_, _, rfl, rfl, _, _, rfl, rfl, _, _, rfl, rfl, _, _, rfl, ⟨_, _, rfl, ⟨_, _, rfl, rfl, rfl⟩, rfl, rfl⟩, rfl⟩
  have k0 : RSG ⟨w, fun _ => none⟩ w (· = irho g 1 0 eff0 eff0 #[]) Try.f50.ntmps (listT [.sym 0, i8 0, si 2, cmpV] 0 .lf) ⟨Eis big1 big1 [], .lf, 0⟩ { tmps := (⟨[g.sl, .int .i64 0, .int .i64 g.n, g.cmp]⟩ : Array Value) ++ Array.replicate (Try.f50.ntmps - (⟨[g.sl, .int .i64 0, .int .i64 g.n, g.cmp]⟩ : Array Value).size) undef, defers := [] } w := by
    refine ⟨⟨fun _ => none, irho g 1 0 eff0 eff0 #[]⟩, rfl, TR_args hargs (by rw [nt50']; decide) nt50, HSim.startE ⟨extI eff0_fit eff0_fit w, ivs_plain hn (by omega) (by omega) (big_in i64_0), (fun f hf => by cases hf), fun k cs h => by cases h⟩ (fun r b h => by cases h), .start, ?_, rfl⟩
    simp
  have key := segG_sound (P := Try.prog) (Q := Q) (HD := fun t act w' => ∃ j, j ≤ (g.n + 1) * (g.n + 2) ∧ I j t act w') (Rr := fun _ => True) trivial hrcI nt50 (Nat.le_refl _) h0 trivial hs k0 fun act' w' _ k => ?_
  · exact key
  · obtain ⟨φ, k1, k2, k3, k4, k5, k6⟩ := k
    have hk := keep_val k2 hl
    have hsame : ∀ q, q < w.heap.size → w'.heap[q]? = w.heap[q]? := fun q hq => k3.old.same q hq id
    have hst : I ((g.n - 1) * (g.n + 2)) 0 act' w' := .inl ⟨rfl, 1, l0, Nat.le_refl _, act_of k1 k5 k6 k2 hk fun v hv => (by simp only [i8, VR] at hv; rw [hv]; rfl), h.later hsame, frB_same k4.wk hsame, .inr rfl, by unfold isort; rw [hlen0], rfl⟩
    have hle : (g.n - 1) * (g.n + 2) ≤ (g.n + 1) * (g.n + 2) := Nat.mul_le_mul_right _ (by omega)
    refine ⟨⟨_, hle, hst⟩, fun c' K' hc' => ?_⟩
    exact heads_ok hI ((g.n + 1) * (g.n + 2)) 0 c' K' hc' _ (Nat.le_refl _) act' w' ⟨_, hle, hst⟩
end
end Go.Proofs.Ytgbhmkdldfhamaa.order
namespace Go.Proofs.Ytgbhmkdldfhamaa.order
open Go.Ev Go.RowKit
set_option linter.unusedVariables false
noncomputable section
/-- A list's cells. -/
def cellsOf : List Eff → List VV
  | [] => []
  | x :: l => i8 x.op :: i8 x.a :: i8 x.b :: i8 x.st :: cellsOf l
theorem cellsOf_len : ∀ l : List Eff, (cellsOf l).length = l.length * 4
  | [] => rfl
  | x :: l => by simp [cellsOf, cellsOf_len l]; omega
theorem cellsOf_closed : ∀ l : List Eff, ∀ x ∈ cellsOf l, closedV x = true
  | [], x, h => by cases h
  | y :: l, x, h => by
    simp only [cellsOf, List.mem_cons] at h
    rcases h with rfl | rfl | rfl | rfl | h
    · rfl
    · rfl
    · rfl
    · rfl
    · exact cellsOf_closed l x h
theorem cellsOf_get : ∀ (l : List Eff) (k : Nat), (cellsOf l)[k]? = (l[k / 4]?).map fun x => i8 (x.cell (k % 4))
  | [], k => by simp [cellsOf]
  | x :: l, 0 => rfl
  | x :: l, 1 => rfl
  | x :: l, 2 => rfl
  | x :: l, 3 => rfl
  | x :: l, k + 4 => by
    simp only [cellsOf, List.getElem?_cons_succ]
    rw [cellsOf_get l k, show (k + 4) / 4 = k / 4 + 1 by omega, show (k + 4) % 4 = k % 4 by omega]
    rfl
theorem bub_len : ∀ (j : Nat) (l : List Eff), (bub j l).length = l.length
  | 0, l => rfl
  | j + 1, l => by
    by_cases h : cmpE (l.getD (j + 1) eff0) (l.getD j eff0) < 0
    · rw [bub_lt h, bub_len j, swp_len]
    · rw [bub_ge h]
theorem outer_len : ∀ (m i : Nat) (l : List Eff), (outer m i l).length = l.length
  | 0, i, l => rfl
  | m + 1, i, l => by
    show (outer m (i + 1) (bub i l)).length = _
    rw [outer_len m, bub_len]
theorem isort_len (l : List Eff) : (isort l).length = l.length := outer_len _ _ _
/-- The call, as it is known: a list 0 becomes the list 1. -/
def cmpL : VV := .func (.func 31) [.lsl 0 2 0] []
def sortK : KE2 := ⟨50, [.lsl 0 2 0, i8 0, si 2, cmpL], 1, [(0, .list 0 2 4 [] none)], .tuple [], [(0, .list 1 2 4 [] none)], 1⟩
structure SortRho (ρ : Rho) (l : List Eff) : Prop where
  n : ρ.int 2 = (l.length : Int)
  le : (l.length : Int) ≤ 1000000
  fit : ∀ e ∈ l, e.Fit
  l0 : ρ.lst 0 = cellsOf l
  l1 : ρ.lst 1 = cellsOf (isort l)
theorem sort_ke2 {ρ : Rho} {l : List Eff} (h : SortRho ρ l) (w0 : World) : KE2ok Try.prog ρ w0 sortK := by
  intro φ vs w hφ hsz hold hv hpre hown hinj hfr
  obtain ⟨inf, o', hφ0, hw, ⟨_, _, c', e, fr, rfl, hcr⟩⟩ := hpre (0, .list 0 2 4 [] none) (List.mem_singleton.2 rfl)
  have hn : φ.ρ.int 2 = (l.length : Int) := by rw [hφ]; exact h.n
  have hnn : (φ.ρ.int 2).toNat = l.length := by rw [hn]; simp
  have hl0 : φ.ρ.lst 0 ++ [] = cellsOf l := by rw [hφ, h.l0, List.append_nil]
  have hφ0' : φ 0 = some inf := hφ0
  let g : Srt := ⟨l.length, some ⟨inf.blk, inf.off, none⟩, l.length + inf.slack, inf.blk, inf.off, inf.off + l.length * 4 + inf.slack * 4, .slice (some ⟨inf.blk, inf.off, none⟩) l.length (l.length + inf.slack), rfl⟩
  have hvs : vs = [g.sl, .int .i64 0, .int .i64 g.n, g.cmp] := by
    simp only [sortK, VRs, VR, i8, si, cmpL] at hv
    obtain ⟨_, _, rfl, ⟨inf', h1, rfl⟩, _, _, rfl, rfl, _, _, rfl, rfl, _, _, rfl, ⟨_, _, _, ⟨_, _, rfl, ⟨inf2, h2, rfl⟩, rfl⟩, rfl, rfl⟩, rfl⟩ := hv
    have h1' : φ 0 = some inf' := h1
    rw [hφ0'] at h1'
    cases h1'
    have h2' : φ 0 = some inf2 := h2
    rw [hφ0'] at h2'
    cases h2'
    rw [hnn, hn]
    rfl
  rw [hl0] at hcr
  have hs := hcr.size
  rw [cellsOf_len] at hs
  have hm : g.Mem l w := by
    refine ⟨rfl, h.fit, fun _ => rfl, fun _ => ⟨c', e, fr, hw, hcr.low, ⟨by show inf.off + l.length * 4 ≤ inf.off + l.length * 4 + inf.slack * 4; omega, hs⟩, fun i x hx q hq => ?_⟩⟩
    obtain ⟨y, y1, y2⟩ := hcr.cell (i * 4 + q) (i8 (x.cell q)) (by rw [cellsOf_get, show (i * 4 + q) / 4 = i by omega, show (i * 4 + q) % 4 = q by omega, hx]; rfl)
    rw [show g.O + i * 4 + q = inf.off + (i * 4 + q) by show inf.off + i * 4 + q = _; omega, y1]
    simp only [i8, VR] at y2
    rw [y2]
  subst hvs
  refine (isort_calls hm h.le).mono ?_
  rintro en w' ⟨rfl, hm', hf⟩
  obtain ⟨c2, e2, fr2, q1, q2, q3, q4⟩ := hm'.mem (.inr (by simp [g]))
  refine ⟨_, φ, rfl, by simp only [sortK, VR, VRs]; exact ⟨_, rfl, rfl⟩, ⟨φ.le_refl, hf.wk, fun k hk hne => ?_, fun i jnf hi => .inl hi, ?_, ?_, ?_⟩⟩
  · exact hf.same k hk fun e => hne (0, .list 0 2 4 [] none) (List.mem_singleton.2 rfl) inf hφ0 e.symm
  · intro p hp
    simp only [sortK, List.mem_singleton] at hp
    subst hp
    refine ⟨inf, _, hφ0, q1, by rw [hn]; omega, ?_, c2, e2, fr2, rfl, ?_⟩
    · rw [hnn, hφ, h.l1, cellsOf_len, isort_len]
    · have e1 : φ.ρ.lst 1 ++ [] = cellsOf (isort l) := by rw [hφ, h.l1, List.append_nil]
      rw [e1]
      refine ⟨?_, (fun h => by cases h), fun k x hx => ?_, by show fr2.2 ≤ inf.off + 0; exact q2, fun t ht => by cases ht⟩
      · rw [cellsOf_len, isort_len]
        exact q3.2
      · rw [cellsOf_get] at hx
        cases hk : (isort l)[k / 4]? with
        | none => rw [hk] at hx; cases hx
        | some z =>
          rw [hk] at hx
          simp only [Option.map_some, Option.some.injEq] at hx
          subst hx
          refine ⟨_, ?_, by simp only [i8, VR]; rfl⟩
          rw [show inf.off + k = g.O + k / 4 * 4 + k % 4 by show inf.off + k = inf.off + k / 4 * 4 + k % 4; omega]
          exact q4 _ z hk (k % 4) (by omega)
  · intro p hp jnf hj
    simp only [sortK, List.mem_singleton] at hp
    subst hp
    exact ⟨(0, .list 0 2 4 [] none), List.mem_singleton.2 rfl, inf, hφ0, by rw [hφ0] at hj; cases hj; rfl⟩
  · intro p hp q hq _ _ _ _ _
    simp only [sortK, List.mem_singleton] at hp hq
    rw [hp, hq]
end
end Go.Proofs.Ytgbhmkdldfhamaa.order
