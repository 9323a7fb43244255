/-
  'CodeInside': of any code (its first forty instructions) that may be, wherever one goes on from any place, as often as one likes, one stays inside, or stands just behind the end. The condition: the listed tables hold what the row lists (the chapter's rows, that each statement asks, look into them); the card ties that to the program's text.
-/
import Derived.Test.YtgmdbpmookoafaaDoorInTrees
import Derived.Test.YtgmdbpmookoafaaDoorMore
namespace Go.Proofs.YtgmdbpmookoafaaDoor.inside
open Go.ChangeShapes Go.WideShapes Go.ChangeAt Go.RowKit Go.Proofs.YtgmdbpmookoafaaDoor.more
set_option linter.unusedVariables false
def args5 : List Go.Ev.VV := [.sym 0, .sint .i64 0, .sym 2]
def fcut (hi : Go.Ev.VV) : List Go.Ev.Fact := [.len false (.sym 0) (.sint .i64 1), .cut 3 (.sym 0) none (some hi) (.sym 1), .len false (.sym 1) (.sint .i64 2), .len false (.sym 2) (.sint .i64 3)]
def base (z m0 m1 n1 a1 : Int) (z1 : Int) : Go.Ev.Ivs := [(z, z1), (0, n1), (m0, m1), (0, 9223372036854775807), (0, a1), (2, 2), (40, 40), (0, 0), (0, 0), (0, 0)]
def ivP : Go.Ev.Ivs := [(0, 9223372036854775807), (0, 40), (1, 32), (0, 9223372036854775807), (0, 31), (2, 2), (40, 40), (0, 0), (0, 0), (0, 0)]
def ivM : Go.Ev.Ivs := [(-9223372036854775808, -1), (0, 40), (1, 32), (0, 9223372036854775807), (0, 31), (2, 2), (40, 40), (0, 0), (0, 0), (0, 0)]
def ivZ : Go.Ev.Ivs := [(-9223372036854775808, 9223372036854775807), (0, 0), (0, 0), (0, 9223372036854775807), (0, 0), (2, 2), (40, 40), (0, 0), (0, 0), (0, 0)]
def tl : Go.Ev.Ivs := [(-9223372036854775808, 9223372036854775807), (-9223372036854775808, 9223372036854775807), (-9223372036854775808, 9223372036854775807), (0, 32)]
def iv1A : Go.Ev.Ivs := [(-9223372036854775808, 9223372036854775807), (0, 40), (0, 40), (0, 9223372036854775807), (0, 40), (2, 2), (40, 40), (1, 1000), (0, 0), (0, 0)]
def iv1B : Go.Ev.Ivs := [(-9223372036854775808, 9223372036854775807), (41, 9223372036854775807), (0, 40), (0, 9223372036854775807), (0, 40), (2, 2), (40, 40), (1, 1000), (0, 0), (0, 0)]
def EF (iv : Go.Ev.Ivs) (fs : List Go.Ev.Fact) : Go.Ev.Env := ⟨fun _ => none, Go.Ev.ivAt iv, fs, fun _ => none⟩
def remP : List Go.Ev.Fact := [.bin .rem (.sint .i64 0) (.sint .i64 2) (.sint .i64 4)]
def remM : List Go.Ev.Fact := [.bin .rem (.int .i64 0) (.sint .i64 2) (.sint .i64 4)]
def endF : List Go.Ev.Fact := [.bin .lss (.sint .i64 13) (.sint .i64 2) (.bool false)]
noncomputable def KT1 : List Go.Ev.KE := [⟨11, [], [], .bool true⟩, ⟨9, [.sym 1, .int .i64 2, .int .i64 40], [], .sint .i64 7⟩]
noncomputable def nt : Nat := Tryd.f5.ntmps
noncomputable def head2 : Go.Ev.VT := Go.Ev.putSp ((10, .sint .i64 13) :: side2.sp) side2.a0
/-- From the call to the second loop's head. -/
structure Way (E0 EE1 : Go.Ev.Env) (at0 : Go.Ev.VV) : Prop where
  way : ∃ b1 K1 b2 K2 a3 H3 c1 L1 c2 L2, Go.Ev.spineE rcI nt 4 bI (Go.Ev.listT args5 0 .lf) ⟨E0, .lf, 0⟩ = some (b1, K1) ∧ Go.Ev.spineE rcI nt 1 (Go.Ev.seqL (Go.Ev.dropSeq 4 bI)) b1 K1 = some (b2, K2) ∧ Go.Ev.swB 10 side1.nH b2 K2 side1.a0 side1.l = true ∧ Go.Ev.tget b2 7 = .int .i64 0 ∧
    rcI nt side1.LB (Go.Ev.putSp side1.sp side1.a0) ⟨EE1, side1.l, side1.nH⟩ = some (.exit 0, a3, H3) ∧ Go.Ev.spineE rcI nt 2 (Go.Ev.dropSeq 5 bI) a3 H3 = some (c1, L1) ∧ Go.Ev.spineE rcI nt 1 (Go.Ev.seqL (Go.Ev.dropSeq 2 (Go.Ev.dropSeq 5 bI))) c1 L1 = some (c2, L2) ∧
    Go.Ev.swB 10 side2.nH c2 L2 side2.a0 side2.l = true ∧ Go.Ev.tget c2 10 = at0 ∧ Go.Ev.tget c2 11 = .int .i64 0
noncomputable def wayB (E0 EE1 : Go.Ev.Env) (at0 : Go.Ev.VV) : Bool := match Go.Ev.spineE rcI nt 4 bI (Go.Ev.listT args5 0 .lf) ⟨E0, .lf, 0⟩ with
  | some (b1, K1) => match Go.Ev.spineE rcI nt 1 (Go.Ev.seqL (Go.Ev.dropSeq 4 bI)) b1 K1 with
    | some (b2, K2) => match Go.Ev.swB 10 side1.nH b2 K2 side1.a0 side1.l, Go.Ev.vvEq (Go.Ev.tget b2 7) (.int .i64 0) with
      | true, true => match rcI nt side1.LB (Go.Ev.putSp side1.sp side1.a0) ⟨EE1, side1.l, side1.nH⟩ with
        | some (.exit j, a3, H3) => match Nat.beq j 0, Go.Ev.spineE rcI nt 2 (Go.Ev.dropSeq 5 bI) a3 H3 with
          | true, some (c1, L1) => match Go.Ev.spineE rcI nt 1 (Go.Ev.seqL (Go.Ev.dropSeq 2 (Go.Ev.dropSeq 5 bI))) c1 L1 with
            | some (c2, L2) => match Go.Ev.swB 10 side2.nH c2 L2 side2.a0 side2.l, Go.Ev.vvEq (Go.Ev.tget c2 10) at0 with
              | true, true => Go.Ev.vvEq (Go.Ev.tget c2 11) (.int .i64 0)
              | _, _ => false
            | none => false
          | _, _ => false
        | _ => false
      | _, _ => false
    | none => false
  | none => false
theorem wayB_ok {E0 EE1 : Go.Ev.Env} {at0 : Go.Ev.VV} (h : wayB E0 EE1 at0 = true) : Way E0 EE1 at0 := by
  unfold wayB at h
  split at h
  · rename_i b1 K1 e1
    split at h
    · rename_i b2 K2 e2
      split at h
      · rename_i e3 e4
        split at h
        · rename_i j a3 H3 e5
          split at h
          · rename_i c1 L1 e6 e7
            split at h
            · rename_i c2 L2 e8
              split at h
              · rename_i e9 e10
                have hj := Nat.eq_of_beq_eq_true e6
                subst hj
                exact ⟨b1, K1, b2, K2, a3, H3, c1, L1, c2, L2, e1, e2, e3, Go.Ev.vvEq_eq _ _ e4, e5, e7, e8, e9, Go.Ev.vvEq_eq _ _ e10, Go.Ev.vvEq_eq _ _ h⟩
              · cases h
            · cases h
          · cases h
        · cases h
      · cases h
    · cases h
  · cases h
theorem wayP : wayB (EF ivP (fcut (.sint .i64 1) ++ remP)) (EF (ivP ++ tl) (fcut (.sint .i64 1) ++ remP ++ endF)) (.sint .i64 4) = true := by kernel_rfl
theorem wayM : wayB (EF ivM (fcut (.sint .i64 1) ++ remM)) (EF (ivM ++ tl) (fcut (.sint .i64 1) ++ remM ++ endF)) (.sint .i64 4) = true := by kernel_rfl
theorem wayZ : wayB (EF ivZ (fcut (.sint .i64 1))) (EF (ivZ ++ tl) (fcut (.sint .i64 1) ++ endF)) (.int .i64 0) = true := by kernel_rfl
theorem ranA : Go.Ev.trueB Tryd.prog KT1 20000 5 args5 (EF iv1A (fcut (.sint .i64 1))) = true := by kernel_rfl
theorem ranB : Go.Ev.trueB Tryd.prog KT1 20000 5 args5 (EF iv1B (fcut (.int .i64 40))) = true := by kernel_rfl
/-! the second loop: at the code's end, and behind its last round -/
def ivEz : Go.Ev.Ivs := [(-9223372036854775808, 9223372036854775807), (0, 40), (0, 32), (0, 9223372036854775807), (0, 31), (2, 2), (40, 40), (0, 0), (0, 0), (0, 0), (-9223372036854775808, 9223372036854775807), (-9223372036854775808, 9223372036854775807), (-9223372036854775808, 9223372036854775807), (0, 32), (1, 33), (0, 199), (1, 200)]
def ivEa : Go.Ev.Ivs := [(-9223372036854775808, 9223372036854775807), (0, 40), (0, 32), (0, 9223372036854775807), (0, 31), (2, 2), (40, 40), (0, 0), (0, 0), (0, 0), (-9223372036854775808, 9223372036854775807), (-9223372036854775808, 9223372036854775807), (-9223372036854775808, 9223372036854775807), (0, 32), (1, 33), (0, 200), (1, 201)]
def ivEb : Go.Ev.Ivs := [(-9223372036854775808, 9223372036854775807), (0, 40), (0, 32), (0, 9223372036854775807), (0, 31), (2, 2), (40, 40), (0, 0), (0, 0), (0, 0), (-9223372036854775808, 9223372036854775807), (-9223372036854775808, 9223372036854775807), (-9223372036854775808, 9223372036854775807), (0, 32), (1, 33), (200, 200), (1, 201)]
def lens : List Go.Ev.Fact := [.len false (.sym 1) (.sint .i64 2), .len false (.sym 2) (.sint .i64 3)]
def Ez : Go.Ev.Env := EF ivEz (lens ++ [.bin .lss (.sint .i64 15) (.sint .i64 3) (.bool true), .bin .lss (.sint .i64 13) (.sint .i64 2) (.bool false), .bin .lss (.sint .i64 2) (.sint .i64 13) (.bool false)])
def EEa : Go.Ev.Env := EF ivEa (lens ++ [.bin .lss (.sint .i64 15) (.sint .i64 3) (.bool false), .bin .lss (.sint .i64 2) (.sint .i64 13) (.bool false)])
def EEb : Go.Ev.Env := EF ivEb (lens ++ [.bin .lss (.sint .i64 15) (.sint .i64 3) (.bool true), .bin .lss (.sint .i64 2) (.sint .i64 13) (.bool false)])
noncomputable def retB (E : Go.Ev.Env) : Bool := match rcI nt side2.LB head2 ⟨E, side2.l, side2.nH⟩ with
  | some (.ret, a, H) => match Go.Ev.resL Tryd.prog a H Tryd.f5.results.toList with
    | some [r] => Go.Ev.vvEq r (.bool true)
    | _ => false
  | _ => false
theorem retB_ok {E : Go.Ev.Env} (h : retB E = true) : ∃ a H, rcI nt side2.LB head2 ⟨E, side2.l, side2.nH⟩ = some (.ret, a, H) ∧ Go.Ev.resL Tryd.prog a H Tryd.f5.results.toList = some [.bool true] := by
  unfold retB at h
  split at h
  · rename_i a H e
    split at h
    · rename_i r hr
      rw [Go.Ev.vvEq_eq _ _ h] at hr
      exact ⟨a, H, e, hr⟩
    · cases h
  · cases h
noncomputable def finB (E : Go.Ev.Env) : Bool := match rcI nt side2.LB head2 ⟨E, side2.l, side2.nH⟩ with
  | some (.exit j, a, H) => match Nat.beq j 4, rcI nt (Go.Ev.dropSeq 3 (Go.Ev.dropSeq 5 bI)) a H with
    | true, some (.ret, a', H') => match Go.Ev.resL Tryd.prog a' H' Tryd.f5.results.toList with
      | some [r] => Go.Ev.vvEq r (.bool true)
      | _ => false
    | _, _ => false
  | _ => false
theorem finB_ok {E : Go.Ev.Env} (h : finB E = true) : ∃ a H a' H', rcI nt side2.LB head2 ⟨E, side2.l, side2.nH⟩ = some (.exit 4, a, H) ∧ rcI nt (Go.Ev.dropSeq 3 (Go.Ev.dropSeq 5 bI)) a H = some (.ret, a', H') ∧ Go.Ev.resL Tryd.prog a' H' Tryd.f5.results.toList = some [.bool true] := by
  unfold finB at h
  split at h
  · rename_i j a H e
    split at h
    · rename_i a' H' hj e'
      split at h
      · rename_i r hr
        rw [Go.Ev.vvEq_eq _ _ h] at hr
        have hj := Nat.eq_of_beq_eq_true hj
        subst hj
        exact ⟨a, H, a', H', e, e', hr⟩
      · cases h
    · cases h
  · cases h
theorem ranz : retB Ez = true := by kernel_rfl
theorem rana : finB EEa = true := by kernel_rfl
theorem ranb : finB EEb = true := by kernel_rfl
/-! ### what the symbols stand for -/
structure LstB (w : World) (ob : Option Addr) (B O : Nat) (bs : List Bool) : Prop where
  cells : ∀ (j : Nat) (b : Bool), bs[j]? = some b → ob = some ⟨B, O, none⟩ ∧ B < w.heap.size ∧ w.cell? ⟨B, O + j, none⟩ = some (.bool b)
/-- The numbers of one call. -/
structure Cl where
  oa : Option Addr
  cap : Nat
  B : Nat
  O : Nat
  ob : Option Addr
  capb : Nat
  B' : Nat
  O' : Nat
  fr : Int
  n : Nat
  at0 : Nat
  s : Int
  xs : List Ins
  bs : List Bool
def Cl.v (c : Cl) (p j : Nat) : Nat → Int
  | 0 => c.fr
  | 1 => c.n
  | 2 => c.xs.length
  | 3 => c.bs.length
  | 4 => c.at0
  | 5 => 2
  | 6 => 40
  | 7 => c.s
  | 10 => (c.xs.getD p (0, 0, 0)).1
  | 11 => (c.xs.getD p (0, 0, 0)).2.1
  | 12 => (c.xs.getD p (0, 0, 0)).2.2
  | 13 => p
  | 14 => (p : Int) + 1
  | 15 => j
  | 16 => (j : Int) + 1
  | _ => 0
def Cl.val (c : Cl) : Nat → Value
  | 0 => .slice c.oa c.n c.cap
  | 2 => .slice c.ob c.bs.length c.capb
  | _ => .slice c.oa c.xs.length c.cap
theorem Cl.one (c : Cl) (j : Nat) : (c.val j).oneCell' = true := by
  unfold Cl.val
  split <;> rfl
theorem Cl.nb (c : Cl) (j : Nat) (b : Bool) : c.val j ≠ .bool b := by
  unfold Cl.val
  split <;> (intro h; cases h)
def Cl.rho (c : Cl) (p j : Nat) : Go.Ev.Rho :=
  ⟨c.v p j, c.val, fun k => if k = 11 then c.B' else c.B, fun k => if k = 10 then c.O + p * 3 else if k = 11 then c.O' + j else 0, c.one, c.nb⟩
theorem Cl.agree (c : Cl) (p j p' j' : Nat) : Go.Ev.agree 10 (c.rho p j) (c.rho p' j') := fun k hk => ⟨by match k, hk with | 0, _ => rfl | 1, _ => rfl | 2, _ => rfl | 3, _ => rfl | 4, _ => rfl | 5, _ => rfl | 6, _ => rfl | 7, _ => rfl | 8, _ => rfl | 9, _ => rfl, rfl, rfl, by
  show (if k = 10 then _ else if k = 11 then _ else 0) = (if k = 10 then _ else if k = 11 then _ else 0)
  rw [if_neg (by omega), if_neg (by omega), if_neg (by omega), if_neg (by omega)]⟩
/-- What is known of a call of a code that may be. -/
structure Cl.Ok (c : Cl) (w : World) : Prop where
  lst : Lst w c.oa c.B c.O c.xs
  lstb : LstB w c.ob c.B' c.O' c.bs
  hfr : I64 c.fr
  hn : c.n = c.xs.length
  h32 : c.xs.length ≤ 32
  hL : (c.bs.length : Int) ≤ 9223372036854775807
  hcap : c.n ≤ c.cap
  hs : c.s = 0
  hat : c.at0 ≤ 31
  hat' : c.xs.length = 0 → c.at0 = 0
  hat1 : c.at0 ≤ c.xs.length
  good : ∀ i, i < c.xs.length → good 2 40 c.xs i = true
section
variable {c : Cl} {w : World}
theorem fit64 (h : c.Ok w) (p : Nat) : I64 (c.xs.getD p (0, 0, 0)).1 ∧ I64 (c.xs.getD p (0, 0, 0)).2.1 ∧ I64 (c.xs.getD p (0, 0, 0)).2.2 := h.lst.fit p
/-- The first ten symbols, then others. -/
theorem ivs_ok (h : c.Ok w) {z0 z1 n1 m0 m1 a1 : Int} {l : Go.Ev.Ivs} {p j : Nat} (hz0 : z0 ≤ c.fr) (hz1 : c.fr ≤ z1) (hn1 : (c.n : Int) ≤ n1) (hm0 : m0 ≤ c.xs.length) (hm1 : (c.xs.length : Int) ≤ m1) (ha : (c.at0 : Int) ≤ a1)
    (hl : ∀ k, (Go.Ev.ivAt l k).1 ≤ c.v p j (k + 10) ∧ c.v p j (k + 10) ≤ (Go.Ev.ivAt l k).2) : Go.Ev.IvOK ((z0, z1) :: (0, n1) :: (m0, m1) :: (0, 9223372036854775807) :: (0, a1) :: (2, 2) :: (40, 40) :: (0, 0) :: (0, 0) :: (0, 0) :: l) (c.rho p j) :=
  Go.Ev.ivs_cons ⟨hz0, hz1⟩ (Go.Ev.ivs_cons ⟨by show (0 : Int) ≤ (c.n : Int); omega, hn1⟩ (Go.Ev.ivs_cons ⟨hm0, hm1⟩ (Go.Ev.ivs_cons ⟨by show (0 : Int) ≤ (c.bs.length : Int); omega, h.hL⟩ (Go.Ev.ivs_cons ⟨by show (0 : Int) ≤ (c.at0 : Int); omega, ha⟩
    (Go.Ev.ivs_cons ⟨Int.le_refl _, Int.le_refl _⟩ (Go.Ev.ivs_cons ⟨Int.le_refl _, Int.le_refl _⟩ (Go.Ev.ivs_cons ⟨by show 0 ≤ c.s; rw [h.hs]; omega, by show c.s ≤ 0; rw [h.hs]; omega⟩ (Go.Ev.ivs_cons ⟨Int.le_refl _, Int.le_refl _⟩ (Go.Ev.ivs_cons ⟨Int.le_refl _, Int.le_refl _⟩ hl)))))))))
theorem tail64 (h : c.Ok w) {p j : Nat} (hp : p ≤ 40) (hj : j ≤ 1000) : ∀ k, (Go.Ev.ivAt [] k).1 ≤ c.v p j (k + 10) ∧ c.v p j (k + 10) ≤ (Go.Ev.ivAt [] k).2 := by
  refine Go.Ev.ivs_nil fun k => ?_
  match k with
  | 0 => exact (fit64 h p).1
  | 1 => exact (fit64 h p).2.1
  | 2 => exact (fit64 h p).2.2
  | 3 => exact ⟨by show _ ≤ (p : Int); omega, by show (p : Int) ≤ _; omega⟩
  | 4 => exact ⟨by show _ ≤ (p : Int) + 1; omega, by show (p : Int) + 1 ≤ _; omega⟩
  | 5 => exact ⟨by show _ ≤ (j : Int); omega, by show (j : Int) ≤ _; omega⟩
  | 6 => exact ⟨by show _ ≤ (j : Int) + 1; omega, by show (j : Int) + 1 ≤ _; omega⟩
  | k + 7 => exact ⟨by show _ ≤ (0 : Int); decide, by show (0 : Int) ≤ _; decide⟩
/-- Ten to fourteen, then others. -/
theorem more64 (h : c.Ok w) {p0 p1 q0 q1 : Int} {p j : Nat} {l : Go.Ev.Ivs} (h0 : p0 ≤ p) (h1 : (p : Int) ≤ p1) (g0 : q0 ≤ (p : Int) + 1) (g1 : (p : Int) + 1 ≤ q1) (hl : ∀ k, (Go.Ev.ivAt l k).1 ≤ c.v p j (k + 15) ∧ c.v p j (k + 15) ≤ (Go.Ev.ivAt l k).2) :
    ∀ k, (Go.Ev.ivAt ((-9223372036854775808, 9223372036854775807) :: (-9223372036854775808, 9223372036854775807) :: (-9223372036854775808, 9223372036854775807) :: (p0, p1) :: (q0, q1) :: l) k).1 ≤ c.v p j (k + 10) ∧ c.v p j (k + 10) ≤ (Go.Ev.ivAt ((-9223372036854775808, 9223372036854775807) :: (-9223372036854775808, 9223372036854775807) :: (-9223372036854775808, 9223372036854775807) :: (p0, p1) :: (q0, q1) :: l) k).2 :=
  Go.Ev.ivs_cons (f := fun k => c.v p j (k + 10)) (fit64 h p).1 (Go.Ev.ivs_cons (f := fun k => c.v p j (k + 11)) (fit64 h p).2.1 (Go.Ev.ivs_cons (f := fun k => c.v p j (k + 12)) (fit64 h p).2.2 (Go.Ev.ivs_cons (f := fun k => c.v p j (k + 13)) ⟨h0, h1⟩ (Go.Ev.ivs_cons (f := fun k => c.v p j (k + 14)) ⟨g0, g1⟩ hl))))
theorem tail15 {p j : Nat} (hj : j ≤ 1000) : ∀ k, (Go.Ev.ivAt [] k).1 ≤ c.v p j (k + 15) ∧ c.v p j (k + 15) ≤ (Go.Ev.ivAt [] k).2 := by
  refine Go.Ev.ivs_nil fun k => ?_
  match k with
  | 0 => exact ⟨by show _ ≤ (j : Int); omega, by show (j : Int) ≤ _; omega⟩
  | 1 => exact ⟨by show _ ≤ (j : Int) + 1; omega, by show (j : Int) + 1 ≤ _; omega⟩
  | k + 2 => exact ⟨by show _ ≤ (0 : Int); decide, by show (0 : Int) ≤ _; decide⟩
theorem pair15 {p j : Nat} {p0 p1 q0 q1 : Int} (h0 : p0 ≤ j) (h1 : (j : Int) ≤ p1) (g0 : q0 ≤ (j : Int) + 1) (g1 : (j : Int) + 1 ≤ q1) : ∀ k, (Go.Ev.ivAt [(p0, p1), (q0, q1)] k).1 ≤ c.v p j (k + 15) ∧ c.v p j (k + 15) ≤ (Go.Ev.ivAt [(p0, p1), (q0, q1)] k).2 :=
  Go.Ev.ivs_cons (f := fun k => c.v p j (k + 15)) ⟨h0, h1⟩ (Go.Ev.ivs_cons (f := fun k => c.v p j (k + 16)) ⟨g0, g1⟩ (Go.Ev.ivs_nil fun k => ⟨by show _ ≤ (0 : Int); decide, by show (0 : Int) ≤ _; decide⟩))
theorem iv1_ok' (h : c.Ok w) {i : Nat} (hi : i < c.xs.length) : Go.Ev.IvOK ivI1 (c.rho i 0) :=
  ivs_ok h h.hfr.1 h.hfr.2 (by have := h.hn; have := h.h32; omega) (by omega) (by have := h.h32; omega) (by have := h.hat; omega) (more64 h (by omega) (by have := h.h32; omega) (by omega) (by have := h.h32; omega) (tail15 (by omega)))
theorem iv2_ok' (h : c.Ok w) {p j : Nat} (hp : p < c.xs.length) (hj : j < 200) : Go.Ev.IvOK ivI2 (c.rho p j) :=
  ivs_ok h h.hfr.1 h.hfr.2 (by have := h.hn; have := h.h32; omega) (by omega) (by have := h.h32; omega) (by have := h.hat; omega) (more64 h (by omega) (by have := h.h32; omega) (by omega) (by have := h.h32; omega) (pair15 (by omega) (by omega) (by omega) (by omega)))
noncomputable def leafA (c : Cl) (i : Nat) : Go.Ev.Ivs × List Go.Ev.Fact := Go.Ev.leafOf T1 (c.v i 0) ivI1 []
noncomputable def leafB (c : Cl) (b : Bool) (p j : Nat) : Go.Ev.Ivs × List Go.Ev.Fact := Go.Ev.leafOf (T2 b) (c.v p j) ivI2 []
theorem nilFs {ρ : Go.Ev.Rho} : Go.Ev.FsOK [] ρ := fun f hf => by cases hf
/-- An instruction that may be is so at its leaf. -/
theorem may (h : c.Ok w) {p j : Nat} (hp : p < c.xs.length) {iv : Go.Ev.Ivs} {fs : List Go.Ev.Fact} (h1 : Go.Ev.IvOK iv (c.rho p j)) (h2 : Go.Ev.FsOK fs (c.rho p j)) : Go.Ev.contra (rsOf fs) = false ∧ Go.Ev.boxB (AT.ren fA) iv (rsOf fs) ≠ some false := by
  have hv : Go.Ev.VOK iv (rsOf fs) (c.v p j) := ⟨h1, rsOf_ok h2⟩
  refine ⟨?_, fun hb => ?_⟩
  · cases hc : Go.Ev.contra (rsOf fs) with
    | false => rfl
    | true => exact (Go.Ev.contra_ok hv hc).elim
  · have e := Go.Ev.boxB_ok hv hb
    rw [Go.Ev.valB_ren] at e
    have g := h.good p hp
    unfold Go.Proofs.YtgmdbpmookoafaaDoor.more.good at g
    rw [Go.Ev.valB_congr (m := 6) (v' := fun i => c.v p j (fA i)) (fun k hk => ?_) (by kernel_rfl)] at g
    · rw [g] at e; cases e
    · match k, hk with
      | 0, _ => rfl
      | 1, _ => rfl
      | 2, _ => rfl
      | 3, _ => rfl
      | 4, _ => rfl
      | 5, _ => rfl
theorem lcI1_of {iv : Go.Ev.Ivs} {fs : List Go.Ev.Fact} (h1 : Go.Ev.contra (rsOf fs) = false) (h2 : Go.Ev.boxB (AT.ren fA) iv (rsOf fs) ≠ some false) (h : lcI1 iv fs = true) : side1.out Tryd.prog rcI 10 (EI1 iv fs) = some true := by
  unfold lcI1 at h
  rw [h1] at h
  cases hb : Go.Ev.boxB (AT.ren fA) iv (rsOf fs) with
  | none => rw [hb] at h; exact Go.Ev.optB_eq h
  | some x => cases x with
    | false => exact absurd hb h2
    | true => rw [hb] at h; exact Go.Ev.optB_eq h
theorem q_of {o : Option Nat} {iv : Go.Ev.Ivs} {rs : List (Nat × Nat × Bool)} (h : codeB o iv rs = true) : ∃ q, o = some q ∧ (q = 0 ∨ q = 15 ∨ (q = 12 ∧ jumpB iv rs = true)) := by
  unfold codeB at h
  cases o with
  | none => cases h
  | some q =>
    refine ⟨q, rfl, ?_⟩
    simp only at h
    cases h0 : Nat.beq q 0 with
    | true => exact .inl (Nat.eq_of_beq_eq_true h0)
    | false => cases h1 : Nat.beq q 15 with
      | true => exact .inr (.inl (Nat.eq_of_beq_eq_true h1))
      | false => cases h2 : Nat.beq q 12 with
        | true => rw [h0, h1, h2] at h; exact .inr (.inr ⟨Nat.eq_of_beq_eq_true h2, h⟩)
        | false => rw [h0, h1, h2] at h; cases h
theorem lcI2_of {b : Bool} {iv : Go.Ev.Ivs} {fs : List Go.Ev.Fact} (h1 : Go.Ev.contra (rsOf fs) = false) (h2 : Go.Ev.boxB (AT.ren fA) iv (rsOf fs) ≠ some false) (h : lcI2 b iv fs = true) : ∃ q, side2.outN Tryd.prog rcI 10 (10, .i64, 13) (EI2 b iv fs) = some q ∧ (q = 0 ∨ q = 15 ∨ (q = 12 ∧ jumpB iv (rsOf fs) = true)) := by
  unfold lcI2 at h
  rw [h1] at h
  cases hb : Go.Ev.boxB (AT.ren fA) iv (rsOf fs) with
  | none => rw [hb] at h; exact q_of h
  | some x => cases x with
    | false => exact absurd hb h2
    | true => rw [hb] at h; exact q_of h
theorem outA (h : c.Ok w) {i : Nat} (hi : i < c.xs.length) : side1.out Tryd.prog rcI 10 (EI1 (leafA c i).1 (leafA c i).2) = some true ∧ Go.Ev.IvOK (leafA c i).1 (c.rho i 0) ∧ Go.Ev.FsOK (leafA c i).2 (c.rho i 0) := by
  obtain ⟨q1, q2, q3⟩ := Go.Ev.leafOf_ok (ρ := c.rho i 0) (v := c.v i 0) rfl all1 (iv1_ok' h hi) nilFs
  obtain ⟨g1, g2⟩ := may h hi q2 q3
  exact ⟨lcI1_of g1 g2 q1, q2, q3⟩
theorem outB2 (h : c.Ok w) {b : Bool} {p j : Nat} (hp : p < c.xs.length) (hj : j < 200) : Go.Ev.IvOK (leafB c b p j).1 (c.rho p j) ∧ Go.Ev.FsOK (leafB c b p j).2 (c.rho p j) ∧ ∃ q, side2.outN Tryd.prog rcI 10 (10, .i64, 13) (EI2 b (leafB c b p j).1 (leafB c b p j).2) = some q ∧ (q = 0 ∨ q = 15 ∨ (q = 12 ∧ 0 ≤ (c.xs.getD p (0, 0, 0)).2.1 ∧ (c.xs.getD p (0, 0, 0)).2.1 ≤ c.xs.length)) := by
  obtain ⟨q1, q2, q3⟩ := Go.Ev.leafOf_ok (ρ := c.rho p j) (v := c.v p j) rfl (all2 b) (iv2_ok' h hp hj) nilFs
  refine ⟨q2, q3, ?_⟩
  obtain ⟨g1, g2⟩ := may h hp q2 q3
  obtain ⟨q, hq, hc⟩ := lcI2_of g1 g2 q1
  refine ⟨q, hq, ?_⟩
  rcases hc with rfl | rfl | ⟨rfl, hj⟩
  · exact .inl rfl
  · exact .inr (.inl rfl)
  · refine .inr (.inr ⟨rfl, ?_⟩)
    have i11 := q2 11
    have i2 := q2 2
    have e11 : (c.rho p j).int 11 = (c.xs.getD p (0, 0, 0)).2.1 := rfl
    have e2 : (c.rho p j).int 2 = (c.xs.length : Int) := rfl
    rw [e11] at i11
    rw [e2] at i2
    unfold jumpB at hj
    split at hj
    · rename_i hd hr
      have hd := of_decide_eq_true hd
      have := of_decide_eq_false (rsOf_ok q3 _ (Go.Ev.relAt_mem hr))
      simp only [e2, e11] at this
      exact ⟨by omega, by omega⟩
    · rename_i hd _
      have hd := of_decide_eq_true hd
      have := of_decide_eq_true hj
      exact ⟨by omega, by omega⟩
    · cases hj
/-! ### the places -/
noncomputable def code (c : Cl) (b : Bool) (p j : Nat) : Nat := match side2.outN Tryd.prog rcI 10 (10, .i64, 13) (EI2 b (leafB c b p j).1 (leafB c b p j).2) with
  | some q => q
  | none => 0
noncomputable def next (c : Cl) (p j : Nat) : Nat := if p < c.xs.length then (if code c (c.bs.getD j false) p j = 15 then p + 1 else if code c (c.bs.getD j false) p j = 12 then (c.xs.getD p (0, 0, 0)).2.1.toNat else p) else p
noncomputable def place (c : Cl) : Nat → Nat
  | 0 => c.at0
  | j + 1 => next c (place c j) j
theorem place_le (h : c.Ok w) : ∀ {j : Nat}, j ≤ 200 → place c j ≤ c.xs.length
  | 0, _ => h.hat1
  | j + 1, hj => by
    have ih := place_le h (j := j) (by omega)
    simp only [place, next]
    split
    · rename_i hp
      split
      · omega
      · split
        · rename_i h12
          obtain ⟨_, _, q, hq, hc⟩ := outB2 h (b := c.bs.getD j false) hp (show j < 200 by omega)
          unfold code at h12
          rw [hq] at h12
          simp only at h12
          rcases hc with rfl | rfl | ⟨_, g1, g2⟩
          · cases h12
          · cases h12
          · omega
        · exact ih
    · exact ih
end
section
variable {c : Cl} {w : World}
theorem vEnv (h : c.Ok w) {iv : Go.Ev.Ivs} {fs : List Go.Ev.Fact} {p j : Nat} {φ : Go.Ev.Phi} (hφ : φ.ρ = c.rho p j) (h1 : Go.Ev.IvOK iv (c.rho p j)) (h2 : Go.Ev.FsOK fs (c.rho p j)) : Go.Ev.EnvP (EF iv fs) φ w :=
  ⟨fun i => by rw [hφ]; exact h1 i, fun f hf => by rw [hφ]; exact h2 f hf, fun i c h => by cases h⟩
theorem lens_ok {p j : Nat} : Go.Ev.FsOK lens (c.rho p j) := by
  intro f hf
  simp only [lens, List.mem_cons, List.not_mem_nil, or_false] at hf
  rcases hf with rfl | rfl
  · exact Go.Ev.fact_len rfl rfl
  · exact Go.Ev.fact_len rfl rfl
theorem fcut_ok (h : c.Ok w) {p j : Nat} : Go.Ev.FsOK (fcut (.sint .i64 1)) (c.rho p j) := by
  intro f hf
  simp only [fcut, List.mem_cons, List.not_mem_nil, or_false] at hf
  have hn := h.hn
  rcases hf with rfl | rfl | rfl | rfl
  · exact Go.Ev.fact_len rfl rfl
  · exact Go.Ev.fact_cut (a := c.oa) (l := c.n) (c := c.cap) (m := c.xs.length) (k := .i64) rfl (by show some (Value.int .i64 (c.n : Int)) = _; rw [hn]) (by have := h.hcap; omega) rfl
  · exact Go.Ev.fact_len rfl rfl
  · exact Go.Ev.fact_len rfl rfl
/-- The cells of an instruction. -/
theorem cells_ok (h : c.Ok w) {iv : Go.Ev.Ivs} {p j : Nat} {φ : Go.Ev.Phi} (hφ : φ.ρ = c.rho p j) (hp : p < c.xs.length) (h1 : Go.Ev.IvOK iv (c.rho p j)) : φ.ρ.blk 10 < w.heap.size ∧ ∀ k x, [Go.Ev.sv iv .i64 10, Go.Ev.sv iv .i64 11, Go.Ev.sv iv .i64 12][k]? = some x → ∃ v, w.cell? ⟨φ.ρ.blk 10, φ.ρ.off 10 + k, none⟩ = some v ∧ Go.Ev.VR φ x v := by
  obtain ⟨g1, g2, g3, g4, g5⟩ := h.lst.cells p _ (at_of hp)
  have v3 : Go.Ev.VR φ (Go.Ev.sv iv .i64 10) (.int .i64 (c.xs.getD p (0, 0, 0)).1) := by have := Go.Ev.VR_sv (φ := φ) (iv := iv) (by rw [hφ]; exact h1) .i64 10; rw [hφ] at this; exact this
  have v4 : Go.Ev.VR φ (Go.Ev.sv iv .i64 11) (.int .i64 (c.xs.getD p (0, 0, 0)).2.1) := by have := Go.Ev.VR_sv (φ := φ) (iv := iv) (by rw [hφ]; exact h1) .i64 11; rw [hφ] at this; exact this
  have v5 : Go.Ev.VR φ (Go.Ev.sv iv .i64 12) (.int .i64 (c.xs.getD p (0, 0, 0)).2.2) := by have := Go.Ev.VR_sv (φ := φ) (iv := iv) (by rw [hφ]; exact h1) .i64 12; rw [hφ] at this; exact this
  have eb : φ.ρ.blk 10 = c.B := by rw [hφ]; rfl
  have eo : φ.ρ.off 10 = c.O + p * 3 := by rw [hφ]; rfl
  rw [eb, eo]
  refine ⟨g2, fun k x hk => ?_⟩
  match k with
  | 0 => simp only [List.getElem?_cons_zero, Option.some.injEq] at hk; subst hk; exact ⟨_, g3, v3⟩
  | 1 => simp only [List.getElem?_cons_succ, List.getElem?_cons_zero, Option.some.injEq] at hk; subst hk; exact ⟨_, g4, v4⟩
  | 2 => simp only [List.getElem?_cons_succ, List.getElem?_cons_zero, Option.some.injEq] at hk; subst hk; exact ⟨_, g5, v5⟩
  | k + 3 => simp at hk
theorem at1 (h : c.Ok w) {p j : Nat} (hp : p < c.xs.length) : Go.Ev.FactOK (c.rho p j) (.at 3 (.sym 1) (.sint .i64 13) ⟨.sym 10, 0⟩) := by
  obtain ⟨g1, _⟩ := h.lst.cells p _ (at_of hp)
  refine Go.Ev.fact_at (n := p) (B := c.B) (O := c.O) (l := c.xs.length) (c := c.cap) ?_ rfl hp rfl rfl
  show some (Value.slice c.oa c.xs.length c.cap) = _
  rw [g1]
theorem env1 (h : c.Ok w) {i : Nat} (hi : i < c.xs.length) {φ : Go.Ev.Phi} (hφ : φ.ρ = c.rho i 0) : Go.Ev.EnvP (EI1 (leafA c i).1 (leafA c i).2) φ w := by
  obtain ⟨_, h1, h2⟩ := outA h hi
  have := h.h32
  refine ⟨fun i => by rw [hφ]; exact h1 i, fun f hf => ?_, fun q cs hq => ?_⟩
  · rw [hφ]
    rcases List.mem_append.1 hf with hf | hf
    · exact h2 f hf
    · simp only [elFacts, List.mem_cons, List.not_mem_nil, or_false] at hf
      rcases hf with rfl | rfl | rfl | rfl | rfl | rfl
      · exact Go.Ev.fact_len rfl rfl
      · exact Go.Ev.fact_len rfl rfl
      · exact at1 h hi
      · exact Go.Ev.factLss (decide_eq_true (show (i : Int) < (c.xs.length : Int) by omega))
      · exact Go.Ev.factLss (decide_eq_false (show ¬ ((c.xs.length : Int) < (i : Int) + 1) by omega))
      · exact Go.Ev.fact_add rfl (show -9223372036854775808 ≤ (i : Int) + 1 by omega) (show (i : Int) + 1 ≤ 9223372036854775807 by omega)
  · simp only [EI1] at hq
    split at hq
    · rename_i hb
      have e := Nat.eq_of_beq_eq_true hb
      subst e
      cases hq
      exact cells_ok h hφ hi h1
    · cases hq
theorem bs_at {j : Nat} (hj : j < c.bs.length) : c.bs[j]? = some (c.bs.getD j false) := by simp [List.getD_eq_getElem?_getD, hj]
theorem env2 (h : c.Ok w) {p j : Nat} (hp : p < c.xs.length) (hj : j < c.bs.length) (hj2 : j < 200) {φ : Go.Ev.Phi} (hφ : φ.ρ = c.rho p j) : Go.Ev.EnvP (EI2 (c.bs.getD j false) (leafB c (c.bs.getD j false) p j).1 (leafB c (c.bs.getD j false) p j).2) φ w := by
  obtain ⟨h1, h2, _⟩ := outB2 h (b := c.bs.getD j false) hp hj2
  obtain ⟨b1, b2, b3⟩ := h.lstb.cells j _ (bs_at hj)
  have := h.h32
  refine ⟨fun i => by rw [hφ]; exact h1 i, fun f hf => ?_, fun q cs hq => ?_⟩
  · rw [hφ]
    rcases List.mem_append.1 hf with hf | hf
    · exact h2 f hf
    · simp only [el2, List.mem_cons, List.not_mem_nil, or_false] at hf
      rcases hf with rfl | rfl | rfl | rfl | rfl | rfl | rfl | rfl | rfl
      · exact Go.Ev.fact_len rfl rfl
      · exact Go.Ev.fact_len rfl rfl
      · exact at1 h hp
      · refine Go.Ev.fact_at (n := j) (B := c.B') (O := c.O') (l := c.bs.length) (c := c.capb) ?_ rfl hj rfl (by show c.O' + j = c.O' + j * 1; omega)
        show some (Value.slice c.ob c.bs.length c.capb) = _
        rw [b1]
      · exact Go.Ev.factLss (decide_eq_true (show (j : Int) < (c.bs.length : Int) by omega))
      · exact Go.Ev.factLss (decide_eq_true (show (p : Int) < (c.xs.length : Int) by omega))
      · exact Go.Ev.factLss (decide_eq_false (show ¬ ((c.xs.length : Int) < (p : Int) + 1) by omega))
      · exact Go.Ev.fact_add rfl (show -9223372036854775808 ≤ (p : Int) + 1 by omega) (show (p : Int) + 1 ≤ 9223372036854775807 by omega)
      · exact Go.Ev.fact_add rfl (show -9223372036854775808 ≤ (j : Int) + 1 by omega) (show (j : Int) + 1 ≤ 9223372036854775807 by omega)
  · simp only [EI2] at hq
    split at hq
    · rename_i hb
      have e := Nat.eq_of_beq_eq_true hb
      subst e
      cases hq
      exact cells_ok h hφ hp h1
    · rename_i hb _
      have e := Nat.eq_of_beq_eq_true hb
      subst e
      cases hq
      have eb : φ.ρ.blk 11 = c.B' := by rw [hφ]; rfl
      have eo : φ.ρ.off 11 = c.O' + j := by rw [hφ]; rfl
      rw [eb, eo]
      refine ⟨b2, fun k x hk => ?_⟩
      match k with
      | 0 => simp only [List.getElem?_cons_zero, Option.some.injEq] at hk; subst hk; exact ⟨_, b3, by simp only [Go.Ev.VR]⟩
      | k + 1 => simp at hk
    · cases hq
/-! ### both loops -/
noncomputable def env1At (c : Cl) (EE1 : Go.Ev.Env) (i : Nat) : Go.Ev.Env := if i < c.xs.length then EI1 (leafA c i).1 (leafA c i).2 else EE1
def len2 (c : Cl) : Nat := min c.bs.length 200
noncomputable def env2At (c : Cl) (j : Nat) : Go.Ev.Env := if j < len2 c then (if place c j < c.xs.length then EI2 (c.bs.getD j false) (leafB c (c.bs.getD j false) (place c j) j).1 (leafB c (c.bs.getD j false) (place c j) j).2 else Ez) else (if c.bs.length ≤ 200 then EEa else EEb)
noncomputable def goes (c : Cl) (j : Nat) : Bool := decide (place c j < c.xs.length) && !(Nat.beq (code c (c.bs.getD j false) (place c j) j) 0)
theorem env2_ok (h : c.Ok w) {j : Nat} (hj : j ≤ len2 c) {φ : Go.Ev.Phi} (hφ : φ.ρ = c.rho (place c j) j) : Go.Ev.EnvP (env2At c j) φ w := by
  have hl : len2 c = min c.bs.length 200 := rfl
  have hpl := place_le h (show j ≤ 200 by omega)
  have h32 := h.h32
  have hn := h.hn
  have hat := h.hat
  unfold env2At
  split
  · rename_i hlt
    split
    · rename_i hp
      exact env2 h hp (by omega) (by omega) hφ
    · rename_i hp
      refine vEnv h hφ (ivs_ok h h.hfr.1 h.hfr.2 (by omega) (by omega) (by omega) (by omega) (more64 h (by omega) (by omega) (by omega) (by omega) (pair15 (by omega) (by omega) (by omega) (by omega)))) (fs_app lens_ok fun f hf => ?_)
      simp only [List.mem_cons, List.not_mem_nil, or_false] at hf
      rcases hf with rfl | rfl | rfl
      · exact Go.Ev.factLss (decide_eq_true (show (j : Int) < (c.bs.length : Int) by omega))
      · exact Go.Ev.factLss (decide_eq_false (show ¬ ((place c j : Int) < (c.xs.length : Int)) by omega))
      · exact Go.Ev.factLss (decide_eq_false (show ¬ ((c.xs.length : Int) < (place c j : Int)) by omega))
  · split
    · refine vEnv h hφ (ivs_ok h h.hfr.1 h.hfr.2 (by omega) (by omega) (by omega) (by omega) (more64 h (by omega) (by omega) (by omega) (by omega) (pair15 (by omega) (by omega) (by omega) (by omega)))) (fs_app lens_ok fun f hf => ?_)
      simp only [List.mem_cons, List.not_mem_nil, or_false] at hf
      rcases hf with rfl | rfl
      · exact Go.Ev.factLss (decide_eq_false (show ¬ ((j : Int) < (c.bs.length : Int)) by omega))
      · exact Go.Ev.factLss (decide_eq_false (show ¬ ((c.xs.length : Int) < (place c j : Int)) by omega))
    · refine vEnv h hφ (ivs_ok h h.hfr.1 h.hfr.2 (by omega) (by omega) (by omega) (by omega) (more64 h (by omega) (by omega) (by omega) (by omega) (pair15 (by omega) (by omega) (by omega) (by omega)))) (fs_app lens_ok fun f hf => ?_)
      simp only [List.mem_cons, List.not_mem_nil, or_false] at hf
      rcases hf with rfl | rfl
      · exact Go.Ev.factLss (decide_eq_true (show (j : Int) < (c.bs.length : Int) by omega))
      · exact Go.Ev.factLss (decide_eq_false (show ¬ ((c.xs.length : Int) < (place c j : Int)) by omega))
theorem shape1 : Go.Ev.shapeB bI 4 1 0 = true := by kernel_rfl
theorem shape2 : Go.Ev.shapeB (Go.Ev.dropSeq 5 bI) 2 1 4 = true := by kernel_rfl
theorem shape_ok {b : Code} {k1 k2 id : Nat} (h : Go.Ev.shapeB b k1 k2 id = true) : Go.Ev.isSeq (Go.Ev.dropSeq k1 b) = true ∧ Go.Ev.isBlock id (Go.Ev.dropSeq k2 (Go.Ev.seqL (Go.Ev.dropSeq k1 b))) = true ∧ Go.Ev.isLoop (Go.Ev.blockC (Go.Ev.dropSeq k2 (Go.Ev.seqL (Go.Ev.dropSeq k1 b)))) = true := by
  unfold Go.Ev.shapeB at h
  split at h
  · rename_i h1 h2; exact ⟨h1, h2, h⟩
  · cases h
theorem argsI (c : Cl) {p j : Nat} : Go.Ev.VRs ⟨fun _ => none, c.rho p j⟩ args5 [.slice c.oa c.n c.cap, .int .i64 c.fr, .slice c.ob c.bs.length c.capb] := by
  simp only [args5, Go.Ev.VRs, Go.Ev.VR]
  exact ⟨_, _, rfl, rfl, _, _, rfl, rfl, _, _, rfl, rfl, rfl⟩
set_option maxRecDepth 4000 in
theorem both (hT : Go.Ev.TabsOK tabs w) (h : c.Ok w) (hsp : spec 2 40 c.xs = 0) {E0 EE1 : Go.Ev.Env} {at0 : Go.Ev.VV} (way : Way E0 EE1 at0) (hat0 : ∀ (φ : Go.Ev.Phi) v, (∃ p j, φ.ρ = c.rho p j) → Go.Ev.VR φ at0 v → v = .int .i64 (c.at0 : Int))
    (hb0 : ∀ r, E0.blk r = none) (hb1 : ∀ r, EE1.blk r = none) (hE0 : Go.Ev.EnvP E0 ⟨fun _ => none, c.rho 0 0⟩ w) (hEE : ∀ φ : Go.Ev.Phi, φ.ρ = c.rho c.xs.length 0 → Go.Ev.EnvP EE1 φ w) :
    Calls Tryd.prog 5 #[.slice c.oa c.n c.cap, .int .i64 c.fr, .slice c.ob c.bs.length c.capb] w fun e w' => e = .returned (.bool true) ∧ Below w.heap.size w w' := by
  letI : Go.Ev.Ext := Go.Ev.extKT Tryd.prog KT
  have ext : ∀ p j, ∀ e ∈ KT, Go.Ev.KEok Tryd.prog (c.rho p j) w e := by
    intro p j e he
    simp only [KT, List.mem_cons, List.not_mem_nil, or_false] at he
    rcases he with rfl | rfl
    · exact keW hT
    · refine keC (cap := c.cap) (t := 2) (c := 40) h.lst ⟨by decide, by decide⟩ ⟨by decide, by decide⟩ (by have := h.h32; omega) (fun φ vs hφ hv => ?_) (fun φ hφ => by rw [hsp]; simp only [Go.Ev.VR])
      simp only [Go.Ev.VRs, Go.Ev.VR, hφ] at hv
      obtain ⟨_, _, rfl, rfl, _, _, rfl, rfl, _, _, rfl, rfl, rfl⟩ := hv
      rfl
  have hrc : Go.Ev.CEok Tryd.prog (· = none) rcI := Go.Ev.evN_rc (Go.Ev.noNG_of noNG) mixed (Go.Ev.knL_ok (fun _ _ h => h)) 20000
  have hnt : Tryd.f5.ntmps ≤ Go.Ev.top := Nat.le_of_ble_eq_true (by kernel_rfl)
  obtain ⟨b1, K1, b2, K2, a3, H3, c1, L1, c2, L2, e1, e2, e3, e4, e5, e6, e7, e8, e9, e10⟩ := way.way
  obtain ⟨s1, s2, s3⟩ := shape_ok shape1
  obtain ⟨t1, t2, t3⟩ := shape_ok shape2
  have h32 := h.h32
  have none_of : ∀ {E : Go.Ev.Env}, (∀ r, E.blk r = none) → E.blk = fun _ => none := fun h => funext h
  refine Go.Ev.rs_calls (P := Tryd.prog) (fn := Tryd.f5) (c := bI) (args := args5) (res := .bool true) Tryd.func5 (by kernel_rfl) (by kernel_rfl) (by kernel_rfl) (hE0.ok (ext 0 0)) (fun r b hr => by rw [hb0 r] at hr; cases hr) (argsI c) fun act k => ?_
  refine Go.Ev.stage hrc hnt (Nat.le_refl _) e1 s1 e2 s2 s3 (LB := side1.LB) rfl (rhoAt := fun i => c.rho i 0) (len := c.xs.length) (EI := env1At c EE1) (a0 := side1.a0) (sp := fun _ => side1.sp) (l' := side1.l) (nH := side1.nH) (N := 10) (good := fun _ => true) (a3 := a3) (H3 := H3) (Bad := fun _ _ _ => False)
    e3 (fun i => by unfold env1At; split <;> first | (rw [none_of hb0]; rfl) | (rw [none_of hb0, none_of hb1])) ?_ (fun i _ => c.agree _ _ _ _) ?_ ?_ (fun i _ hg => by cases hg) ?_ ?_ (fun i act w a' H' _ _ hg => by cases hg) k
  · intro φ tmps hφ ht
    refine ⟨by rw [hφ]; exact c.agree _ _ _ _, fun p hp => ?_⟩
    simp only [Go.Ev.Side.sp, side1, List.map_cons, List.map_nil, List.mem_singleton] at hp
    subst hp
    refine ⟨by decide, ?_⟩
    have := ht 7
    rw [e4] at this
    simp only [Go.Ev.VR] at this ⊢
    rw [this]
    rfl
  · intro i hi _ φ hφ
    unfold env1At
    split
    · rename_i hlt
      exact (env1 h hlt hφ).ok (by rw [hφ]; exact ext _ _)
    · have : i = c.xs.length := by omega
      subst this
      exact (hEE φ hφ).ok (by rw [hφ]; exact ext _ _)
  · intro i hi _
    obtain ⟨a', H', q1, q2, q3⟩ := Go.Ev.Side.out_true (outA h hi).1
    refine ⟨a', H', by unfold env1At; rw [if_pos hi]; exact q1, q3, fun p hp => ?_⟩
    simp only [Go.Ev.Side.sp, side1, List.map_cons, List.map_nil, List.mem_singleton] at hp
    subst hp
    obtain ⟨g1, g2⟩ := Go.Ev.ixEq_get q2 (7, .i64, 13, 14) (by simp [side1])
    refine ⟨g1, fun φ φ' v hφ hφ' hv => ?_⟩
    simp only at hv g2 ⊢
    rw [g2] at hv
    simp only [Go.Ev.VR] at hv ⊢
    rw [hv, hφ, hφ']
    rfl
  · unfold env1At
    rw [if_neg (by omega)]
    exact e5
  · intro act w2 _ hbase k
    have hl2 : len2 c = min c.bs.length 200 := rfl
    have fin : ∃ E, env2At c (len2 c) = E ∧ finB E = true := by
      unfold env2At
      rw [if_neg (by omega)]
      split
      · exact ⟨_, rfl, rana⟩
      · exact ⟨_, rfl, ranb⟩
    obtain ⟨E, hE, hfin⟩ := fin
    obtain ⟨a5, H5, a6, H6, f1, f2, f3⟩ := finB_ok hfin
    have hbl : H3.base.blk = fun _ => none := by rw [hbase]; unfold env1At; rw [if_neg (by omega)]; exact none_of hb1
    refine Go.Ev.stage hrc hnt (Nat.le_refl _) e6 t1 e7 t2 t3 (LB := side2.LB) rfl (rhoAt := fun j => c.rho (place c j) j) (len := len2 c) (EI := env2At c) (a0 := side2.a0) (sp := fun _ => (10, .sint .i64 13) :: side2.sp) (l' := side2.l) (nH := side2.nH) (N := 10) (good := goes c) (a3 := a5) (H3 := H5)
      (Bad := fun _ a' H' => Go.Ev.resL Tryd.prog a' H' Tryd.f5.results.toList = some [.bool true]) e8 (fun j => by rw [hbl]; unfold env2At; split <;> (split <;> rfl)) ?_ (fun i _ => c.agree _ _ _ _) (fun j hj _ φ hφ => (env2_ok h hj hφ).ok (by rw [hφ]; exact ext _ _)) ?_ ?_ (by rw [hE]; exact f1) ?_ ?_ k
    · intro φ tmps hφ ht
      refine ⟨by rw [hφ]; exact c.agree _ _ _ _, fun p hp => ?_⟩
      simp only [Go.Ev.Side.sp, side2, List.map_cons, List.map_nil, List.mem_cons, List.not_mem_nil, or_false] at hp
      rcases hp with rfl | rfl
      · refine ⟨by decide, ?_⟩
        have := ht 10
        rw [e9] at this
        have := hat0 φ _ ⟨_, _, hφ⟩ this
        simp only [Go.Ev.VR]
        rw [this]
        rfl
      · refine ⟨by decide, ?_⟩
        have := ht 11
        rw [e10] at this
        simp only [Go.Ev.VR] at this ⊢
        rw [this]
        rfl
    · intro j hj hg
      unfold goes at hg
      simp only [Bool.and_eq_true, decide_eq_true_eq, Bool.not_eq_true'] at hg
      obtain ⟨hp, hc0⟩ := hg
      obtain ⟨_, _, q, hq, hqc⟩ := outB2 h (b := c.bs.getD j false) hp (show j < 200 by omega)
      have hcode : code c (c.bs.getD j false) (place c j) j = q := by unfold code; rw [hq]
      have hrun : ∀ {x}, rcI nt side2.LB (Go.Ev.putSp ((10, .sint .i64 13) :: side2.sp) side2.a0) ⟨EI2 (c.bs.getD j false) (leafB c (c.bs.getD j false) (place c j) j).1 (leafB c (c.bs.getD j false) (place c j) j).2, side2.l, side2.nH⟩ = x → rcI nt side2.LB (Go.Ev.putSp ((10, .sint .i64 13) :: side2.sp) side2.a0) ⟨env2At c j, side2.l, side2.nH⟩ = x := by
        intro x hx
        unfold env2At
        rw [if_pos hj, if_pos hp]
        exact hx
      have step : ∀ q', q = q' + 1 → (c.rho (place c j) j).int q' = (place c (j + 1) : Int) → ∃ a' H', rcI nt side2.LB (Go.Ev.putSp ((10, .sint .i64 13) :: side2.sp) side2.a0) ⟨env2At c j, side2.l, side2.nH⟩ = some (.normal, a', H') ∧ Go.Ev.swB 10 side2.nH a' H' side2.a0 side2.l = true ∧ ∀ p ∈ ((10, .sint .i64 13) :: side2.sp : List (Nat × Go.Ev.VV)), p.1 < Go.Ev.top ∧ ∀ (φ φ' : Go.Ev.Phi) (v : Value), φ.ρ = c.rho (place c j) j → φ'.ρ = c.rho (place c (j + 1)) (j + 1) → Go.Ev.VR φ (Go.Ev.tget a' p.1) v → Go.Ev.VR φ' p.2 v := by
        intro q' hq' hval
        subst hq'
        obtain ⟨a', H', r1, r2, r3, r4, r5⟩ := Go.Ev.Side.outN_succ hq
        refine ⟨a', H', hrun r1, r3, fun p hp => ?_⟩
        simp only [Go.Ev.Side.sp, side2, List.map_cons, List.map_nil, List.mem_cons, List.not_mem_nil, or_false] at hp
        rcases hp with rfl | rfl
        · refine ⟨r5, fun φ φ' v hφ hφ' hv => ?_⟩
          simp only at hv r4 ⊢
          rw [r4] at hv
          simp only [Go.Ev.VR] at hv ⊢
          rw [hv, hφ, hφ', hval]
          rfl
        · obtain ⟨g1, g2⟩ := Go.Ev.ixEq_get r2 (11, .i64, 15, 16) (by simp [side2])
          refine ⟨g1, fun φ φ' v hφ hφ' hv => ?_⟩
          simp only at hv g2 ⊢
          rw [g2] at hv
          simp only [Go.Ev.VR] at hv ⊢
          rw [hv, hφ, hφ']
          show Value.int .i64 ((j : Int) + 1) = Value.int .i64 ((j + 1 : Nat) : Int)
          congr 1
      rcases hqc with rfl | rfl | ⟨rfl, g1, g2⟩
      · rw [hcode] at hc0; cases hc0
      · refine step 14 rfl ?_
        show (place c j : Int) + 1 = (next c (place c j) j : Int)
        unfold next
        rw [if_pos hp, if_pos hcode]
        omega
      · refine step 11 rfl ?_
        show (c.xs.getD (place c j) (0, 0, 0)).2.1 = (next c (place c j) j : Int)
        unfold next
        rw [if_pos hp, if_neg (by rw [hcode]; decide), if_pos hcode]
        omega
    · intro j hj hg
      by_cases hp : place c j < c.xs.length
      · obtain ⟨_, _, q, hq, hqc⟩ := outB2 h (b := c.bs.getD j false) hp (show j < 200 by omega)
        have hcode : code c (c.bs.getD j false) (place c j) j = q := by unfold code; rw [hq]
        have q0 : q = 0 := by
          unfold goes at hg
          rw [decide_eq_true hp, hcode] at hg
          simp at hg
          exact hg
        subst q0
        obtain ⟨a', H', r1, r2⟩ := Go.Ev.Side.outN_zero hq
        exact ⟨a', H', by unfold env2At; rw [if_pos hj, if_pos hp]; exact r1, r2⟩
      · obtain ⟨a', H', r1, r2⟩ := retB_ok ranz
        exact ⟨a', H', by unfold env2At; rw [if_pos hj, if_neg hp]; exact r1, r2⟩
    · intro act w3 _ _ k
      refine wpIn_mono (Go.Ev.RS.cs (x := .ret) (fun hnt w0 φ act w ht hs hn b hbs hd => hrc w0 Tryd.f5.ntmps _ _ _ _ _ _ f2 hnt none rfl φ act w ht hs hn b hbs hd) hnt (Nat.le_refl _) k) ?_
      rintro e act' w' ⟨rfl, _, k'⟩
      exact ⟨rfl, _, a6, H6, .bool true, k', f3, fun φ v _ hv => by simpa only [Go.Ev.VR] using hv⟩
    · intro j act w3 a' H' _ _ _ hbad k
      exact ⟨rfl, _, a', H', .bool true, k, hbad, fun φ v _ hv => by simpa only [Go.Ev.VR] using hv⟩
end
section
variable {c : Cl} {w : World}
theorem end_ok (h : c.Ok w) {fs : List Go.Ev.Fact} (hf : Go.Ev.FsOK fs (c.rho c.xs.length 0)) : Go.Ev.FsOK (fs ++ endF) (c.rho c.xs.length 0) := fs_app hf fun f hf => by
  simp only [endF, List.mem_singleton] at hf
  subst hf
  exact Go.Ev.factLss (decide_eq_false (show ¬ ((c.xs.length : Int) < (c.xs.length : Int)) by omega))
theorem tl_ok (h : c.Ok w) : ∀ k, (Go.Ev.ivAt tl k).1 ≤ c.v c.xs.length 0 (k + 10) ∧ c.v c.xs.length 0 (k + 10) ≤ (Go.Ev.ivAt tl k).2 := by
  have h32 := h.h32
  exact Go.Ev.ivs_cons (f := fun k => c.v c.xs.length 0 (k + 10)) (fit64 h c.xs.length).1 (Go.Ev.ivs_cons (f := fun k => c.v c.xs.length 0 (k + 11)) (fit64 h c.xs.length).2.1 (Go.Ev.ivs_cons (f := fun k => c.v c.xs.length 0 (k + 12)) (fit64 h c.xs.length).2.2 (Go.Ev.ivs_cons (f := fun k => c.v c.xs.length 0 (k + 13)) ⟨by show (0 : Int) ≤ (c.xs.length : Int); omega, by show (c.xs.length : Int) ≤ 32; omega⟩
    (Go.Ev.ivs_nil fun k => by
      match k with
      | 0 => exact ⟨by show _ ≤ (c.xs.length : Int) + 1; omega, by show (c.xs.length : Int) + 1 ≤ _; omega⟩
      | 1 => exact ⟨by show _ ≤ ((0 : Nat) : Int); decide, by show ((0 : Nat) : Int) ≤ _; decide⟩
      | 2 => exact ⟨by show _ ≤ ((0 : Nat) : Int) + 1; decide, by show ((0 : Nat) : Int) + 1 ≤ _; decide⟩
      | k + 3 => exact ⟨by show _ ≤ (0 : Int); decide, by show (0 : Int) ≤ _; decide⟩))))
theorem lawZ (hT : Go.Ev.TabsOK tabs w) (h : c.Ok w) (hsp : spec 2 40 c.xs = 0) (h0 : c.xs.length = 0) : Calls Tryd.prog 5 #[.slice c.oa c.n c.cap, .int .i64 c.fr, .slice c.ob c.bs.length c.capb] w fun e w' => e = .returned (.bool true) ∧ Below w.heap.size w w' := by
  have hc0 : c.at0 = 0 := h.hat' h0
  have hn := h.hn
  have i1 : Go.Ev.IvOK ivZ (c.rho 0 0) := by
    unfold ivZ
    exact ivs_ok h h.hfr.1 h.hfr.2 (by omega) (by omega) (by omega) (by omega) (tail64 h (by omega) (by omega))
  have i2 : Go.Ev.IvOK (ivZ ++ tl) (c.rho c.xs.length 0) := by
    show Go.Ev.IvOK ((-9223372036854775808, 9223372036854775807) :: (0, 0) :: (0, 0) :: (0, 9223372036854775807) :: (0, 0) :: (2, 2) :: (40, 40) :: (0, 0) :: (0, 0) :: (0, 0) :: tl) _
    exact ivs_ok h h.hfr.1 h.hfr.2 (by omega) (by omega) (by omega) (by omega) (tl_ok h)
  exact both (at0 := .int .i64 0) hT h hsp (wayB_ok wayZ) (fun φ v _ hv => by simp only [Go.Ev.VR] at hv; rw [hv, hc0]; rfl) (fun r => rfl) (fun r => rfl) (vEnv h rfl i1 (fcut_ok h)) (fun φ hφ => vEnv h hφ i2 (end_ok h (fcut_ok h)))
theorem at4 : ∀ (φ : Go.Ev.Phi) v, (∃ p j, φ.ρ = c.rho p j) → Go.Ev.VR φ (.sint .i64 4) v → v = .int .i64 (c.at0 : Int) := fun φ v ⟨p, j, hφ⟩ hv => by
  simp only [Go.Ev.VR, hφ] at hv
  rw [hv]
  rfl
theorem lawP (hT : Go.Ev.TabsOK tabs w) (h : c.Ok w) (hsp : spec 2 40 c.xs = 0) (h0 : c.xs.length ≠ 0) (hf : 0 ≤ c.fr) (hc : c.at0 = (max c.fr 0).toNat % c.xs.length) : Calls Tryd.prog 5 #[.slice c.oa c.n c.cap, .int .i64 c.fr, .slice c.ob c.bs.length c.capb] w fun e w' => e = .returned (.bool true) ∧ Below w.heap.size w w' := by
  have hn := h.hn
  have h32 := h.h32
  have hat := h.hat
  have rem : ∀ {p : Nat}, Go.Ev.FsOK (fcut (.sint .i64 1) ++ remP) (c.rho p 0) := fun {p} => fs_app (fcut_ok h) fun f hf' => by
    simp only [remP, List.mem_singleton] at hf'
    subst hf'
    refine Go.Ev.fact_rem (k := .i64) (a := (c.fr.toNat : Int)) (b := (c.xs.length : Int)) (by show some (Value.int .i64 c.fr) = _; rw [show c.fr = (c.fr.toNat : Int) by omega]; rfl) rfl (by omega) ?_
    show some (Value.int .i64 (c.at0 : Int)) = some (Value.int .i64 ((c.fr.toNat % c.xs.length : Nat) : Int))
    rw [hc, show (max c.fr 0).toNat = c.fr.toNat by omega]
  have i1 : Go.Ev.IvOK ivP (c.rho 0 0) := by
    unfold ivP
    exact ivs_ok h hf h.hfr.2 (by omega) (by omega) (by omega) (by omega) (tail64 h (by omega) (by omega))
  have i2 : Go.Ev.IvOK (ivP ++ tl) (c.rho c.xs.length 0) := by
    show Go.Ev.IvOK ((0, 9223372036854775807) :: (0, 40) :: (1, 32) :: (0, 9223372036854775807) :: (0, 31) :: (2, 2) :: (40, 40) :: (0, 0) :: (0, 0) :: (0, 0) :: tl) _
    exact ivs_ok h hf h.hfr.2 (by omega) (by omega) (by omega) (by omega) (tl_ok h)
  exact both (at0 := .sint .i64 4) hT h hsp (wayB_ok wayP) at4 (fun r => rfl) (fun r => rfl) (vEnv h rfl i1 rem) (fun φ hφ => vEnv h hφ i2 (end_ok h rem))
theorem lawM (hT : Go.Ev.TabsOK tabs w) (h : c.Ok w) (hsp : spec 2 40 c.xs = 0) (h0 : c.xs.length ≠ 0) (hf : ¬ 0 ≤ c.fr) (hc : c.at0 = (max c.fr 0).toNat % c.xs.length) : Calls Tryd.prog 5 #[.slice c.oa c.n c.cap, .int .i64 c.fr, .slice c.ob c.bs.length c.capb] w fun e w' => e = .returned (.bool true) ∧ Below w.heap.size w w' := by
  have hn := h.hn
  have h32 := h.h32
  have hat := h.hat
  have rem : ∀ {p : Nat}, Go.Ev.FsOK (fcut (.sint .i64 1) ++ remM) (c.rho p 0) := fun {p} => fs_app (fcut_ok h) fun f hf' => by
    simp only [remM, List.mem_singleton] at hf'
    subst hf'
    refine Go.Ev.fact_rem (k := .i64) (a := ((0 : Nat) : Int)) (b := (c.xs.length : Int)) rfl rfl (by omega) ?_
    show some (Value.int .i64 (c.at0 : Int)) = some (Value.int .i64 ((0 % c.xs.length : Nat) : Int))
    rw [hc, show (max c.fr 0).toNat = 0 by omega]
  have i1 : Go.Ev.IvOK ivM (c.rho 0 0) := by
    unfold ivM
    exact ivs_ok h h.hfr.1 (by omega) (by omega) (by omega) (by omega) (by omega) (tail64 h (by omega) (by omega))
  have i2 : Go.Ev.IvOK (ivM ++ tl) (c.rho c.xs.length 0) := by
    show Go.Ev.IvOK ((-9223372036854775808, -1) :: (0, 40) :: (1, 32) :: (0, 9223372036854775807) :: (0, 31) :: (2, 2) :: (40, 40) :: (0, 0) :: (0, 0) :: (0, 0) :: tl) _
    exact ivs_ok h h.hfr.1 (by omega) (by omega) (by omega) (by omega) (by omega) (tl_ok h)
  exact both (at0 := .sint .i64 4) hT h hsp (wayB_ok wayM) at4 (fun r => rfl) (fun r => rfl) (vEnv h rfl i1 rem) (fun φ hφ => vEnv h hφ i2 (end_ok h rem))
end
set_option maxRecDepth 100000 in
theorem law {w : World} (hT : Go.Ev.TabsOK tabs w) {oa ob : Option Addr} {cap B O capb B' O' : Nat} {fr : Int} {ys : List Ins} {bs : List Bool} (hL : Lst w oa B O ys) (hLb : LstB w ob B' O' bs) (hfr : I64 fr) (hn : (ys.length : Int) ≤ 9223372036854775807) (hcap : ys.length ≤ cap) (hbs : (bs.length : Int) ≤ 9223372036854775807) :
    Calls Tryd.prog 5 #[.slice oa ys.length cap, .int .i64 fr, .slice ob bs.length capb] w fun e w' => e = .returned (.bool true) ∧ Below w.heap.size w w' := by
  have hl : (ys.take 40).length = min 40 ys.length := List.length_take
  have hLx := hL.take 40
  have hnx : ((ys.take 40).length : Int) < 9223372036854775807 := by rw [hl]; omega
  obtain ⟨hs0, hs1, hsz⟩ := spec_in hLx (t := 2) (c := 40) ⟨by decide, by decide⟩ ⟨by decide, by decide⟩ hnx
  generalize hxs : ys.take 40 = xs at *
  by_cases hz : spec 2 40 xs = 0
  · obtain ⟨hin, hg⟩ := hsz hz
    have h32 := hin.n32
    have hyx : ys.length = xs.length := by omega
    obtain ⟨A, hA⟩ : ∃ A : Nat, A = if xs.length = 0 then 0 else (max fr 0).toNat % xs.length := ⟨_, rfl⟩
    have hA1 : xs.length = 0 → A = 0 := fun h0 => by rw [hA, if_pos h0]
    have hA2 : xs.length ≠ 0 → A = (max fr 0).toNat % xs.length := fun h0 => by rw [hA, if_neg h0]
    have hA3 : A ≤ xs.length := by
      by_cases h0 : xs.length = 0
      · rw [hA1 h0]; omega
      · rw [hA2 h0]; exact Nat.le_of_lt (Nat.mod_lt _ (by omega))
    have hA4 : A ≤ 31 := by
      by_cases h0 : xs.length = 0
      · rw [hA1 h0]; omega
      · have := hA2 h0
        have := Nat.mod_lt (max fr 0).toNat (show xs.length > 0 by omega)
        omega
    clear hA
    have ok : Cl.Ok ⟨oa, cap, B, O, ob, capb, B', O', fr, ys.length, A, 0, xs, bs⟩ w := ⟨hLx, hLb, hfr, hyx, h32, hbs, hcap, rfl, hA4, hA1, hA3, hg⟩
    by_cases h0 : xs.length = 0
    · have r := lawZ hT ok hz h0
      dsimp only at r
      exact r
    · by_cases hf : 0 ≤ fr
      · have r := lawP hT ok hz h0 hf (hA2 h0)
        dsimp only at r
        exact r
      · have r := lawM hT ok hz h0 hf (hA2 h0)
        dsimp only at r
        exact r
  · let c : Cl := { oa := oa, cap := cap, B := B, O := O, ob := ob, capb := capb, B' := B', O' := O', fr := fr, n := ys.length, at0 := 0, s := spec 2 40 xs, xs := xs, bs := bs }
    have ext : ∀ e ∈ KT1, Go.Ev.KEok Tryd.prog (c.rho 0 0) w e := by
      intro e he
      simp only [KT1, List.mem_cons, List.not_mem_nil, or_false] at he
      rcases he with rfl | rfl
      · exact keW hT
      · refine keC (cap := cap) (t := 2) (c := 40) hLx ⟨by decide, by decide⟩ ⟨by decide, by decide⟩ hnx (fun φ vs hφ hv => ?_) (fun φ hφ => by simp only [Go.Ev.VR, hφ]; rfl)
        simp only [Go.Ev.VRs, Go.Ev.VR, hφ] at hv
        obtain ⟨_, _, rfl, rfl, _, _, rfl, rfl, _, _, rfl, rfl, rfl⟩ := hv
        rfl
    have fit := hLx.fit 0
    have tail : ∀ k, (Go.Ev.ivAt [] k).1 ≤ c.v 0 0 (k + 10) ∧ c.v 0 0 (k + 10) ≤ (Go.Ev.ivAt [] k).2 := Go.Ev.ivs_nil fun k => by
      match k with
      | 0 => exact fit.1
      | 1 => exact fit.2.1
      | 2 => exact fit.2.2
      | 3 => exact ⟨by show _ ≤ ((0 : Nat) : Int); decide, by show ((0 : Nat) : Int) ≤ _; decide⟩
      | 4 => exact ⟨by show _ ≤ ((0 : Nat) : Int) + 1; decide, by show ((0 : Nat) : Int) + 1 ≤ _; decide⟩
      | 5 => exact ⟨by show _ ≤ ((0 : Nat) : Int); decide, by show ((0 : Nat) : Int) ≤ _; decide⟩
      | 6 => exact ⟨by show _ ≤ ((0 : Nat) : Int) + 1; decide, by show ((0 : Nat) : Int) + 1 ≤ _; decide⟩
      | k + 7 => exact ⟨by show _ ≤ (0 : Int); decide, by show (0 : Int) ≤ _; decide⟩
    have ivs : ∀ {n0 n1 : Int}, n0 ≤ (ys.length : Int) → (ys.length : Int) ≤ n1 → Go.Ev.IvOK ((-9223372036854775808, 9223372036854775807) :: (n0, n1) :: (0, 40) :: (0, 9223372036854775807) :: (0, 40) :: (2, 2) :: (40, 40) :: (1, 1000) :: (0, 0) :: (0, 0) :: []) (c.rho 0 0) := fun h0 h1 =>
      Go.Ev.ivs_cons hfr (Go.Ev.ivs_cons ⟨h0, h1⟩ (Go.Ev.ivs_cons ⟨by show (0 : Int) ≤ (xs.length : Int); omega, by show (xs.length : Int) ≤ 40; omega⟩ (Go.Ev.ivs_cons ⟨by show (0 : Int) ≤ (bs.length : Int); omega, hbs⟩ (Go.Ev.ivs_cons ⟨Int.le_refl _, by show ((0 : Nat) : Int) ≤ 40; decide⟩
        (Go.Ev.ivs_cons ⟨Int.le_refl _, Int.le_refl _⟩ (Go.Ev.ivs_cons ⟨Int.le_refl _, Int.le_refl _⟩ (Go.Ev.ivs_cons ⟨by show 1 ≤ spec 2 40 xs; omega, hs1⟩ (Go.Ev.ivs_cons ⟨Int.le_refl _, Int.le_refl _⟩ (Go.Ev.ivs_cons ⟨Int.le_refl _, Int.le_refl _⟩ tail)))))))))
    have fc : ∀ {hi : Go.Ev.VV}, Go.Ev.sval (c.rho 0 0) hi = some (.int .i64 (xs.length : Int)) → Go.Ev.FsOK (fcut hi) (c.rho 0 0) := fun {hi} hh f hf => by
      simp only [fcut, List.mem_cons, List.not_mem_nil, or_false] at hf
      rcases hf with rfl | rfl | rfl | rfl
      · exact Go.Ev.fact_len rfl rfl
      · exact Go.Ev.fact_cut (a := oa) (l := ys.length) (c := cap) (m := xs.length) (k := .i64) rfl hh (by omega) rfl
      · exact Go.Ev.fact_len rfl rfl
      · exact Go.Ev.fact_len rfl rfl
    have env : ∀ {iv : Go.Ev.Ivs} {fs : List Go.Ev.Fact}, Go.Ev.IvOK iv (c.rho 0 0) → Go.Ev.FsOK fs (c.rho 0 0) → Go.Ev.EnvP (EF iv fs) ⟨fun _ => none, c.rho 0 0⟩ w := fun h1 h2 => ⟨h1, h2, fun i c h => by cases h⟩
    by_cases h40 : ys.length ≤ 40
    · exact Go.Ev.trueB_calls (Go.Ev.noNG_of noNG) mixed ranA ext (env (ivs (by omega) (by omega)) (fc (by show some (Value.int .i64 (ys.length : Int)) = _; rw [show ys.length = xs.length by omega]))) (fun r => rfl) (argsI c)
    · exact Go.Ev.trueB_calls (Go.Ev.noNG_of noNG) mixed ranB ext (env (ivs (by omega) (by omega)) (fc (by show some (Value.int .i64 40) = _; rw [show xs.length = 40 by omega]; rfl))) (fun r => rfl) (argsI c)
/-! ### the row -/
theorem choose_bool {p : Nat → Bool → Prop} : ∀ {n : Nat}, (∀ i, i < n → ∃ x, p i x) → ∃ xs : List Bool, xs.length = n ∧ ∀ i x, xs[i]? = some x → p i x
  | 0, _ => ⟨[], rfl, fun i x h => by simp at h⟩
  | n + 1, h => by
    obtain ⟨xs, h1, h2⟩ := choose_bool (n := n) fun i hi => h i (by omega)
    obtain ⟨x, hx⟩ := h n (by omega)
    refine ⟨xs ++ [x], by simp [h1], fun i y hy => ?_⟩
    rw [List.getElem?_append] at hy
    split at hy
    · exact h2 i y hy
    · rename_i hi
      have : i = n := by
        have := (List.getElem?_eq_some_iff.1 hy).1
        simp at this
        omega
      subst this
      rw [h1] at hy
      simp at hy
      subst hy
      exact hx
set_option maxRecDepth 100000 in
theorem lstb_of {H : Type} {enc : TypeId × Value → H} {w : World} {sp : Nat → Bool} {held : Bool} {r : Reach} {b0 : Nat} {v : Value} {d : DataW H} {ps : List MemPlace} (hval : Value.okWide Tryd.prog w r b0 32 v) (h : DataW.Trod enc Tryd.prog w 0 sp held 32 v d ps) :
    ∃ ob capb B O, ∃ bs : List Bool, v = .slice ob bs.length capb ∧ LstB w ob B O bs ∧ (bs.length : Int) ≤ 9223372036854775807 := by
  obtain ⟨a0, len, cap, rfl⟩ := okWide_slice Tryd.underlying32 hval
  obtain ⟨fuel, hf⟩ := h
  have hc4 : Tryd.prog.cellsOf 4 = 1 := by kernel_rfl
  rcases Go.Deep.open_slice1 Tryd.underlying32 hc4 hf with ⟨hcs, _⟩ | ⟨a, len', cap', m, n, V, D, Pl, hcs, _, hl, hm, hmm, _, hall⟩
  · simp only [Value.cells, List.cons.injEq, Value.slice.injEq, and_true] at hcs
    obtain ⟨rfl, rfl, rfl⟩ := hcs
    exact ⟨none, 0, 0, 0, [], rfl, ⟨fun i x hi => by simp at hi⟩, by simp⟩
  · simp only [Value.cells, List.cons.injEq, Value.slice.injEq, and_true] at hcs
    obtain ⟨rfl, rfl, rfl⟩ := hcs
    have hlm : len ≤ m := by rw [hmm]; split <;> omega
    have each : ∀ i, i < len → ∃ x : Bool, w.cell? (a.add i) = some (.bool x) := by
      intro i hi
      obtain ⟨h1, h2⟩ := hall i (by omega)
      obtain ⟨b, hb, _⟩ := DataW.trod_bool Tryd.underlying4 h2
      simp only [List.cons.injEq, and_true] at hb
      rw [hb] at h1
      exact ⟨b, h1⟩
    obtain ⟨xs, hx1, hx2⟩ := choose_bool each
    have hbig : (xs.length : Int) ≤ 9223372036854775807 := by
      have : cap ≤ maxLen := hm
      have e : maxLen ≤ 9223372036854775807 := by decide
      omega
    cases xs with
    | nil =>
      have : len = 0 := by simpa using hx1.symm
      subst this
      exact ⟨some a, cap, 0, 0, [], rfl, ⟨fun i x hi => by simp at hi⟩, hbig⟩
    | cons x0 xs' =>
      have h00 := hx2 0 x0 rfl
      obtain ⟨B, O, spot⟩ := a
      have hspot : spot = none := by simpa [Addr.add] using World.cell?_spot h00
      subst hspot
      refine ⟨some ⟨B, O, none⟩, cap, B, O, x0 :: xs', by rw [hx1], ⟨fun i x hi => ?_⟩, hbig⟩
      have g1 := hx2 i x hi
      rw [Addr.add_lit] at g1
      refine ⟨rfl, ?_, g1⟩
      unfold World.cell? at g1
      split at g1
      · rename_i he
        exact (Array.getElem?_eq_some_iff.1 he).1
      · cases g1
set_option maxRecDepth 100000 in
theorem lifted (os : Os) (started : os.Started) (H : Type) (enc : TypeId × Value → H) :
    ReturnsInHanded {} Tryd.checked os 5 .any (fun w args => (Rows.codeInsideSpec.pre enc Tryd.prog Tryd.f5 [] false w args ∧ laidMetH Tryd.prog Rows.codeInsideRow.laid w) ∧ sizedMet enc Tryd.prog Tryd.f5 (OpenSpec.ofChange Rows.codeInsideSpec) false w args)
      (Rows.codeInsideSpec.post enc Tryd.prog Tryd.f5 false true false false) := by
  refine returnsInHanded_of_change_and (C := Tryd.checked) (X := fun w _ => laidMetH Tryd.prog Rows.codeInsideRow.laid w) (fun _ _ _ hh h => h.of_heap hh) own started (by kernel_rfl) Tryd.func5
    (ChangeSpec.witness_shaped (enc := enc) (C := Tryd.checked) (os := os) (X := fun w _ => laidMetH Tryd.prog Rows.codeInsideRow.laid w) false (World.laidAll Tryd.prog os Rows.codeInsideRow.laid) #[.slice none 0 0, .int .i64 0, .slice none 0 0] 8 (World.laidAll_os _ _ _)
      (World.shaped_of_ZipB (by kernel_rfl) (by kernel_rfl)) (by kernel_rfl) (by kernel_rfl) (by kernel_rfl)
      (by rw [MakeChecks.laidMetH_plain _ _ _ (by kernel_rfl)]; exact laidMet_laidAll _ (by kernel_rfl) (by kernel_rfl))) ?_
  intro W base args ds gs before hval0 hW _ _ hL _
  have hval : ∀ (j : Nat) t v, Tryd.f5.params[j]? = some t → args[j]? = some v → Value.okWide Tryd.prog W .any base t v := hval0
  have hW' := hW
  obtain ⟨p, q, hA0, hV, rfl, _, _⟩ := hW
  have hA : DataW.TrodAll enc Tryd.prog W 0 (fun _ => true) true Tryd.f5.params.toList args.toList ds p := hA0
  rw [Tryd.params5] at hA hval
  obtain ⟨v0, v1, v2, d0, d1, d2, p0, p1, p2, rfl, rfl, rfl, h0, h1, h2⟩ := trodAll_three hA
  obtain ⟨rfl, rfl⟩ := trodVars_none hV
  obtain ⟨t, rfl, rfl, rfl, wt⟩ := open_int Tryd.underlying3 (hval 1 3 v1 rfl rfl) h1
  obtain ⟨oa, cap, B, O, xs, rfl, hxs, hcap, hn⟩ := lst_of (hval 0 22 v0 rfl rfl) h0
  obtain ⟨ob, capb, B', O', bs, rfl, hbs, hbn⟩ := lstb_of (hval 2 32 v2 rfl rfl) h2
  have hlt0 : ∀ x ∈ p0, x.block < W.heap.size := fun x hx => by simpa using hW'.lt x (by simp [hx])
  have hlt2 : ∀ x ∈ p2, x.block < W.heap.size := fun x hx => by simpa using hW'.lt x (by simp [hx])
  simp only [List.append_nil] at hW'
  rw [MakeChecks.laidMetH_plain _ _ _ (by kernel_rfl)] at hL
  refine (law (laid_met W hL) hxs hbs (lit64 wt) hn hcap hbn).mono fun e W' ⟨he, hb⟩ => ?_
  subst he
  have hargs0 := Below.trod (by kernel_rfl) (by kernel_rfl) (of_decide_eq_true (by kernel_rfl)) h0 hb hlt0
  have hargs2 := Below.trod (by kernel_rfl) (by kernel_rfl) (of_decide_eq_true (by kernel_rfl)) h2 hb hlt2
  exact ⟨_, rfl, _, _, _, [], p0 ++ ([] ++ p2), [], hW', trodAll_mk1 (shut_bool Tryd.underlying4 _), trodAll_mk3 hargs0 (shut_int Tryd.underlying3 wt) hargs2, rfl, hb.frame _, fun h => by cases h⟩
theorem over : Rows.codeInsideRow.holds Tryd.pinned (OpenSpec.ofChange Rows.codeInsideSpec) :=
  OpenClaim.holds_of_wide 5 Tryd.f5 rfl rfl rfl rfl rfl rfl rfl ⟨rfl, rfl, rfl, rfl, rfl⟩ rfl rfl rfl rfl rfl (by kernel_rfl) Tryd.func5 (by kernel_rfl)
    (of_decide_eq_true (by kernel_rfl)) (by unfold Func.isWrapper; first | (rw [if_pos (by decide +kernel)]; kernel_rfl) | (rw [if_neg (by decide +kernel)]; exact ⟨rfl, rfl⟩))
    (fun os started H enc _ => lifted os started H enc)
theorem proved : Rows.CodeInsideCardSaid :=
  Claim7.holds_tied_plain_at .later [] [.data, .data, .data] true (true, "7abd0002bc4a667ec958eb1064d949b687c8540c000e41d455896065a9830dfe") false over (fun _ h => by cases h) (by kernel_rfl) (fun _ h => by cases h) codeInside_row_tie rfl ⟨rfl, rfl⟩ (by kernel_rfl) rfl
    (fun f fn hf hfn => by
      obtain rfl : f = 5 := Option.some.inj ((show Tryd.prog.funcNamed "trefoil/trefoillaw04.CodeInside" = some 5 by kernel_rfl).symm.trans hf) |>.symm
      obtain rfl : fn = Tryd.f5 := (Option.some.inj (Tryd.func5.symm.trans hfn)).symm
      exact ⟨by kernel_rfl, fun j t ht => by
        rw [Tryd.params5] at ht
        have hm : t ∈ [22, 3, 32] := by simpa using Array.mem_of_getElem? ht
        have hall : ([22, 3, 32].all fun u => !Tryd.prog.wantsStandIn u) = true := by kernel_rfl
        exact (show Tryd.prog.wantsStandIn t = false by simpa using List.all_eq_true.1 hall t hm)⟩)
    (by kernel_rfl)
end Go.Proofs.YtgmdbpmookoafaaDoor.inside
