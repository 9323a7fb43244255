/-
  The small pool: contract.
-/
import Derived.Test.YtgbhmkdldfhamaaTxE
import Derived.Test.YtgbhmkdldfhamaaEvQe
namespace Go.Proofs.Ytgbhmkdldfhamaa.order
open Go.Ev Go.RowKit
set_option linter.unusedVariables false
noncomputable section
/-- A value is told by its symbol. -/
def Fun1 (φ : Phi) (x : VV) (v : Value) : Prop := ∀ y, VR φ x y → y = v
def FunL (φ : Phi) : List VV → List Value → Prop
  | [], [] => True
  | x :: xs, v :: vs => Fun1 φ x v ∧ FunL φ xs vs
  | _, _ => False
theorem FunL_at {φ : Phi} : ∀ {xs : List VV} {vs : List Value} {j : Nat} {v : Value}, FunL φ xs vs → vs[j]? = some v → ∃ x, xs[j]? = some x ∧ Fun1 φ x v
  | [], [], j, v, _, h => by simp at h
  | x :: xs, u :: vs, 0, v, h, hj => by
    cases hj
    exact ⟨x, rfl, h.1⟩
  | x :: xs, u :: vs, j + 1, v, h, hj => by
    obtain ⟨y, h1, h2⟩ := FunL_at h.2 (by simpa using hj)
    exact ⟨y, by simpa using h1, h2⟩
theorem cells_out {φ : Phi} {inf : Inf} {pre xs post : List VV} {g : Option Nat} {ro : Nat} {et : Option TypeId} {o' : Obj} {w : World} {vs : List Value} (hw : w.heap[inf.blk]? = some o') (hO : OR φ inf (.cells (pre ++ (xs ++ post)) g ro et) o') (hf : FunL φ xs vs) : CellsAt w inf.blk (inf.off + pre.length) vs := by
  obtain ⟨c', e, fr, rfl, hcr⟩ := hO
  refine ⟨get_lt hw, fun j v hj => ?_⟩
  obtain ⟨x, h1, h2⟩ := FunL_at hf hj
  have hlt : j < xs.length := (List.getElem?_eq_some_iff.1 h1).1
  obtain ⟨y, y1, y2⟩ := hcr.cell (pre.length + j) x (by rw [List.getElem?_append_right (by omega), Nat.add_sub_cancel_left, List.getElem?_append_left hlt]; exact h1)
  unfold World.cell?
  simp only [hw]
  rw [Nat.add_assoc, y1, h2 y y2]
  rfl
theorem fun_i {φ : Phi} (n : Int) : Fun1 φ (i8 n) (n64 n) := fun y h => i8V h
theorem fun_s {φ : Phi} (s : ByteArray) : Fun1 φ (.string s) (.string s) := fun y h => by simpa only [VR] using h
theorem fun_b {φ : Phi} (b : Bool) : Fun1 φ (.bool b) (.bool b) := fun y h => by simpa only [VR] using h
theorem fun_n {φ : Phi} : Fun1 φ (.slice none 0 0) (.slice none 0 0) := fun y h => by simpa only [VR] using h
theorem fun_l {φ : Phi} {k n c : Nat} {inf : Inf} (h : φ k = some inf) : Fun1 φ (.slice (some ⟨.loc k, 0⟩) n c) (.slice (some ⟨inf.blk, inf.off, none⟩) n (c + inf.slack)) := fun y hy => by
  simp only [VR, AR] at hy
  obtain ⟨a, sl, ⟨inf', h1, rfl, rfl⟩, rfl⟩ := hy
  rw [h] at h1
  cases h1
  rfl
theorem fun_card {φ : Phi} {nv : VV} {n : Value} {k p t y : Int} {av : VV} {a : Value} (hn : Fun1 φ nv n) (ha : Fun1 φ av a) : FunL φ (cardV nv k p t y av) (cardL n k p t y a) :=
  ⟨hn, fun_i k, fun_i 0, fun_i 0, fun_i 0, fun_i 0, fun_i 0, fun_i p, fun_i t, fun_i y, ha, trivial⟩
theorem fun_ab {φ : Phi} {who op a b : Int} : FunL φ (abV who op a b) (abL who op a b) :=
  ⟨fun_i 4, fun_i 0, fun_i who, fun_i 0, fun_i 0, fun_i 0, fun_i 0, fun_b false, fun_n, fun_n, fun_i op, fun_i a, fun_i b, trivial⟩
end
end Go.Proofs.Ytgbhmkdldfhamaa.order
namespace Go.Proofs.Ytgbhmkdldfhamaa.order
open Go.Ev Go.RowKit
set_option linter.unusedVariables false
noncomputable section
end
end Go.Proofs.Ytgbhmkdldfhamaa.order
namespace Go.Proofs.Ytgbhmkdldfhamaa.order
open Go.Ev Go.RowKit
set_option linter.unusedVariables false
noncomputable section
def s8 (i : Nat) : VV := .sint .u8 i
def plbody : Code := match Try.f16.body with | some c => c | none => .skip
/-! ### from the entry to the second loop -/
def plF : Nat → List Fact
  | 0 => [.len false (.sym 0) (si 2)]
  | k + 1 => plF k ++ [.at 1 (.sym 0) (i8 k) ⟨.sym (100 + k), 0⟩, .bin .rem (s8 (10 + k)) (.int .u8 4) (s8 (30 + k))]
def pliv (n : Nat) (m : Bool) : Ivs := [big1, big1, match m with | true => (11, 9223372036854775807) | false => ((n : Int), (n : Int))]
def plE (n : Nat) (m : Bool) : Env := ⟨fun _ => none, ivAt (pliv n m), plF n, fun i => match Nat.ble 100 i && Nat.blt i (100 + n) with | true => some [s8 (i - 90)] | false => none⟩
def plrun (n : Nat) (m : Bool) : Option SegO := seg (rcK Try.prog []) Try.f16.ntmps [1] 1000 plbody 0 [] (listT [.sym 0] 0 .lf) ⟨plE n m, .lf, 0⟩
def plob (k : Nat) : List VV := [i8 ((k : Int) + 1), si (30 + k), i8 0, i8 0, i8 2, .bool false, .bool false, .bool false, i8 0, i8 ((k : Int) + 1), i8 0, i8 0, .bool false, .slice none 0 0]
def plobs : Nat → List VV
  | 0 => []
  | k + 1 => plobs k ++ plob k
def plids : Nat → List VV
  | 0 => []
  | k + 1 => plids k ++ [i8 ((k : Int) + 1)]
def oneVV : VV → Bool
  | .int _ _ => true
  | .bool _ => true
  | .slice _ _ _ => true
  | .sint _ _ => true
  | _ => false
def slV (n k : Nat) : VV := match n with
  | 0 => .slice none 0 0
  | n + 1 => .slice (some ⟨.loc k, 0⟩) (n + 1) (n + 1)
def allOne : List VV → Bool
  | [] => true
  | x :: l => match oneVV x with
    | true => allOne l
    | false => false
def atV (l : List VV) (k : Nat) (x : VV) : Bool := match lget l k with
  | some y => vvEq y x
  | none => false
def blkV (H : VH) (k g : Nat) (l : List VV) : Bool := match H.locs.get k with
  | some (.cells c (some g') 0 _) => match Nat.beq g g' with
    | true => vvsEq c l
    | false => false
  | _ => false
/-- What is found at the second loop. -/
def plfin (n : Nat) : Option SegO → Bool
  | some (.cut t a H) => match Nat.beq t 1, keepL a [(0, .sym 0), (2, .ptr (some ⟨.loc 0, 0⟩)), (5, .ptr (some ⟨.loc (6 * n + 4), 0⟩)), (6, i8 0)], H.locs.get 0, H.locs.get (6 * n + 4) with
    | true, true, some (.cells c2 none 0 _), some (.cells c5 none 0 _) => match Nat.beq c2.length 25, Nat.beq c5.length 25, allOne c5, atV c5 1 (slV n (6 * n + 1)), atV c5 6 (slV n (6 * n + 3)) with
      | true, true, true, true, true => match n with
        | 0 => true
        | n + 1 => match blkV H (6 * (n + 1) + 1) 14 (plobs (n + 1)), blkV H (6 * (n + 1) + 3) 1 (plids (n + 1)) with
          | true, true => true
          | _, _ => false
      | _, _, _, _, _ => false
    | _, _, _, _ => false
  | _ => false
def plall : Nat → Bool
  | 0 => true
  | n + 1 => match plall n with
    | true => plfin n (plrun n false)
    | false => false
/-! ### a round -/
def symsV : Nat → Nat → List VV
  | 0, _ => []
  | n + 1, k => .sym k :: symsV n (k + 1)
def plst : List VV := symsV 25 20
def rdF (n i : Nat) : List Fact := [.at 1 (.sym 0) (i8 i) ⟨.sym 100, 0⟩, .len false (.sym 21) (i8 n), .win 14 (.sym 21) (i8 i) 0 (14 * i), .bin .shr (s8 10) (.int .u64 2) (s8 11), .bin .rem (s8 11) (.int .u8 2) (s8 12),
  .bin .shr (s8 10) (.int .u64 3) (s8 14), .bin .rem (s8 14) (.int .u8 2) (s8 15), .bin .shr (s8 10) (.int .u64 4) (s8 16), .bin .rem (s8 16) (.int .u8 4) (s8 17), .bin .add (i8 1) (si 17) (si 19), .bin .shr (s8 10) (.int .u64 6) (s8 20)]
def rdiv (b : Bool) : Ivs := manyI 15 ++ [match b with | true => ((1 : Int), (1 : Int)) | false => ((0 : Int), (0 : Int))]
def rdB (i : Nat) : Option (List VV) := match i with
  | 5 => some plst
  | 100 => some [s8 10]
  | _ => none
def rdE (n i : Nat) (b : Bool) : Env := ⟨fun _ => none, ivAt (rdiv b), rdF n i, rdB⟩
def rdK (i : Int) : List (Nat × VV) := [(0, .sym 0), (2, .ptr (some ⟨.sym 2, 0⟩)), (5, .ptr (some ⟨.sym 5, 0⟩)), (6, i8 i)]
def rdsy (n : Nat) : List VV := symsV (14 * n) 1000
def rdrun (n i : Nat) (b : Bool) : Option SegO := match ctx 1 plbody 0 [] with
  | some (c, K) => seg (rcK Try.prog []) Try.f16.ntmps [1] 1000 c 2 (.lp c 1 :: K) (mkT Try.f16.ntmps (rdK i)) ⟨rdE n i b, .nd .lf (some (.cells (rdsy n) (some 14) 0 none)) .lf, 1⟩
  | none => none
def rdnew (n i : Nat) (b : Bool) : List VV := match b with
  | true => (((rdsy n).set (14 * i + 3) (si 12)).set (14 * i + 9) (i8 (1 + (((i * 7) % 11 : Nat) : Int)))).set (14 * i + 13) (.slice (some ⟨.loc 1, 0⟩) 1 1)
  | false => ((rdsy n).set (14 * i + 3) (si 12)).set (14 * i + 9) (i8 (1 + (((i * 7) % 11 : Nat) : Int)))
def rdeff (i : Nat) : List VV := [si 19, si 20, i8 1, i8 (20 + (i : Int))]
def rdfin (n i : Nat) (b : Bool) : Option SegO → Bool
  | some (.cut t a H) => match Nat.beq t 1, keepL a (rdK ((i : Int) + 1)), H.locs.get 0 with
    | true, true, some (.cells c (some 14) 0 _) => match vvsEq c (rdnew n i b) with
      | true => match b, H.locs.get 1 with
        | true, some (.cells ce none 0 _) => vvsEq ce (rdeff i)
        | false, _ => true
        | _, _ => false
      | false => false
    | _, _, _ => false
  | _ => false
def rdall1 (n : Nat) : Nat → Bool
  | 0 => true
  | i + 1 => match rdall1 n i with
    | true => match rdfin n i true (rdrun n i true) with
      | true => rdfin n i false (rdrun n i false)
      | false => false
    | false => false
def rdall : Nat → Bool
  | 0 => true
  | n + 1 => match rdall n with
    | true => rdall1 (n + 1) (n + 1)
    | false => false
/-! ### the end -/
def plxE (n : Nat) : Env := ⟨fun _ => none, ivAt [], [.len false (.sym 21) (i8 n)], fun i => match i with | 5 => some plst | _ => none⟩
def plxrun (n : Nat) : Option SegO := match ctx 1 plbody 0 [] with
  | some (c, K) => seg (rcK Try.prog []) Try.f16.ntmps [1] 1000 c 2 (.lp c 1 :: K) (mkT Try.f16.ntmps [(2, .ptr (some ⟨.loc 0, 0⟩)), (5, .ptr (some ⟨.sym 5, 0⟩)), (6, i8 n)]) ⟨plxE n, .nd .lf (some (.cells (anyT 25) none 0 none)) .lf, 1⟩
  | none => none
def plxfin : Option SegO → Bool
  | some (.out .ret a H) => match resL Try.prog a H Try.f16.results.toList with
    | some [.agg l] => vvsEq l plst
    | _ => false
  | _ => false
def plxall : Nat → Bool
  | 0 => true
  | n + 1 => match plxall n with
    | true => plxfin (plxrun n)
    | false => false
theorem plallT : plall 11 = true := by kernel_rfl
theorem plmanyT : plfin 10 (plrun 10 true) = true := by kernel_rfl
theorem rdallT : rdall 10 = true := by kernel_rfl
theorem plxallT : plxall 11 = true := by kernel_rfl
end
end Go.Proofs.Ytgbhmkdldfhamaa.order
namespace Go.Proofs.Ytgbhmkdldfhamaa.order
open Go.Ev Go.RowKit
set_option linter.unusedVariables false
noncomputable section
/-- A list of small numbers in memory. -/
structure PlIn where
  L : List Int
  oa : Option Addr
  ca : Nat
  B : Nat
  O : Nat
structure PlIn.OK (g : PlIn) (w : World) : Prop where
  n : g.L.length ≤ 9223372036854775807
  fit : ∀ x ∈ g.L, 0 ≤ x ∧ x ≤ 255
  cl : ∀ i x, g.L[i]? = some x → g.oa = some ⟨g.B, g.O, none⟩ ∧ g.B < w.heap.size ∧ w.cell? ⟨g.B, g.O + i, none⟩ = some (.int .u8 x)
def PlIn.v (g : PlIn) : Value := .slice g.oa g.L.length g.ca
def PlIn.x (g : PlIn) (k : Nat) : Int := g.L.getD k 0
def PlIn.m (g : PlIn) : Nat := min g.L.length 10
theorem PlIn.OK.later {g : PlIn} {w w' : World} (h : g.OK w) (hs : w.heap.size ≤ w'.heap.size) (hb : ∀ k, k < w.heap.size → w'.heap[k]? = w.heap[k]?) : g.OK w' :=
  ⟨h.n, h.fit, fun i x hx => by
    obtain ⟨g1, g2, g3⟩ := h.cl i x hx
    refine ⟨g1, by omega, ?_⟩
    rw [← g3]
    unfold World.cell?
    rw [hb _ g2]⟩
theorem PlIn.OK.x_fit {g : PlIn} {w : World} (h : g.OK w) (k : Nat) : 0 ≤ g.x k ∧ g.x k ≤ 255 := by
  unfold PlIn.x
  rw [List.getD_eq_getElem?_getD]
  cases hx : g.L[k]? with
  | none => exact ⟨by show (0 : Int) ≤ 0; omega, by show (0 : Int) ≤ 255; omega⟩
  | some e => exact h.fit e (List.mem_of_getElem? hx)
theorem PlIn.OK.at {g : PlIn} {w : World} (h : g.OK w) {k : Nat} (hk : k < g.L.length) : g.oa = some ⟨g.B, g.O, none⟩ ∧ g.B < w.heap.size ∧ w.cell? ⟨g.B, g.O + k, none⟩ = some (.int .u8 (g.x k)) :=
  h.cl k _ (by
    unfold PlIn.x
    rw [List.getD_eq_getElem?_getD, List.getElem?_eq_getElem hk]
    rfl)
/-- Where all lies. -/
structure PlG where
  b2 : Nat
  o2 : Nat
  b5 : Nat
  o5 : Nat
  bo : Nat
  oo : Nat
  co : Nat
  bf : Nat
  fo : Nat
  cf : Nat
  sv : Nat → Value
def PlG.osV (p : PlG) (n : Nat) : Value := match n with
  | 0 => .slice none 0 0
  | n + 1 => .slice (some ⟨p.bo, p.oo, none⟩) (n + 1) p.co
def PlG.fsV (p : PlG) (n : Nat) : Value := match n with
  | 0 => .slice none 0 0
  | n + 1 => .slice (some ⟨p.bf, p.fo, none⟩) (n + 1) p.cf
def PlG.st (p : PlG) (n j : Nat) : Value := if j = 1 then p.osV n else if j = 6 then p.fsV n else p.sv j
structure PlG.OK (p : PlG) (n : Nat) (w0 : World) : Prop where
  one : ∀ j, (p.sv j).oneCell' = true
  n2 : w0.heap.size ≤ p.b2
  n5 : w0.heap.size ≤ p.b5
  n25 : p.b2 ≠ p.b5
  nf : 0 < n → w0.heap.size ≤ p.bf
  no : 0 < n → w0.heap.size ≤ p.bo
  n2o : 0 < n → p.b2 ≠ p.bo
  n5o : 0 < n → p.b5 ≠ p.bo
  nfo : 0 < n → p.bf ≠ p.bo
  n2f : 0 < n → p.b2 ≠ p.bf
  cap : 0 < n → n ≤ p.co
theorem PlG.OK.st_one {p : PlG} {n : Nat} {w0 : World} (h : p.OK n w0) (j : Nat) : (p.st n j).oneCell' = true := by
  unfold PlG.st PlG.osV PlG.fsV
  split
  · split <;> rfl
  split
  · split <;> rfl
  · exact h.one j
def EfAt (p : PlG) (w0 : World) (x : Int) (k : Nat) (v : Value) (w : World) : Prop :=
  (x / 8 % 2 ≠ 1 ∧ v = .slice none 0 0) ∨ (x / 8 % 2 = 1 ∧ ∃ B O, v = .slice (some ⟨B, O, none⟩) 1 1 ∧ w0.heap.size ≤ B ∧ B ≠ p.bo ∧ B ≠ p.b2 ∧ B ≠ p.bf ∧ CellsAt w B O [n64 (1 + x / 16 % 4), n64 (x / 64), n64 1, n64 (20 + (k : Int))])
def plSt (k : Nat) : Int := 1 + ((k * 7 % 11 : Nat) : Int)
structure PlM (g : PlIn) (p : PlG) (w0 : World) (i : Nat) (cs : List Value) (w : World) : Prop where
  wk : WK w0 w
  same : ∀ k, k < w0.heap.size → w.heap[k]? = w0.heap[k]?
  m2 : ∃ c e fr, w.heap[p.b2]? = some (.cells c e fr) ∧ fr.2 ≤ p.o2 ∧ p.o2 + 25 ≤ c.size
  l5 : p.b5 < w.heap.size
  m5 : ∀ j, j < 25 → w.cell? ⟨p.b5, p.o5 + j, none⟩ = some (p.st g.m j)
  mf : ∀ k, k < g.m → p.bf < w.heap.size ∧ w.cell? ⟨p.bf, p.fo + k, none⟩ = some (n64 ((k : Int) + 1))
  mfr : 0 < g.m → ∃ c e fr, w.heap[p.bf]? = some (.cells c e fr) ∧ fr.2 ≤ p.fo ∧ p.fo + g.m ≤ c.size
  mo : 0 < g.m → ∃ c e fr, w.heap[p.bo]? = some (.cells c e fr) ∧ fr.2 ≤ p.oo ∧ p.oo + 14 * p.co ≤ c.size ∧ ∀ q v, cs[q]? = some v → c[p.oo + q]? = some v
  len : cs.length = 14 * g.m
  one : ∀ v ∈ cs, v.oneCell' = true
  ob : ∀ k, k < g.m → cs[14 * k]? = some (n64 ((k : Int) + 1)) ∧ cs[14 * k + 1]? = some (n64 (g.x k % 4))
  done : ∀ k, k < i → k < g.m → cs[14 * k + 3]? = some (n64 (g.x k / 4 % 2)) ∧ cs[14 * k + 9]? = some (n64 (plSt k)) ∧ ∃ v, cs[14 * k + 13]? = some v ∧ EfAt p w0 (g.x k) k v w
  todo : ∀ k, i ≤ k → k < g.m → cs[14 * k + 13]? = some (.slice none 0 0)
structure IsPl (g : PlIn) (p : PlG) (i : Nat) (act : Act) : Prop where
  sz : act.tmps.size = Try.f16.ntmps
  df : act.defers = []
  t0 : act.tmps.getD 0 undef = g.v
  t2 : act.tmps.getD 2 undef = .pointer (some ⟨p.b2, p.o2, none⟩)
  t5 : act.tmps.getD 5 undef = .pointer (some ⟨p.b5, p.o5, none⟩)
  t6 : act.tmps.getD 6 undef = .int .i64 i
theorem nt16 : Try.f16.ntmps ≤ top := Nat.le_of_ble_eq_true (by kernel_rfl)
/-! ### symbols of a round -/
def rdint (x : Int) : Nat → Int
  | 10 => x
  | 11 => x / 4
  | 12 => x / 4 % 2
  | 14 => x / 8
  | 15 => x / 8 % 2
  | 16 => x / 16
  | 17 => x / 16 % 4
  | 19 => 1 + x / 16 % 4
  | 20 => x / 64
  | _ => 0
def rdval (g : PlIn) (p : PlG) (cs : List Value) (k : Nat) : Value := if k = 0 then g.v else if k < 1000 then p.st g.m (k - 20) else cs.getD (k - 1000) (.bool false)
def rdrho (g : PlIn) (p : PlG) (i : Nat) (cs : List Value) (h1 : ∀ j, (p.st g.m j).oneCell' = true) (h2 : ∀ v ∈ cs, v.oneCell' = true) : Rho where
  int := rdint (g.x i)
  val := rdval g p cs
  blk k := if k = 2 then p.b2 else if k = 5 then p.b5 else g.B
  off k := if k = 2 then p.o2 else if k = 5 then p.o5 else g.O + i
  one k := by
    show (rdval g p cs k).oneCell' = true
    unfold rdval
    split
    · rfl
    split
    · exact h1 _
    · rw [List.getD_eq_getElem?_getD]
      cases hx : cs[k - 1000]? with
      | none => rfl
      | some v => exact h2 v (List.mem_of_getElem? hx)
  lst _ := []
  lcl _ _ h := by cases h
theorem fact_remN {ρ : Rho} {k : IntKind} {i j : Nat} {m : Int} (hm : 0 < m) (hi : 0 ≤ ρ.int i) (hj : ρ.int j = ρ.int i % m) : FactOK ρ (.bin .rem (.sint k i) (.int k m) (.sint k j)) :=
  fact_rem (a := ρ.int i) (b := m) rfl rfl (by omega) (by simp only [sval, hj, Int.tmod_eq_emod_of_nonneg hi])
theorem fact_shr {ρ : Rho} {k : IntKind} {i j : Nat} {c : Nat} {m : Int} (hm : m = 2 ^ c) (hc : c ≤ k.bits) (hi : 0 ≤ ρ.int i) (hj : ρ.int j = ρ.int i / m) : FactOK ρ (.bin .shr (.sint k i) (.int .u64 (c : Int)) (.sint k j)) := by
  refine ⟨_, _, _, rfl, rfl, rfl, by simp, by simp, fun P t w => ?_⟩
  have e : min ((c : Int).toNat) k.bits = c := by simp; omega
  have e2 : (ρ.int i).fdiv m = ρ.int i / m := Int.fdiv_eq_ediv_of_nonneg _ (by rw [hm]; exact Int.le_of_lt (Int.pow_pos (by omega)))
  unfold binOp
  show (Op.shift .shr k (ρ.int i) .u64 (c : Int)).run P w = _
  unfold Op.shift
  rw [if_neg (by omega)]
  simp only [e]
  rw [hj, ← e2, hm]
  rfl
theorem w64_id {n : Int} (h1 : -9223372036854775808 ≤ n) (h2 : n ≤ 9223372036854775807) : IntKind.i64.wrap n = n := by rw [IntKind.wrap_i64]; omega
theorem fact_addL {ρ : Rho} {i j : Nat} {z : Int} (h : ρ.int j = z + ρ.int i) (h1 : -9223372036854775808 ≤ ρ.int j) (h2 : ρ.int j ≤ 9223372036854775807) : FactOK ρ (.bin .add (.int .i64 z) (.sint .i64 i) (.sint .i64 j)) := by
  refine ⟨_, _, _, rfl, rfl, rfl, by simp, by simp, fun P t w => ?_⟩
  have e : IntKind.i64.wrap (z + ρ.int i) = ρ.int j := by
    rw [← h]
    exact w64_id h1 h2
  simp [binOp, Op.intArith, e]
theorem symsV_get : ∀ {n k j : Nat}, j < n → (symsV n k)[j]? = some (.sym (k + j))
  | 0, k, j, h => by omega
  | n + 1, k, 0, _ => by simp [symsV]
  | n + 1, k, j + 1, h => by
    simp only [symsV, List.getElem?_cons_succ]
    rw [symsV_get (by omega)]
    congr 2
    omega
theorem symsV_len : ∀ {n k : Nat}, (symsV n k).length = n
  | 0, k => rfl
  | n + 1, k => by simp [symsV, symsV_len]
theorem FunL.set {φ : Phi} {x : VV} {v : Value} (h1 : Fun1 φ x v) : ∀ {xs : List VV} {vs : List Value} {k : Nat}, FunL φ xs vs → FunL φ (xs.set k x) (vs.set k v)
  | [], [], k, h => by simp [FunL]
  | y :: xs, u :: vs, 0, h => ⟨h1, h.2⟩
  | y :: xs, u :: vs, k + 1, h => ⟨h.1, FunL.set h1 h.2⟩
  | [], _ :: _, _, h => h.elim
  | _ :: _, [], _, h => h.elim
theorem FunL_syms {φ : Phi} : ∀ {vs : List Value} {k : Nat}, (∀ j v, vs[j]? = some v → φ.ρ.val (k + j) = v) → FunL φ (symsV vs.length k) vs
  | [], k, _ => trivial
  | v :: vs, k, h => ⟨fun y hy => by
      simp only [VR] at hy
      rw [hy]
      exact h 0 v rfl, FunL_syms fun j u hu => by
      rw [show k + 1 + j = k + (j + 1) by omega]
      exact h (j + 1) u (by simpa using hu)⟩
theorem set_ne {α : Type} {l : List α} {a q : Nat} {v : α} (h : a ≠ q) : (l.set a v)[q]? = l[q]? := by
  rw [List.getElem?_set, if_neg h]
theorem set_eq {α : Type} {l : List α} {a q : Nat} {v : α} (h : a = q) (hq : q < l.length) : (l.set a v)[q]? = some v := by
  rw [List.getElem?_set, if_pos h, if_pos (by omega)]
theorem rdall_at : ∀ {m n : Nat}, rdall m = true → n < m → rdall1 (n + 1) (n + 1) = true
  | 0, n, _, h => by omega
  | m + 1, n, h, hn => by
    simp only [rdall] at h
    split at h
    · rename_i h1
      by_cases e : n = m
      · rw [e]; exact h
      · exact rdall_at h1 (by omega)
    · cases h
theorem rdall1_at {n : Nat} : ∀ {m i : Nat}, rdall1 n m = true → i < m → ∀ b, rdfin n i b (rdrun n i b) = true
  | 0, i, _, h, _ => by omega
  | m + 1, i, h, hi, b => by
    simp only [rdall1] at h
    split at h
    · rename_i h1
      split at h
      · rename_i h2
        by_cases e : i = m
        · subst e
          cases b
          · exact h
          · exact h2
        · exact rdall1_at h1 (by omega) b
      · cases h
    · cases h
theorem rd_chk {n i : Nat} (hn : n ≤ 10) (hi : i < n) (b : Bool) : rdfin n i b (rdrun n i b) = true := by
  have := rdall_at rdallT (n := n - 1) (by omega)
  rw [show n - 1 + 1 = n by omega] at this
  exact rdall1_at this hi b
theorem rd_of {n i : Nat} {b : Bool} {o : Option SegO} (h : rdfin n i b o = true) : ∃ a H et, o = some (.cut 1 a H) ∧ keepL a (rdK ((i : Int) + 1)) = true ∧ H.locs.get 0 = some (.cells (rdnew n i b) (some 14) 0 et) ∧ (b = true → ∃ et', H.locs.get 1 = some (.cells (rdeff i) none 0 et')) := by
  unfold rdfin at h
  split at h
  · rename_i t a H
    split at h
    · rename_i c et h1 h2 h3
      split at h
      · rename_i h4
        rw [vvsEq_eq _ _ h4] at h3
        refine ⟨a, H, et, by rw [Nat.eq_of_beq_eq_true h1], h2, h3, fun hb => ?_⟩
        subst hb
        split at h
        · rename_i ce et' _ h5
          rw [vvsEq_eq _ _ h] at h5
          exact ⟨et', h5⟩
        · rename_i hf
          cases hf
        · cases h
      · cases h
    · cases h
  · cases h
end
end Go.Proofs.Ytgbhmkdldfhamaa.order
namespace Go.Proofs.Ytgbhmkdldfhamaa.order
open Go.Ev Go.RowKit
set_option linter.unusedVariables false
noncomputable section
section
variable {w0 w : World} {g : PlIn} {p : PlG} {i : Nat} {cs : List Value}
theorem rdint_fits {x : Int} (h0 : 0 ≤ x) (h1 : x ≤ 255) (k : Nat) : I64 (rdint x k) := by
  unfold rdint I64
  split <;> omega
theorem rd_iv {h1 : ∀ j, (p.st g.m j).oneCell' = true} {h2 : ∀ v ∈ cs, v.oneCell' = true} (h : g.OK w0) : IvOK (rdiv (decide (g.x i / 8 % 2 = 1))) (rdrho g p i cs h1 h2) := by
  obtain ⟨x0, x1⟩ := h.x_fit i
  have f := rdint_fits x0 x1
  refine iv_all (f := rdint (g.x i)) ?_ f
  unfold rdiv
  simp only [manyI, List.cons_append, List.nil_append]
  refine ⟨f 0, f 1, f 2, f 3, f 4, f 5, f 6, f 7, f 8, f 9, f 10, f 11, f 12, f 13, f 14, ?_, trivial⟩
  show _ ≤ g.x i / 8 % 2 ∧ g.x i / 8 % 2 ≤ _
  by_cases e : g.x i / 8 % 2 = 1
  · rw [decide_eq_true e]
    exact ⟨by show (1 : Int) ≤ _; omega, by show _ ≤ (1 : Int); omega⟩
  · rw [decide_eq_false e]
    exact ⟨by show (0 : Int) ≤ _; omega, by show _ ≤ (0 : Int); omega⟩
theorem osV_pos (hi : i < g.m) : p.osV g.m = .slice (some ⟨p.bo, p.oo, none⟩) g.m p.co := by
  cases hm : g.m with
  | zero => omega
  | succ n => rfl
theorem m_le : g.m ≤ g.L.length := Nat.min_le_left _ _
theorem m_10 : g.m ≤ 10 := Nat.min_le_right _ _
theorem rd_env (h : g.OK w0) (hp : p.OK g.m w0) (hm : PlM g p w0 i cs w) (hi : i < g.m) {S : Nat → Prop} : @EnvOK (XK Try.prog [] S) (rdE g.m i (decide (g.x i / 8 % 2 = 1))) ⟨oneF ⟨p.bo, p.oo, p.co - g.m⟩, rdrho g p i cs hp.st_one hm.one⟩ (less w p.bo) := by
  obtain ⟨x0, x1⟩ := h.x_fit i
  have hml := m_le (g := g)
  have h10 := m_10 (g := g)
  obtain ⟨a1, a2, a3⟩ := h.at (k := i) (by omega)
  have no := hp.no (by omega)
  have hsz := hm.wk.size
  let ρ := rdrho g p i cs hp.st_one hm.one
  refine @EnvOK.mk (XK Try.prog [] S) _ _ _ (fun e he => by cases he) (rd_iv (h1 := hp.st_one) (h2 := hm.one) h) ?_ ?_
  · intro f hf
    have v21 : sval ρ (.sym 21) = some (.slice (some ⟨p.bo, p.oo, none⟩) g.m p.co) := by
      simp only [sval]
      rw [← osV_pos hi]
      rfl
    simp only [rdE, rdF, List.mem_cons, List.not_mem_nil, or_false] at hf
    rcases hf with rfl | rfl | rfl | rfl | rfl | rfl | rfl | rfl | rfl | rfl | rfl
    · exact FactOK.w (fact_atC (n := i) (B := g.B) (O := g.O) (l := g.L.length) (c := g.ca) (a := g.oa) rfl a1 (by omega) rfl (by show g.O + i = g.O + i * 1; omega))
    · exact FactOK.w ⟨_, g.m, v21, ⟨_, _, rfl⟩, rfl⟩
    · exact ⟨⟨p.bo, p.oo, none⟩, g.m, p.co, .i64, i, ⟨p.bo, p.oo, p.co - g.m⟩, v21, rfl, rfl, by omega, by omega, rfl, rfl, by show p.oo + 14 * i = p.oo + ((i : Int)).toNat * 14; omega⟩
    · exact FactOK.w (fact_shr (c := 2) (m := 4) (by decide) (by decide) x0 rfl)
    · exact FactOK.w (fact_remN (by omega) (by show 0 ≤ g.x i / 4; omega) rfl)
    · exact FactOK.w (fact_shr (c := 3) (m := 8) (by decide) (by decide) x0 rfl)
    · exact FactOK.w (fact_remN (by omega) (by show 0 ≤ g.x i / 8; omega) rfl)
    · exact FactOK.w (fact_shr (c := 4) (m := 16) (by decide) (by decide) x0 rfl)
    · exact FactOK.w (fact_remN (by omega) (by show 0 ≤ g.x i / 16; omega) rfl)
    · exact FactOK.w (fact_addL rfl (by show _ ≤ 1 + g.x i / 16 % 4; omega) (by show 1 + g.x i / 16 % 4 ≤ _; omega))
    · exact FactOK.w (fact_shr (c := 6) (m := 64) (by decide) (by decide) x0 rfl)
  · intro k c hk
    simp only [rdE, rdB] at hk
    split at hk
    · cases hk
      refine ⟨by rw [less_size]; exact hm.l5, fun j x hx => ?_⟩
      have hj : j < 25 := by
        have := (List.getElem?_eq_some_iff.1 hx).1
        unfold plst at this
        rw [symsV_len] at this
        exact this
      unfold plst at hx
      rw [symsV_get hj] at hx
      cases hx
      refine ⟨_, cell_less (hm.m5 j hj) (hp.n5o (by omega)), ?_⟩
      simp only [VR]
      show _ = rdval g p cs (20 + j)
      unfold rdval
      rw [if_neg (by omega), if_pos (by omega), Nat.add_sub_cancel_left]
    · cases hk
      refine ⟨by rw [less_size]; show g.B < _; omega, fun j x hx => ?_⟩
      match j with
      | 0 =>
        cases hx
        have hc : w.cell? ⟨g.B, g.O + i, none⟩ = some (.int .u8 (g.x i)) := by
          rw [← a3]
          unfold World.cell?
          rw [hm.same _ a2]
        exact ⟨.int .u8 (g.x i), cell_less hc (show g.B ≠ p.bo by omega), by simp only [s8, VR]; rfl⟩
      | j + 1 => simp at hx
    · cases hk
/-- The list behind a round. -/
def csR (g : PlIn) (i : Nat) (cs : List Value) (v : Option Value) : List Value :=
  match v with
  | some v => ((cs.set (14 * i + 3) (n64 (g.x i / 4 % 2))).set (14 * i + 9) (n64 (plSt i))).set (14 * i + 13) v
  | none => (cs.set (14 * i + 3) (n64 (g.x i / 4 % 2))).set (14 * i + 9) (n64 (plSt i))
theorem csR_len {v : Option Value} : (csR g i cs v).length = cs.length := by
  unfold csR
  cases v <;> simp
theorem csR_other {v : Option Value} {q : Nat} (h3 : q ≠ 14 * i + 3) (h9 : q ≠ 14 * i + 9) (h13 : q ≠ 14 * i + 13) : (csR g i cs v)[q]? = cs[q]? := by
  unfold csR
  cases v with
  | none => simp only []; rw [set_ne (by omega), set_ne (by omega)]
  | some v => simp only []; rw [set_ne (by omega), set_ne (by omega), set_ne (by omega)]
theorem csR_3 {v : Option Value} (h : 14 * i + 13 < cs.length) : (csR g i cs v)[14 * i + 3]? = some (n64 (g.x i / 4 % 2)) := by
  unfold csR
  cases v with
  | none => simp only []; rw [set_ne (by omega), set_eq rfl (by omega)]
  | some v => simp only []; rw [set_ne (by omega), set_ne (by omega), set_eq rfl (by omega)]
theorem csR_9 {v : Option Value} (h : 14 * i + 13 < cs.length) : (csR g i cs v)[14 * i + 9]? = some (n64 (plSt i)) := by
  unfold csR
  cases v with
  | none => simp only []; rw [set_eq rfl (by simp; omega)]
  | some v => simp only []; rw [set_ne (by omega), set_eq rfl (by simp; omega)]
theorem csR_13 {v : Option Value} (h : 14 * i + 13 < cs.length) : (csR g i cs v)[14 * i + 13]? = match v with | some v => some v | none => cs[14 * i + 13]? := by
  unfold csR
  cases v with
  | none => simp only []; rw [set_ne (by omega), set_ne (by omega)]
  | some v => simp only []; rw [set_eq rfl (by simp; omega)]
theorem csR_one {v : Option Value} (h : ∀ u ∈ cs, u.oneCell' = true) (hv : ∀ u, v = some u → u.oneCell' = true) : ∀ u ∈ csR g i cs v, u.oneCell' = true := by
  intro u hu
  have base : ∀ u ∈ (cs.set (14 * i + 3) (n64 (g.x i / 4 % 2))).set (14 * i + 9) (n64 (plSt i)), u.oneCell' = true := fun u hu => by
    rcases List.mem_or_eq_of_mem_set hu with hu | rfl
    · rcases List.mem_or_eq_of_mem_set hu with hu | rfl
      · exact h u hu
      · rfl
    · rfl
  unfold csR at hu
  cases v with
  | none => exact base u hu
  | some v =>
    rcases List.mem_or_eq_of_mem_set hu with hu | rfl
    · exact base u hu
    · exact hv _ rfl
theorem rdsy_get {j : Nat} (hj : j < 14 * g.m) : (rdsy g.m)[j]? = some (.sym (1000 + j)) := symsV_get hj
theorem csR_fun {φ : Phi} (h : g.OK w0) (hp : p.OK g.m w0) (hm : PlM g p w0 i cs w) (hφ : φ.ρ = rdrho g p i cs hp.st_one hm.one) {b : Bool} {v : Option Value} (hb : match b, v with | true, some v => Fun1 φ (.slice (some ⟨.loc 1, 0⟩) 1 1) v | false, none => True | _, _ => False) : FunL φ (rdnew g.m i b) (csR g i cs v) := by
  have h0 : FunL φ (rdsy g.m) cs := by
    have := FunL_syms (φ := φ) (vs := cs) (k := 1000) fun j v hj => by
      rw [hφ]
      show rdval g p cs (1000 + j) = v
      unfold rdval
      rw [if_neg (by omega), if_neg (by omega), Nat.add_sub_cancel_left, List.getD_eq_getElem?_getD, hj]
      rfl
    rw [hm.len] at this
    exact this
  have h3 : Fun1 φ (si 12) (n64 (g.x i / 4 % 2)) := fun y hy => by
    simp only [si, VR, hφ] at hy
    exact hy
  have h9 : Fun1 φ (i8 (1 + (((i * 7) % 11 : Nat) : Int))) (n64 (plSt i)) := fun y hy => by
    simp only [i8, VR] at hy
    exact hy
  cases b with
  | false => cases v with
    | none => exact (h0.set h3).set h9
    | some v => exact hb.elim
  | true => cases v with
    | none => exact hb.elim
    | some v => exact ((h0.set h3).set h9).set hb
theorem PlM.round {w' : World} {v : Option Value} (h : g.OK w0) (hp : p.OK g.m w0) (hm : PlM g p w0 i cs w) (hi : i < g.m) (hwk : WK w w') (hsame : ∀ k, k < w.heap.size → k ≠ p.bo → w'.heap[k]? = w.heap[k]?)
    (hmo : ∃ c e fr, w'.heap[p.bo]? = some (.cells c e fr) ∧ fr.2 ≤ p.oo ∧ p.oo + 14 * p.co ≤ c.size ∧ ∀ q v', (csR g i cs v)[q]? = some v' → c[p.oo + q]? = some v') (hv : ∀ u, v = some u → u.oneCell' = true) (he : EfAt p w0 (g.x i) i (v.getD (.slice none 0 0)) w') : PlM g p w0 (i + 1) (csR g i cs v) w' := by
  have no := hp.no (by omega)
  have hsz := hm.wk.size
  have hlen := hm.len
  have n2o := hp.n2o (by omega)
  have keep : ∀ {a : Addr} {u : Value}, a.block < w.heap.size → a.block ≠ p.bo → w.cell? a = some u → w'.cell? a = some u := fun {a u} h1 h2 h3 => by
    rw [← h3]
    unfold World.cell?
    rw [hsame _ h1 h2]
  refine ⟨hm.wk.trans hwk, fun k hk => ?_, ?_, ?_, fun j hj => keep hm.l5 (hp.n5o (by omega)) (hm.m5 j hj), fun k hk => ?_, fun h0 => ?_, fun _ => hmo, by rw [csR_len]; exact hlen, csR_one hm.one hv, fun k hk => ?_, fun k hk hkm => ?_, fun k hk hkm => ?_⟩
  · rw [hsame k (by omega) (by omega), hm.same k hk]
  · obtain ⟨c, e, fr, h1, h2⟩ := hm.m2
    exact ⟨c, e, fr, by rw [hsame _ (get_lt h1) n2o]; exact h1, h2⟩
  · exact Nat.lt_of_lt_of_le hm.l5 hwk.size
  · obtain ⟨h1, h2⟩ := hm.mf k hk
    exact ⟨Nat.lt_of_lt_of_le h1 hwk.size, keep h1 (hp.nfo (by omega)) h2⟩
  · obtain ⟨c, e, fr, h1, h2⟩ := hm.mfr h0
    exact ⟨c, e, fr, by rw [hsame _ (get_lt h1) (hp.nfo h0)]; exact h1, h2⟩
  · obtain ⟨h1, h2⟩ := hm.ob k hk
    rw [csR_other (by omega) (by omega) (by omega), csR_other (by omega) (by omega) (by omega)]
    exact ⟨h1, h2⟩
  · by_cases e : k = i
    · subst e
      refine ⟨csR_3 (by omega), csR_9 (by omega), v.getD (.slice none 0 0), ?_, he⟩
      rw [csR_13 (by omega)]
      cases v with
      | some v => rfl
      | none => exact hm.todo k (Nat.le_refl _) hkm
    · obtain ⟨h1, h2, u, h3, h4⟩ := hm.done k (by omega) hkm
      refine ⟨by rw [csR_other (by omega) (by omega) (by omega)]; exact h1, by rw [csR_other (by omega) (by omega) (by omega)]; exact h2, u, by rw [csR_other (by omega) (by omega) (by omega)]; exact h3, ?_⟩
      rcases h4 with h4 | ⟨h4, B, O, h5, h6, h7, h8, hf, h9⟩
      · exact .inl h4
      · exact .inr ⟨h4, B, O, h5, h6, h7, h8, hf, Nat.lt_of_lt_of_le h9.1 hwk.size, fun j u hu => keep h9.1 h7 (h9.2 j u hu)⟩
  · rw [csR_13' hk]
    exact hm.todo k (by omega) hkm
where
  csR_13' {k : Nat} (hk : i + 1 ≤ k) : (csR g i cs v)[14 * k + 13]? = cs[14 * k + 13]? := csR_other (by omega) (by omega) (by omega)
end
end
end Go.Proofs.Ytgbhmkdldfhamaa.order
namespace Go.Proofs.Ytgbhmkdldfhamaa.order
open Go.Ev Go.RowKit
set_option linter.unusedVariables false
noncomputable section
section
variable {w0 w : World} {g : PlIn} {p : PlG} {i : Nat} {cs : List Value} {Q : Exit → Act → World → Prop} {HD : Nat → Act → World → Prop}
theorem rdK_TR {act : Act} {φ : Phi} (ha : IsPl g p i act) (h2 : φ.ρ.blk 2 = p.b2 ∧ φ.ρ.off 2 = p.o2) (h5 : φ.ρ.blk 5 = p.b5 ∧ φ.ρ.off 5 = p.o5) (h0 : φ.ρ.val 0 = g.v) : ∀ q ∈ rdK (i : Int), q.1 < top ∧ VR φ q.2 (act.tmps.getD q.1 undef) := by
  intro q hq
  simp only [rdK, List.mem_cons, List.not_mem_nil, or_false] at hq
  rcases hq with rfl | rfl | rfl | rfl
  · exact ⟨by decide, by simp only [ha.t0, VR, h0]⟩
  · refine ⟨by decide, ?_⟩
    simp only [ha.t2, VR, AR, h2.1, h2.2]
    exact ⟨_, 0, ⟨rfl, rfl⟩, rfl⟩
  · refine ⟨by decide, ?_⟩
    simp only [ha.t5, VR, AR, h5.1, h5.2]
    exact ⟨_, 0, ⟨rfl, rfl⟩, rfl⟩
  · exact ⟨show 6 < top by decide, by simp only [ha.t6, i8, VR]⟩
theorem rdK_act {act : Act} {φ : Phi} {z : Int} {n : Nat} (hz : z = n) (hsz : act.tmps.size = Try.f16.ntmps) (hd : act.defers = []) (h2 : φ.ρ.blk 2 = p.b2 ∧ φ.ρ.off 2 = p.o2) (h5 : φ.ρ.blk 5 = p.b5 ∧ φ.ρ.off 5 = p.o5) (h0 : φ.ρ.val 0 = g.v) (hk : ∀ q ∈ rdK z, VR φ q.2 (act.tmps.getD q.1 undef)) : IsPl g p n act := by
  have k0 := hk (0, .sym 0) (by simp [rdK])
  have k2 := hk (2, .ptr (some ⟨.sym 2, 0⟩)) (by simp [rdK])
  have k5 := hk (5, .ptr (some ⟨.sym 5, 0⟩)) (by simp [rdK])
  have k6 := hk (6, i8 z) (by simp [rdK])
  simp only [VR, h0] at k0
  simp only [VR, AR, h2.1, h2.2] at k2
  simp only [VR, AR, h5.1, h5.2] at k5
  simp only [i8, VR, hz] at k6
  obtain ⟨_, _, ⟨rfl, _⟩, k2⟩ := k2
  obtain ⟨_, _, ⟨rfl, _⟩, k5⟩ := k5
  exact ⟨hsz, hd, k0, k2, k5, k6⟩
theorem pl_round (h : g.OK w0) (hp : p.OK g.m w0) (hm : PlM g p w0 i cs w) (hi : i < g.m) {c : Code} {K : List Fr1} (hc : ctx 1 plbody 0 [] = some (c, K)) (hat : At1 plbody (.loop c) 1 K) (hko : KOK plbody K) {act : Act} (ha : IsPl g p i act)
    (hgo : ∀ act' w' cs', IsPl g p (i + 1) act' → PlM g p w0 (i + 1) cs' w' → HD 1 act' w' ∧ ∀ c' K', ctx 1 plbody 0 [] = some (c', K') → (Code.loop c').wpIn (Fr none) 0 Try.prog (postK Try.prog HD Q K') act' w') :
    c.wpIn (Fr none) 0 Try.prog (postK Try.prog HD Q (.lp c 1 :: K)) act w := by
  letI : Ext := XK Try.prog [] (fun k => k = p.bo)
  have h10 := m_10 (g := g)
  obtain ⟨c0, e0, fr0, o1, o2, o3, o4⟩ := hm.mo (by omega)
  obtain ⟨a, H, et, hs, hkeep, hloc, heff⟩ := rd_of (rd_chk h10 hi (decide (g.x i / 8 % 2 = 1)))
  have hs' : rdrun g.m i (decide (g.x i / 8 % 2 = 1)) = _ := hs
  unfold rdrun at hs'
  rw [hc] at hs'
  simp only at hs'
  have hlt := get_lt o1
  have hO : OR ⟨oneF ⟨p.bo, p.oo, p.co - g.m⟩, rdrho g p i cs hp.st_one hm.one⟩ ⟨p.bo, p.oo, p.co - g.m⟩ (.cells (rdsy g.m) (some 14) 0 none) (.cells c0 e0 fr0) := by
    have hcap := hp.cap (by omega)
    refine ⟨c0, e0, fr0, rfl, ?_, (fun h => by cases h), fun j x hx => ?_, by show fr0.2 ≤ p.oo + 0; omega, fun t ht => by cases ht⟩
    · show p.oo + (rdsy g.m).length + (p.co - g.m) * 14 ≤ _
      unfold rdsy
      rw [symsV_len]
      omega
    · have hj : j < 14 * g.m := by
        have := (List.getElem?_eq_some_iff.1 hx).1
        unfold rdsy at this
        rw [symsV_len] at this
        exact this
      rw [rdsy_get hj] at hx
      cases hx
      have hcj : cs[j]? = some (cs.getD j (.bool false)) := by
        rw [List.getD_eq_getElem?_getD, List.getElem?_eq_getElem (by rw [hm.len]; exact hj)]
        rfl
      refine ⟨_, o4 j _ hcj, ?_⟩
      simp only [VR]
      show _ = rdval g p cs (1000 + j)
      unfold rdval
      rw [if_neg (by omega), if_neg (by omega), Nat.add_sub_cancel_left]
  have r2 : (rdrho g p i cs hp.st_one hm.one).blk 2 = p.b2 ∧ (rdrho g p i cs hp.st_one hm.one).off 2 = p.o2 := ⟨rfl, rfl⟩
  have r5 : (rdrho g p i cs hp.st_one hm.one).blk 5 = p.b5 ∧ (rdrho g p i cs hp.st_one hm.one).off 5 = p.o5 := ⟨rfl, rfl⟩
  have r0 : (rdrho g p i cs hp.st_one hm.one).val 0 = g.v := rfl
  refine own_part (X := XK Try.prog [] (fun k => k = p.bo)) (inf := ⟨p.bo, p.oo, p.co - g.m⟩) (ρ := rdrho g p i cs hp.st_one hm.one) (hrcK (noNG_of noNG) mixed) nt16 hat.loop.2 hko hs' (mkT_TR ha.sz nt16 (rdK_TR ha r2 r5 r0)) (rd_env h hp hm hi) (fun r => rfl) o1 hO ha.sz ha.df (fun k => Iff.rfl) fun act' w' φ b => ?_
  have hpin := b.pin 0 ⟨p.bo, p.oo, p.co - g.m⟩ rfl
  obtain ⟨inf', c', e', fr', q1, q2, q3⟩ := b.blk hloc
  rw [hpin] at q1
  cases q1
  have ha' : IsPl g p (i + 1) act' := rdK_act (z := (i : Int) + 1) (by omega) b.sz b.df (by rw [b.rho]; exact r2) (by rw [b.rho]; exact r5) (by rw [b.rho]; exact r0) (keepL_VR b.tr hkeep)
  have hlow : fr'.2 ≤ p.oo := q3.low
  have hlen : (rdnew g.m i (decide (g.x i / 8 % 2 = 1))).length = 14 * g.m := by
    unfold rdnew rdsy
    split <;> simp [symsV_len]
  have hsize : p.oo + 14 * p.co ≤ c'.size := by
    have := q3.size
    rw [hlen] at this
    have e : spare (some 14) (Inf.slack ⟨p.bo, p.oo, p.co - g.m⟩) = (p.co - g.m) * 14 := rfl
    rw [e] at this
    have hcap := hp.cap (by omega)
    have h2 : p.oo + 14 * g.m + (p.co - g.m) * 14 ≤ c'.size := this
    omega
  have cells : ∀ {v : Option Value}, FunL φ (rdnew g.m i (decide (g.x i / 8 % 2 = 1))) (csR g i cs v) → ∃ c e fr, w'.heap[p.bo]? = some (.cells c e fr) ∧ fr.2 ≤ p.oo ∧ p.oo + 14 * p.co ≤ c.size ∧ ∀ q v', (csR g i cs v)[q]? = some v' → c[p.oo + q]? = some v' := fun {v} hf => by
    refine ⟨c', e', fr', q2, hlow, hsize, fun q v' hq => ?_⟩
    obtain ⟨x, x1, x2⟩ := FunL_at hf hq
    obtain ⟨y, y1, y2⟩ := q3.cell q x x1
    rw [y1, x2 y y2]
  by_cases e : g.x i / 8 % 2 = 1
  · obtain ⟨et', hl1⟩ := heff (decide_eq_true e)
    obtain ⟨inf1, ce, ee, fe, s1, s2, s3⟩ := b.blk hl1
    have hne : inf1.blk ≠ p.bo := fun he => by
      have := b.sim.inj 0 1 _ _ _ _ hloc hl1 hpin s1 he.symm
      omega
    have hge : w.heap.size ≤ inf1.blk := (b.own 1 inf1 s1).elim (fun he => (hne he).elim) id
    have hslack := s3.fixed rfl
    obtain ⟨c2, e2, f2, t1, _⟩ := hm.m2
    have t2 := get_lt t1
    have t3 := (hm.mf i hi).1
    have hsz := hm.wk.size
    have hfun : Fun1 φ (.slice (some ⟨.loc 1, 0⟩) 1 1) (.slice (some ⟨inf1.blk, inf1.off, none⟩) 1 1) := by
      have := fun_l (n := 1) (c := 1) s1
      rw [hslack] at this
      exact this
    have hf := csR_fun (i := i) (b := true) (v := some (.slice (some ⟨inf1.blk, inf1.off, none⟩) 1 1)) h hp hm b.rho hfun
    rw [← decide_eq_true e] at hf
    refine hgo act' w' _ ha' (hm.round h hp hi b.wk b.same (cells hf) (fun u hu => by cases hu; rfl) (.inr ⟨e, inf1.blk, inf1.off, rfl, by omega, hne, by omega, by omega, ?_⟩))
    have hce : FunL φ (rdeff i) [n64 (1 + g.x i / 16 % 4), n64 (g.x i / 64), n64 1, n64 (20 + (i : Int))] := by
      refine ⟨fun y hy => ?_, fun y hy => ?_, fun_i 1, fun_i _, trivial⟩
      · simp only [si, VR, b.rho] at hy
        exact hy
      · simp only [si, VR, b.rho] at hy
        exact hy
    have hOe : OR φ inf1 (.cells ([] ++ (rdeff i ++ [])) none 0 et') (.cells ce ee fe) := ⟨ce, ee, fe, rfl, by simpa using s3⟩
    exact cells_out (pre := []) (xs := rdeff i) (post := []) s2 hOe hce
  · have hf := csR_fun (i := i) (b := false) (v := none) h hp hm b.rho trivial
    rw [← decide_eq_false e] at hf
    exact hgo act' w' _ ha' (hm.round h hp hi b.wk b.same (cells hf) (fun u hu => by cases hu) (.inl ⟨e, rfl⟩))
end
end
end Go.Proofs.Ytgbhmkdldfhamaa.order
namespace Go.Proofs.Ytgbhmkdldfhamaa.order
open Go.Ev Go.RowKit
set_option linter.unusedVariables false
noncomputable section
/-! ### the state -/
def plOb (g : PlIn) (cs : List Value) (h : ∀ v ∈ cs, v.oneCell' = true) (k : Nat) : Ob where
  id := (k : Int) + 1
  card := g.x k % 4
  ctrl := g.x k / 4 % 2
  st := plSt k
  eff := cs.getD (14 * k + 13) (.bool false)
  o j := cs.getD (14 * k + j) (.bool false)
  oneE := by
    rw [List.getD_eq_getElem?_getD]
    cases hx : cs[14 * k + 13]? with
    | none => rfl
    | some v => exact h v (List.mem_of_getElem? hx)
  oneO j := by
    rw [List.getD_eq_getElem?_getD]
    cases hx : cs[14 * k + j]? with
    | none => rfl
    | some v => exact h v (List.mem_of_getElem? hx)
def plG (g : PlIn) (p : PlG) (cs : List Value) (h : ∀ v ∈ cs, v.oneCell' = true) (h1 : ∀ j, (p.st g.m j).oneCell' = true) : StG where
  os := (List.range g.m).map (plOb g cs h)
  oa := match g.m with | 0 => none | _ + 1 => some ⟨p.bo, p.oo, none⟩
  oc := match g.m with | 0 => 0 | _ + 1 => p.co
  oB := p.bo
  oO := p.oo
  fs := (List.range g.m).map fun (k : Nat) => (k : Int) + 1
  fa := match g.m with | 0 => none | _ + 1 => some ⟨p.bf, p.fo, none⟩
  fc := match g.m with | 0 => 0 | _ + 1 => p.cf
  fB := p.bf
  fO := p.fo
  r := p.st g.m
  oneR := h1
/-- An effect that an object has. -/
def EfS (w0 : World) (G : StG) (x : Int) (k : Nat) (v : Value) (w : World) : Prop :=
  (x / 8 % 2 ≠ 1 ∧ v = .slice none 0 0) ∨ (x / 8 % 2 = 1 ∧ ∃ B O, v = .slice (some ⟨B, O, none⟩) 1 1 ∧ w0.heap.size ≤ B ∧ B ≠ G.fB ∧ B ≠ G.oB ∧ CellsAt w B O [n64 (1 + x / 16 % 4), n64 (x / 64), n64 1, n64 (20 + (k : Int))])
/-- A small field that was laid. -/
structure PlS (g : PlIn) (w0 : World) (G : StG) (w : World) : Prop where
  ok : G.OK w
  no : G.os.length = g.m
  fs : G.fs = (List.range g.m).map fun (k : Nat) => (k : Int) + 1
  ob : ∀ k, k < g.m → (G.ob k).id = (k : Int) + 1 ∧ (G.ob k).card = g.x k % 4 ∧ (G.ob k).ctrl = g.x k / 4 % 2 ∧ (G.ob k).st = plSt k
  ef : ∀ k, k < g.m → EfS w0 G (g.x k) k (G.ob k).eff w
  newO : 0 < g.m → w0.heap.size ≤ G.oB
  newF : 0 < g.m → w0.heap.size ≤ G.fB
  ne : 0 < g.m → G.oB ≠ G.fB
  z : g.m = 0 → G.oa = none ∧ G.oc = 0 ∧ G.fa = none ∧ G.fc = 0
  roomF : 0 < g.m → ∃ c e fr, w.heap[G.fB]? = some (.cells c e fr) ∧ fr.2 ≤ G.fO ∧ G.fO + g.m ≤ c.size
  room : 0 < g.m → G.os.length ≤ G.oc ∧ ∃ c e fr, w.heap[G.oB]? = some (.cells c e fr) ∧ fr.2 ≤ G.oO ∧ G.oO + 14 * G.oc ≤ c.size
section
variable {w0 w w' : World} {g : PlIn} {p : PlG} {cs : List Value}
theorem plOb_at {h : ∀ v ∈ cs, v.oneCell' = true} {h1 : ∀ j, (p.st g.m j).oneCell' = true} {k : Nat} (hk : k < g.m) : (plG g p cs h h1).ob k = plOb g cs h k := by
  unfold StG.ob plG
  rw [List.getD_eq_getElem?_getD, List.getElem?_map, List.getElem?_range hk]
  rfl
theorem getD_of {α : Type} {l : List α} {k : Nat} {d x : α} (h : l[k]? = some x) : l.getD k d = x := by
  rw [List.getD_eq_getElem?_getD, h]
  rfl
theorem plSt_in (k : Nat) : 1 ≤ plSt k ∧ plSt k ≤ 11 := by
  unfold plSt
  omega
theorem plOb_fit (h : g.OK w0) {h1 : ∀ v ∈ cs, v.oneCell' = true} {k : Nat} (hk : k < g.m) : (plOb g cs h1 k).Fit := by
  obtain ⟨x0, x1⟩ := h.x_fit k
  have h10 := m_10 (g := g)
  have := plSt_in k
  refine ⟨⟨?_, ?_⟩, ⟨?_, ?_⟩, ⟨?_, ?_⟩, ⟨?_, ?_⟩⟩ <;> simp only [plOb] <;> omega
theorem FunL_eq {φ : Phi} : ∀ {xs : List VV} {vs us : List Value}, FunL φ xs vs → VRs φ xs us → us = vs
  | [], [], us, _, h => by simpa only [VRs] using h
  | x :: xs, v :: vs, us, h, k => by
    simp only [VRs] at k
    obtain ⟨u, us', rfl, k1, k2⟩ := k
    rw [h.1 u k1, FunL_eq h.2 k2]
  | [], _ :: _, _, h, _ => h.elim
  | _ :: _, [], _, h, _ => h.elim
theorem plG_v {h : ∀ v ∈ cs, v.oneCell' = true} {h1 : ∀ j, (p.st g.m j).oneCell' = true} {φ : Phi} (hv : ∀ j, j < 25 → φ.ρ.val (20 + j) = p.st g.m j) {v : Value} (hr : VR φ (.agg plst) v) : v = (plG g p cs h h1).v := by
  have e1 : p.st g.m 1 = (plG g p cs h h1).osV := by
    unfold PlG.st PlG.osV StG.osV plG
    rw [if_pos rfl]
    simp only [List.length_map, List.length_range]
    cases g.m <;> rfl
  have e6 : p.st g.m 6 = (plG g p cs h h1).fsV := by
    unfold PlG.st PlG.fsV StG.fsV plG
    rw [if_neg (by omega), if_pos rfl]
    simp only [List.length_map, List.length_range]
    cases g.m <;> rfl
  unfold StG.v
  rw [← e1, ← e6]
  simp only [VR] at hr
  obtain ⟨us, hr, rfl⟩ := hr
  have hf : FunL φ (symsV ((List.range 25).map (p.st g.m)).length 20) ((List.range 25).map (p.st g.m)) := FunL_syms fun j v hj => by
    have hlt := (List.getElem?_eq_some_iff.1 hj).1
    rw [List.length_map, List.length_range] at hlt
    rw [List.getElem?_map, List.getElem?_range hlt] at hj
    cases hj
    exact hv j hlt
  rw [FunL_eq hf hr]
  rfl
/-- The state that is told, in the memory that is left. -/
theorem PlM.told (h : g.OK w0) (hp : p.OK g.m w0) (hm : PlM g p w0 g.m cs w) (hwk : WK w w') (hsame : ∀ k, k < w.heap.size → k ≠ p.b2 → w'.heap[k]? = w.heap[k]?) : PlS g w0 (plG g p cs hm.one hp.st_one) w' := by
  have h10 := m_10 (g := g)
  have hlen : (plG g p cs hm.one hp.st_one).os.length = g.m := by simp [plG]
  have keep : ∀ {a : Addr} {u : Value}, a.block < w.heap.size → a.block ≠ p.b2 → w.cell? a = some u → w'.cell? a = some u := fun {a u} h1 h2 h3 => by
    rw [← h3]
    unfold World.cell?
    rw [hsame _ h1 h2]
  have obs : ∀ k, k < g.m → (plG g p cs hm.one hp.st_one).os[k]? = some (plOb g cs hm.one k) := fun k hk => by
    simp only [plG]
    rw [List.getElem?_map, List.getElem?_range hk]
    rfl
  refine ⟨⟨by rw [hlen]; omega, by simp only [plG, List.length_map, List.length_range]; omega, fun x hx => ?_, fun n hn => ?_, fun i x hx => ?_, fun i n hn => ?_⟩, hlen, rfl, fun k hk => ?_, fun k hk => ?_, fun h0 => hp.no h0, fun h0 => hp.nf h0, fun h0 => (hp.nfo h0).symm, fun h0 => ?_, fun h0 => ?_, fun h0 => ?_⟩
  · simp only [plG, List.mem_map, List.mem_range] at hx
    obtain ⟨k, hk, rfl⟩ := hx
    exact plOb_fit h hk
  · simp only [plG, List.mem_map, List.mem_range] at hn
    obtain ⟨k, hk, rfl⟩ := hn
    exact ⟨by omega, by omega⟩
  · have hi : i < g.m := by
      have := (List.getElem?_eq_some_iff.1 hx).1
      rw [hlen] at this
      exact this
    rw [obs i hi] at hx
    cases hx
    obtain ⟨c0, e0, fr0, o1, o2, o3, o4⟩ := hm.mo (by omega)
    have hlt := get_lt o1
    refine ⟨?_, Nat.lt_of_lt_of_le hlt hwk.size, fun j hj => ?_⟩
    · simp only [plG]
      cases hmm : g.m with
      | zero => omega
      | succ n => rfl
    · refine keep hlt (hp.n2o (by omega)).symm ?_
      unfold World.cell?
      simp only [plG, o1]
      have hq : 14 * i + j < cs.length := by rw [hm.len]; omega
      have hc := o4 (14 * i + j) (cs.getD (14 * i + j) (.bool false)) (by rw [List.getD_eq_getElem?_getD, List.getElem?_eq_getElem hq]; rfl)
      rw [show p.oo + i * 14 + j = p.oo + (14 * i + j) by omega, hc]
      have hob := hm.ob i hi
      have hdn := hm.done i hi hi
      match j, hj with
      | 0, _ => exact congrArg some (getD_of hob.1)
      | 1, _ => exact congrArg some (getD_of hob.2)
      | 2, _ => rfl
      | 3, _ => exact congrArg some (getD_of hdn.1)
      | 4, _ => rfl
      | 5, _ => rfl
      | 6, _ => rfl
      | 7, _ => rfl
      | 8, _ => rfl
      | 9, _ => exact congrArg some (getD_of hdn.2.1)
      | 10, _ => rfl
      | 11, _ => rfl
      | 12, _ => rfl
      | 13, _ => rfl
  · have hi : i < g.m := by
      have := (List.getElem?_eq_some_iff.1 hn).1
      simpa [plG] using this
    simp only [plG] at hn
    rw [List.getElem?_map, List.getElem?_range hi] at hn
    cases hn
    obtain ⟨f1, f2⟩ := hm.mf i hi
    refine ⟨?_, Nat.lt_of_lt_of_le f1 hwk.size, keep f1 (hp.n2f (by omega)).symm f2⟩
    simp only [plG]
    cases hmm : g.m with
    | zero => omega
    | succ n => rfl
  · rw [plOb_at hk]
    exact ⟨rfl, rfl, rfl, rfl⟩
  · rw [plOb_at hk]
    obtain ⟨_, _, v, h1, h2⟩ := hm.done k hk hk
    have e : (plOb g cs hm.one k).eff = v := getD_of h1
    rw [e]
    rcases h2 with h2 | ⟨h2, B, O, h3, h4, h5, h6, h7, h8⟩
    · exact .inl h2
    · exact .inr ⟨h2, B, O, h3, h4, h7, h5, Nat.lt_of_lt_of_le h8.1 hwk.size, fun j u hu => keep h8.1 h6 (h8.2 j u hu)⟩
  · simp only [plG]
    rw [h0]
    exact ⟨rfl, rfl, rfl, rfl⟩
  · obtain ⟨c, e, fr, h1, h2⟩ := hm.mfr h0
    exact ⟨c, e, fr, by show w'.heap[p.bf]? = _; rw [hsame _ (get_lt h1) (hp.n2f h0).symm]; exact h1, h2⟩
  · obtain ⟨c0, e0, fr0, o1, o2, o3, o4⟩ := hm.mo h0
    have hcap := hp.cap h0
    have hoc : (plG g p cs hm.one hp.st_one).oc = p.co := by
      simp only [plG]
      cases hmm : g.m with
      | zero => omega
      | succ n => rfl
    refine ⟨by rw [hlen, hoc]; exact hcap, c0, e0, fr0, ?_, o2, by rw [hoc]; exact o3⟩
    show w'.heap[p.bo]? = _
    rw [hsame _ (get_lt o1) (hp.n2o h0).symm]
    exact o1
end
end
end Go.Proofs.Ytgbhmkdldfhamaa.order
namespace Go.Proofs.Ytgbhmkdldfhamaa.order
open Go.Ev Go.RowKit
set_option linter.unusedVariables false
noncomputable section
section
variable {w0 w : World} {g : PlIn} {p : PlG} {cs : List Value} {HD : Nat → Act → World → Prop}
theorem plx_of {o : Option SegO} (h : plxfin o = true) : ∃ a H, o = some (.out .ret a H) ∧ resL Try.prog a H Try.f16.results.toList = some [.agg plst] := by
  unfold plxfin at h
  split at h
  · rename_i a H
    split at h
    · rename_i l hr
      rw [vvsEq_eq _ _ h] at hr
      exact ⟨a, H, rfl, hr⟩
    · cases h
  · cases h
theorem plxall_at : ∀ {m n : Nat}, plxall m = true → n < m → plxfin (plxrun n) = true
  | 0, n, _, h => by omega
  | m + 1, n, h, hn => by
    simp only [plxall] at h
    split at h
    · rename_i h1
      by_cases e : n = m
      · rw [e]; exact h
      · exact plxall_at h1 (by omega)
    · cases h
/-- What is asked at the end. -/
def plQ (g : PlIn) (w0 : World) : Exit → Act → World → Prop := fun e act w => (e = .ret ∨ e = .normal) ∧ act.defers = [] ∧ ∃ v, (results Try.f16 act.tmps).run Try.prog w = .ok v w ∧ ∃ G : StG, Ending.returned v = .returned G.v ∧ PlS g w0 G w ∧ Below w0.heap.size w0 w
theorem pl_end (h : g.OK w0) (hp : p.OK g.m w0) (hm : PlM g p w0 g.m cs w) {c : Code} {K : List Fr1} (hc : ctx 1 plbody 0 [] = some (c, K)) (hat : At1 plbody (.loop c) 1 K) (hko : KOK plbody K) {act : Act} (ha : IsPl g p g.m act) :
    c.wpIn (Fr none) 0 Try.prog (postK Try.prog HD (plQ g w0) (.lp c 1 :: K)) act w := by
  letI : Ext := XK Try.prog [] (fun k => k = p.b2)
  have h10 := m_10 (g := g)
  obtain ⟨c0, e0, fr0, o1, o2, o3⟩ := hm.m2
  obtain ⟨a, H, hs, hres⟩ := plx_of (plxall_at plxallT (n := g.m) (by omega))
  unfold plxrun at hs
  rw [hc] at hs
  simp only at hs
  have hlt := get_lt o1
  have hO : OR ⟨oneF ⟨p.b2, p.o2, 0⟩, rdrho g p 0 cs hp.st_one hm.one⟩ ⟨p.b2, p.o2, 0⟩ (.cells (anyT 25) none 0 none) (.cells c0 e0 fr0) := by
    refine ⟨c0, e0, fr0, rfl, ?_, fun _ => rfl, fun j x hx => ?_, by show fr0.2 ≤ p.o2 + 0; omega, fun t ht => by cases ht⟩
    · show p.o2 + (anyT 25).length + 0 ≤ _
      rw [anyT_len]
      omega
    · have hj : j < 25 := by
        have := (List.getElem?_eq_some_iff.1 hx).1
        rw [anyT_len] at this
        exact this
      rw [anyT_get 25 j hj] at hx
      cases hx
      have hs : p.o2 + j < c0.size := by omega
      exact ⟨c0[p.o2 + j], by simp only [Array.getElem?_eq_getElem hs], by simp only [VR]⟩
  have hE : EnvOK (plxE g.m) ⟨oneF ⟨p.b2, p.o2, 0⟩, rdrho g p 0 cs hp.st_one hm.one⟩ (less w p.b2) := by
    obtain ⟨x0, x1⟩ := h.x_fit 0
    refine ⟨(fun e he => by cases he), fun k => (by simp only [plxE, ivAt, lget]; exact rdint_fits x0 x1 k), fun f hf => ?_, fun k c hk => ?_⟩
    · simp only [plxE, List.mem_singleton] at hf
      subst hf
      refine FactOK.w ⟨p.osV g.m, g.m, rfl, ?_, rfl⟩
      show ∃ a c, p.osV g.m = .slice a g.m c
      unfold PlG.osV
      cases g.m with
      | zero => exact ⟨_, _, rfl⟩
      | succ n => exact ⟨_, _, rfl⟩
    · simp only [plxE] at hk
      split at hk
      · cases hk
        refine ⟨by rw [less_size]; exact hm.l5, fun j x hx => ?_⟩
        have hj : j < 25 := by
          have := (List.getElem?_eq_some_iff.1 hx).1
          unfold plst at this
          rw [symsV_len] at this
          exact this
        unfold plst at hx
        rw [symsV_get hj] at hx
        cases hx
        refine ⟨_, cell_less (hm.m5 j hj) hp.n25.symm, ?_⟩
        simp only [VR]
        show _ = rdval g p cs (20 + j)
        unfold rdval
        rw [if_neg (by omega), if_pos (by omega), Nat.add_sub_cancel_left]
      · cases hk
  have hl : ∀ q ∈ [(2, VV.ptr (some ⟨.loc 0, 0⟩)), (5, VV.ptr (some ⟨.sym 5, 0⟩)), (6, i8 g.m)], q.1 < top ∧ VR ⟨oneF ⟨p.b2, p.o2, 0⟩, rdrho g p 0 cs hp.st_one hm.one⟩ q.2 (act.tmps.getD q.1 undef) := by
    intro q hq
    simp only [List.mem_cons, List.not_mem_nil, or_false] at hq
    rcases hq with rfl | rfl | rfl
    · refine ⟨by decide, ?_⟩
      simp only [ha.t2, VR, AR]
      exact ⟨_, 0, ⟨_, rfl, rfl, rfl⟩, rfl⟩
    · refine ⟨by decide, ?_⟩
      simp only [ha.t5, VR, AR]
      exact ⟨_, 0, ⟨rfl, rfl⟩, rfl⟩
    · exact ⟨show 6 < top by decide, by simp only [ha.t6, i8, VR]⟩
  refine own_part (inf := ⟨p.b2, p.o2, 0⟩) (ρ := rdrho g p 0 cs hp.st_one hm.one) (hrcK (noNG_of noNG) mixed) nt16 hat.loop.2 hko hs (mkT_TR ha.sz nt16 hl) hE (fun r => rfl) o1 hO ha.sz ha.df (fun k => Iff.rfl) fun act' w' φ b => ?_
  obtain ⟨v', r1, r2⟩ := results_sound (P := Try.prog) b.tr b.sim (fn := Try.f16) hres
  have hv := plG_v (h := hm.one) (h1 := hp.st_one) (φ := φ) (fun j hj => by
    rw [b.rho]
    show rdval g p cs (20 + j) = _
    unfold rdval
    rw [if_neg (by omega), if_pos (by omega), Nat.add_sub_cancel_left]) (v := v') r2
  have hn2 := hp.n2
  refine ⟨.inl rfl, b.df, v', r1, _, by rw [hv], hm.told h hp b.wk b.same, (hm.wk.trans b.wk).os, (hm.wk.trans b.wk).tape, (hm.wk.trans b.wk).output, (hm.wk.trans b.wk).size, fun k hk => ?_⟩
  rw [b.same k (Nat.lt_of_lt_of_le hk hm.wk.size) (by show ¬ k = p.b2; omega), hm.same k hk]
end
end
end Go.Proofs.Ytgbhmkdldfhamaa.order
namespace Go.Proofs.Ytgbhmkdldfhamaa.order
open Go.Ev Go.RowKit
set_option linter.unusedVariables false
noncomputable section
def plint (g : PlIn) (k : Nat) : Int := if k = 2 then (g.L.length : Int) else if 10 ≤ k ∧ k < 20 then g.x (k - 10) else if 30 ≤ k ∧ k < 40 then g.x (k - 30) % 4 else 0
def plrho (g : PlIn) : Rho where
  int := plint g
  val k := if k = 0 then g.v else .bool false
  blk _ := g.B
  off k := g.O + (k - 100)
  one k := by
    show (if k = 0 then g.v else .bool false).oneCell' = true
    split <;> rfl
  lst _ := []
  lcl _ _ h := by cases h
section
variable {w0 w : World} {g : PlIn}
theorem plint_fits (h : g.OK w0) (k : Nat) : I64 (plint g k) := by
  have hn := h.n
  unfold plint
  split
  · exact ⟨by omega, by omega⟩
  split
  · have := h.x_fit (k - 10)
    exact ⟨by omega, by omega⟩
  split
  · have := h.x_fit (k - 30)
    exact ⟨by omega, by omega⟩
  · exact i64_0
theorem plint10 {k : Nat} (hk : k < 10) : (plrho g).int (10 + k) = g.x k := by
  show plint g (10 + k) = _
  unfold plint
  rw [if_neg (by omega), if_pos (by omega), Nat.add_sub_cancel_left]
theorem plint30 {k : Nat} (hk : k < 10) : (plrho g).int (30 + k) = g.x k % 4 := by
  show plint g (30 + k) = _
  unfold plint
  rw [if_neg (by omega), if_neg (by omega), if_pos (by omega), Nat.add_sub_cancel_left]
theorem plF_ok (h : g.OK w0) : ∀ {n : Nat}, n ≤ g.m → FsOK (plF n) (plrho g)
  | 0, _ => fs_cons (fact_len rfl rfl) fs_nil
  | n + 1, hn => by
    have hml := m_le (g := g)
    have h10 := m_10 (g := g)
    obtain ⟨a1, _, _⟩ := h.at (k := n) (by omega)
    have x0 := (h.x_fit n).1
    refine fs_app (plF_ok h (by omega)) (fs_cons (fact_atC (n := n) (B := g.B) (O := g.O) (l := g.L.length) (c := g.ca) (a := g.oa) rfl a1 (by omega) rfl (by show g.O + (100 + n - 100) = _; omega)) (fs_cons (fact_remN (by omega) (by rw [plint10 (by omega)]; exact x0) (by rw [plint30 (by omega), plint10 (by omega)])) fs_nil))
def plmny (g : PlIn) : Bool := decide (10 < g.L.length)
theorem pl_env (h : g.OK w0) {S : Nat → Prop} : @EnvOK (XK Try.prog [] S) (plE g.m (plmny g)) ⟨fun _ => none, plrho g⟩ w0 := by
  have hml := m_le (g := g)
  have h10 := m_10 (g := g)
  have hn := h.n
  have f := plint_fits h
  refine @EnvOK.mk (XK Try.prog [] S) _ _ _ (fun e he => by cases he) ?_ (fun f hf => FactOK.w (plF_ok h (Nat.le_refl _) f hf)) ?_
  · refine iv_all (f := plint g) ?_ f
    unfold pliv
    refine ⟨f 0, f 1, ?_, trivial⟩
    show _ ≤ (g.L.length : Int) ∧ (g.L.length : Int) ≤ _
    unfold plmny
    by_cases e : 10 < g.L.length
    · rw [decide_eq_true e]
      exact ⟨by show (11 : Int) ≤ _; omega, by show _ ≤ (9223372036854775807 : Int); omega⟩
    · rw [decide_eq_false e]
      have : g.m = g.L.length := by unfold PlIn.m; omega
      exact ⟨by show (g.m : Int) ≤ _; omega, by show _ ≤ (g.m : Int); omega⟩
  · intro k c hk
    simp only [plE] at hk
    split at hk
    · rename_i hb
      rw [Bool.and_eq_true] at hb
      have h1 := Nat.le_of_ble_eq_true hb.1
      have h2 : k < 100 + g.m := Nat.le_of_ble_eq_true hb.2
      cases hk
      obtain ⟨a1, a2, a3⟩ := h.at (k := k - 100) (by omega)
      refine ⟨a2, fun j x hx => ?_⟩
      match j with
      | 0 =>
        cases hx
        refine ⟨_, a3, ?_⟩
        simp only [s8, VR]
        show _ = Value.int .u8 ((plrho g).int (k - 90))
        rw [show k - 90 = 10 + (k - 100) by omega, plint10 (by omega)]
      | j + 1 => simp at hx
    · cases hk
theorem plall_at : ∀ {m n : Nat}, plall m = true → n < m → plfin n (plrun n false) = true
  | 0, n, _, h => by omega
  | m + 1, n, h, hn => by
    simp only [plall] at h
    split at h
    · rename_i h1
      by_cases e : n = m
      · rw [e]; exact h
      · exact plall_at h1 (by omega)
    · cases h
theorem pl_chk : plfin g.m (plrun g.m (plmny g)) = true := by
  unfold plmny
  by_cases e : 10 < g.L.length
  · rw [decide_eq_true e, show g.m = 10 by unfold PlIn.m; omega]
    exact plmanyT
  · rw [decide_eq_false e]
    exact plall_at plallT (by have := m_10 (g := g); omega)
theorem atV_of {l : List VV} {k : Nat} {x : VV} (h : atV l k x = true) : l[k]? = some x := by
  unfold atV at h
  split at h
  · rename_i y hy
    rw [← lget_eq, hy, vvEq_eq _ _ h]
  · cases h
where
  lget_eq : ∀ {l : List VV} {k : Nat}, lget l k = l[k]?
    | [], k => rfl
    | x :: l, 0 => rfl
    | x :: l, k + 1 => by
      simp only [lget, List.getElem?_cons_succ]
      exact lget_eq
theorem blkV_of {H : VH} {k z : Nat} {l : List VV} (h : blkV H k z l = true) : ∃ et, H.locs.get k = some (.cells l (some z) 0 et) := by
  unfold blkV at h
  split at h
  · rename_i c g' et hg
    split at h
    · rename_i hb
      rw [← Nat.eq_of_beq_eq_true hb, vvsEq_eq _ _ h] at hg
      exact ⟨et, hg⟩
    · cases h
  · cases h
structure PlFin (n : Nat) (a : VT) (H : VH) (c2 c5 : List VV) (e2 e5 : Option TypeId) : Prop where
  keep : keepL a [(0, .sym 0), (2, .ptr (some ⟨.loc 0, 0⟩)), (5, .ptr (some ⟨.loc (6 * n + 4), 0⟩)), (6, i8 0)] = true
  l2 : H.locs.get 0 = some (.cells c2 none 0 e2)
  l5 : H.locs.get (6 * n + 4) = some (.cells c5 none 0 e5)
  n2 : c2.length = 25
  n5 : c5.length = 25
  one : allOne c5 = true
  os : c5[1]? = some (slV n (6 * n + 1))
  fs : c5[6]? = some (slV n (6 * n + 3))
  lo : 0 < n → ∃ et, H.locs.get (6 * n + 1) = some (.cells (plobs n) (some 14) 0 et)
  lf : 0 < n → ∃ et, H.locs.get (6 * n + 3) = some (.cells (plids n) (some 1) 0 et)
theorem plfin_of {n : Nat} {o : Option SegO} (h : plfin n o = true) : ∃ a H c2 c5 e2 e5, o = some (.cut 1 a H) ∧ PlFin n a H c2 c5 e2 e5 := by
  unfold plfin at h
  split at h
  · rename_i t a H
    split at h
    · rename_i c2 e2 c5 e5 h1 h2 h3 h4
      split at h
      · rename_i h5 h6 h7 h8 h9
        refine ⟨a, H, c2, c5, e2, e5, by rw [Nat.eq_of_beq_eq_true h1], h2, h3, h4, Nat.eq_of_beq_eq_true h5, Nat.eq_of_beq_eq_true h6, h7, atV_of h8, atV_of h9, ?_, ?_⟩
        · intro hn
          split at h
          · omega
          · split at h
            · rename_i h10 h11
              exact blkV_of h10
            · cases h
        · intro hn
          split at h
          · omega
          · split at h
            · rename_i h10 h11
              exact blkV_of h11
            · cases h
      · cases h
    · cases h
  · cases h
theorem oneVV_VR {φ : Phi} {x : VV} {v : Value} (h : oneVV x = true) (hv : VR φ x v) : v.oneCell' = true := by
  cases x with
  | int k n => simp only [VR] at hv; rw [hv]; rfl
  | bool b => simp only [VR] at hv; rw [hv]; rfl
  | sint k i => simp only [VR] at hv; rw [hv]; rfl
  | slice a l c =>
    cases a with
    | none => simp only [VR] at hv; rw [hv]; rfl
    | some a =>
      simp only [VR] at hv
      obtain ⟨_, _, _, rfl⟩ := hv
      rfl
  | _ => cases h
theorem allOne_mem : ∀ {l : List VV}, allOne l = true → ∀ x ∈ l, oneVV x = true
  | [], _, x, h => by cases h
  | y :: l, h, x, hx => by
    simp only [allOne] at h
    split at h
    · rename_i h1
      rcases List.mem_cons.1 hx with rfl | hx
      · exact h1
      · exact allOne_mem h x hx
    · cases h
theorem plobs_len : ∀ {n : Nat}, (plobs n).length = 14 * n
  | 0 => rfl
  | n + 1 => by
    simp only [plobs, List.length_append, plobs_len]
    show 14 * n + 14 = _
    omega
theorem plobs_at : ∀ {n k j : Nat}, k < n → j < 14 → (plobs n)[14 * k + j]? = (plob k)[j]?
  | 0, k, j, h, _ => by omega
  | n + 1, k, j, h, hj => by
    simp only [plobs]
    by_cases e : k = n
    · subst e
      rw [List.getElem?_append_right (by rw [plobs_len]; omega), plobs_len, Nat.add_sub_cancel_left]
    · rw [List.getElem?_append_left (by rw [plobs_len]; omega)]
      exact plobs_at (by omega) hj
theorem plobs_one : ∀ {n : Nat}, ∀ x ∈ plobs n, oneVV x = true
  | 0, x, h => by cases h
  | n + 1, x, h => by
    rcases List.mem_append.1 h with h | h
    · exact plobs_one x h
    · simp only [plob, List.mem_cons, List.not_mem_nil, or_false] at h
      rcases h with rfl | rfl | rfl | rfl | rfl | rfl | rfl | rfl | rfl | rfl | rfl | rfl | rfl | rfl <;> rfl
theorem plids_len : ∀ {n : Nat}, (plids n).length = n
  | 0 => rfl
  | n + 1 => by simp [plids, plids_len]
theorem plids_at : ∀ {n k : Nat}, k < n → (plids n)[k]? = some (i8 ((k : Int) + 1))
  | 0, k, h => by omega
  | n + 1, k, h => by
    simp only [plids]
    by_cases e : k = n
    · subst e
      rw [List.getElem?_append_right (by rw [plids_len]; omega), plids_len, Nat.sub_self]
      rfl
    · rw [List.getElem?_append_left (by rw [plids_len]; omega)]
      exact plids_at (by omega)
end
end
end Go.Proofs.Ytgbhmkdldfhamaa.order
namespace Go.Proofs.Ytgbhmkdldfhamaa.order
open Go.Ev Go.RowKit
set_option linter.unusedVariables false
noncomputable section
section
variable {w0 w : World} {g : PlIn}
theorem cell_of {w : World} {B O : Nat} {c : Array Value} {e : TypeId} {fr : Nat × Nat} {v : Value} (h : w.heap[B]? = some (.cells c e fr)) (hv : c[O]? = some v) : w.cell? ⟨B, O, none⟩ = some v := by
  unfold World.cell?
  simp only [h]
  rw [hv]
  rfl
theorem pl_start (h : g.OK w0) {S : Nat → Prop} {a : VT} {H : VH} {act : Act} {φ : Phi} {c2 c5 : List VV} {e2 e5 : Option TypeId} (hf : PlFin g.m a H c2 c5 e2 e5) (b : @Beh (XK Try.prog [] S) w0 (fun _ => none) (fun _ => False) (plrho g) Try.f16.ntmps w0 a H act w φ) : ∃ (p : PlG) (cs : List Value), p.OK g.m w0 ∧ IsPl g p 0 act ∧ PlM g p w0 0 cs w := by
  letI : Ext := XK Try.prog [] S
  have h10 := m_10 (g := g)
  obtain ⟨inf2, d2, t2, r2, p2, q2, s2⟩ := b.blk hf.l2
  obtain ⟨inf5, d5, t5, r5, p5, q5, s5⟩ := b.blk hf.l5
  have hO : ∃ (inf : Inf) (d : Array Value) (t : TypeId) (r : Nat × Nat) (et : Option TypeId), 0 < g.m → H.locs.get (6 * g.m + 1) = some (.cells (plobs g.m) (some 14) 0 et) ∧ φ (6 * g.m + 1) = some inf ∧ w.heap[inf.blk]? = some (.cells d t r) ∧ CR φ inf (plobs g.m) (some 14) 0 et d t r := by
    by_cases h0 : 0 < g.m
    · obtain ⟨et, hl⟩ := hf.lo h0
      obtain ⟨inf, d, t, r, k1, k2, k3⟩ := b.blk hl
      exact ⟨inf, d, t, r, et, fun _ => ⟨hl, k1, k2, k3⟩⟩
    · exact ⟨⟨0, 0, 0⟩, #[], 0, (0, 0), none, fun h => absurd h h0⟩
  have hF : ∃ (inf : Inf) (d : Array Value) (t : TypeId) (r : Nat × Nat) (et : Option TypeId), 0 < g.m → H.locs.get (6 * g.m + 3) = some (.cells (plids g.m) (some 1) 0 et) ∧ φ (6 * g.m + 3) = some inf ∧ w.heap[inf.blk]? = some (.cells d t r) ∧ CR φ inf (plids g.m) (some 1) 0 et d t r := by
    by_cases h0 : 0 < g.m
    · obtain ⟨et, hl⟩ := hf.lf h0
      obtain ⟨inf, d, t, r, k1, k2, k3⟩ := b.blk hl
      exact ⟨inf, d, t, r, et, fun _ => ⟨hl, k1, k2, k3⟩⟩
    · exact ⟨⟨0, 0, 0⟩, #[], 0, (0, 0), none, fun h => absurd h h0⟩
  obtain ⟨infO, dO, tO, rO, eO, hO⟩ := hO
  obtain ⟨infF, dF, tF, rF, eF, hF⟩ := hF
  have new : ∀ {i : Nat} {inf : Inf}, φ i = some inf → w0.heap.size ≤ inf.blk := fun {i inf} hi => (b.own i inf hi).elim (fun h => h.elim) id
  let sv : Nat → Value := fun j => if j < 25 then d5.getD (inf5.off + j) (.bool false) else .bool false
  let p : PlG := ⟨inf2.blk, inf2.off, inf5.blk, inf5.off, infO.blk, infO.off, g.m + infO.slack, infF.blk, infF.off, g.m + infF.slack, sv⟩
  have cell5 : ∀ j, j < 25 → ∃ x y, c5[j]? = some x ∧ d5[inf5.off + j]? = some y ∧ VR φ x y ∧ sv j = y := fun j hj => by
    have hj' : j < c5.length := by rw [hf.n5]; exact hj
    have hx : c5[j]? = some c5[j] := List.getElem?_eq_getElem hj'
    obtain ⟨y, y1, y2⟩ := s5.cell j _ hx
    refine ⟨_, y, hx, y1, y2, ?_⟩
    show (if j < 25 then d5.getD (inf5.off + j) (.bool false) else .bool false) = y
    rw [if_pos hj, Array.getD_eq_getD_getElem?, y1]
    rfl
  have hone : ∀ j, (sv j).oneCell' = true := fun j => by
    by_cases hj : j < 25
    · obtain ⟨x, y, k1, k2, k3, k4⟩ := cell5 j hj
      rw [k4]
      exact oneVV_VR (allOne_mem hf.one _ (List.mem_of_getElem? k1)) k3
    · show (if j < 25 then d5.getD (inf5.off + j) (.bool false) else Value.bool false).oneCell' = true
      rw [if_neg hj]
      rfl
  have ne : ∀ {i j : Nat} {oi oj : VO} {inf jnf : Inf}, i ≠ j → H.locs.get i = some oi → H.locs.get j = some oj → φ i = some inf → φ j = some jnf → inf.blk ≠ jnf.blk := fun hij h1 h2 h3 h4 he => hij (b.sim.inj _ _ _ _ _ _ h1 h2 h3 h4 he)
  have hp : p.OK g.m w0 := ⟨hone, new p2, new p5, ne (by omega) hf.l2 hf.l5 p2 p5, fun h0 => new (hF h0).2.1, fun h0 => new (hO h0).2.1, fun h0 => ne (by omega) hf.l2 (hO h0).1 p2 (hO h0).2.1, fun h0 => ne (by omega) hf.l5 (hO h0).1 p5 (hO h0).2.1, fun h0 => ne (by omega) (hF h0).1 (hO h0).1 (hF h0).2.1 (hO h0).2.1, fun h0 => ne (by omega) hf.l2 (hF h0).1 p2 (hF h0).2.1, fun h0 => Nat.le_add_right _ _⟩
  let cs : List Value := (List.range (14 * g.m)).map fun q => dO.getD (infO.off + q) (.bool false)
  have cslen : cs.length = 14 * g.m := by simp [cs]
  have csat : ∀ {q : Nat}, q < 14 * g.m → ∃ x y, (plobs g.m)[q]? = some x ∧ cs[q]? = some y ∧ dO[infO.off + q]? = some y ∧ VR φ x y := fun {q} hq => by
    obtain ⟨_, _, _, k3⟩ := hO (by omega)
    have hq' : q < (plobs g.m).length := by rw [plobs_len]; exact hq
    have hx : (plobs g.m)[q]? = some (plobs g.m)[q] := List.getElem?_eq_getElem hq'
    obtain ⟨y, y1, y2⟩ := k3.cell q _ hx
    refine ⟨_, y, hx, ?_, y1, y2⟩
    show ((List.range (14 * g.m)).map fun q => dO.getD (infO.off + q) (.bool false))[q]? = some y
    rw [List.getElem?_map, List.getElem?_range hq]
    show some (dO.getD (infO.off + q) (.bool false)) = some y
    rw [Array.getD_eq_getD_getElem?, y1]
    rfl
  have csob : ∀ {k j : Nat} {x : VV}, k < g.m → j < 14 → (plob k)[j]? = some x → ∃ y, cs[14 * k + j]? = some y ∧ VR φ x y := fun {k j x} hk hj hx => by
    obtain ⟨x', y, k1, k2, _, k4⟩ := csat (q := 14 * k + j) (by omega)
    rw [plobs_at hk hj, hx] at k1
    cases k1
    exact ⟨y, k2, k4⟩
  have k0 := keepL_VR b.tr hf.keep
  have t0 := k0 (0, .sym 0) (by simp)
  have tt2 := k0 (2, .ptr (some ⟨.loc 0, 0⟩)) (by simp)
  have tt5 := k0 (5, .ptr (some ⟨.loc (6 * g.m + 4), 0⟩)) (by simp)
  have tt6 := k0 (6, i8 0) (by simp)
  simp only [VR, b.rho] at t0
  simp only [VR, AR] at tt2 tt5
  simp only [i8, VR] at tt6
  obtain ⟨_, _, ⟨j2, u2, rfl, _⟩, tt2⟩ := tt2
  obtain ⟨_, _, ⟨j5, u5, rfl, _⟩, tt5⟩ := tt5
  rw [p2] at u2
  cases u2
  rw [p5] at u5
  cases u5
  refine ⟨p, cs, hp, ⟨b.sz, b.df, t0, tt2, tt5, tt6⟩, b.wk, fun k hk => b.same k hk id, ⟨d2, t2, r2, q2, s2.low, ?_⟩, get_lt q5, fun j hj => ?_, fun k hk => ?_, fun h0 => ?_, fun h0 => ?_, cslen, fun v hv => ?_, fun k hk => ?_, fun k hk => by omega, fun k _ hk => ?_⟩
  · have := s2.size
    rw [hf.n2] at this
    have e : spare none inf2.slack = 0 := rfl
    rw [e] at this
    exact this
  · obtain ⟨x, y, k1, k2, k3, k4⟩ := cell5 j hj
    refine cell_of q5 ?_
    rw [k2]
    unfold PlG.st
    by_cases e1 : j = 1
    · subst e1
      rw [if_pos rfl]
      rw [hf.os] at k1
      cases k1
      unfold PlG.osV
      unfold slV at k3
      cases hm : g.m with
      | zero =>
        rw [hm] at k3
        simp only [VR] at k3
        rw [k3]
      | succ n =>
        have k5 := (hO (by omega)).2.1
        rw [hm] at k3 k5
        rw [fun_l k5 y k3]
        simp only [p, hm]
    rw [if_neg e1]
    by_cases e6 : j = 6
    · subst e6
      rw [if_pos rfl]
      rw [hf.fs] at k1
      cases k1
      unfold PlG.fsV
      unfold slV at k3
      cases hm : g.m with
      | zero =>
        rw [hm] at k3
        simp only [VR] at k3
        rw [k3]
      | succ n =>
        have k5 := (hF (by omega)).2.1
        rw [hm] at k3 k5
        rw [fun_l k5 y k3]
        simp only [p, hm]
    rw [if_neg e6]
    exact congrArg some k4.symm
  · obtain ⟨_, k1, k2, k3⟩ := hF (by omega)
    refine ⟨get_lt k2, cell_of k2 ?_⟩
    obtain ⟨y, y1, y2⟩ := k3.cell k _ (plids_at hk)
    simp only [i8, VR] at y2
    rw [y1, y2]
    rfl
  · obtain ⟨_, k1, k2, k3⟩ := hF h0
    refine ⟨dF, tF, rF, k2, k3.low, ?_⟩
    have := k3.size
    rw [plids_len] at this
    show infF.off + g.m ≤ _
    omega
  · obtain ⟨_, k1, k2, k3⟩ := hO h0
    refine ⟨dO, tO, rO, k2, k3.low, ?_, fun q v hq => ?_⟩
    · have := k3.size
      rw [plobs_len] at this
      have e : spare (some 14) infO.slack = infO.slack * 14 := rfl
      rw [e] at this
      show infO.off + 14 * (g.m + infO.slack) ≤ _
      omega
    · have hlt := (List.getElem?_eq_some_iff.1 hq).1
      rw [cslen] at hlt
      obtain ⟨x, y, _, h2, h3, _⟩ := csat hlt
      rw [h2] at hq
      cases hq
      exact h3
  · obtain ⟨q, hq⟩ := List.getElem?_of_mem hv
    have hlt := (List.getElem?_eq_some_iff.1 hq).1
    rw [cslen] at hlt
    obtain ⟨x, y, h1, h2, _, h4⟩ := csat hlt
    rw [h2] at hq
    cases hq
    exact oneVV_VR (plobs_one x (List.mem_of_getElem? h1)) h4
  · refine ⟨?_, ?_⟩
    · obtain ⟨y, y1, y2⟩ := csob (k := k) (j := 0) hk (by omega) rfl
      simp only [i8, VR] at y2
      rw [y2] at y1
      exact y1
    · obtain ⟨y, y1, y2⟩ := csob (k := k) (j := 1) hk (by omega) rfl
      simp only [si, VR, b.rho] at y2
      rw [plint30 (by omega)] at y2
      rw [y2] at y1
      exact y1
  · obtain ⟨y, y1, y2⟩ := csob (k := k) (j := 13) hk (by omega) rfl
    simp only [VR] at y2
    rw [y2] at y1
    exact y1
theorem body16 : Try.f16.body = some plbody := rfl
/-- A small field. -/
theorem placed_calls (h : g.OK w0) : Calls Try.prog 16 ⟨[g.v]⟩ w0 fun en w' => ∃ G : StG, en = .returned G.v ∧ PlS g w0 G w' ∧ Below w0.heap.size w0 w' := by
  letI : Ext := XK Try.prog [] (fun _ => False)
  obtain ⟨a, H, c2, c5, e2, e5, hs, hf⟩ := plfin_of (pl_chk (g := g))
  refine calls_of_body (c := plbody) Try.func16 body16 ?_
  have hargs : VRs ⟨fun _ => none, plrho g⟩ [.sym 0] [g.v] := by
    simp only [VRs, VR]
    exact ⟨_, _, rfl, rfl, rfl⟩
  let I : Nat → Nat → Act → World → Prop := fun k t act w => t = 1 ∧ ∃ (p : PlG) (i : Nat) (cs : List Value), p.OK g.m w0 ∧ IsPl g p i act ∧ PlM g p w0 i cs w ∧ i ≤ g.m ∧ k = g.m - i
  have hI : ∀ k t act w', I k t act w' → ∀ c K, ctx t plbody 0 [] = some (c, K) → At1 plbody (.loop c) t K → KOK plbody K → ∀ HD : Nat → Act → World → Prop, (∀ t' act' w'', (∃ j, j < k ∧ I j t' act' w'') → HD t' act' w'' ∧ ∀ c' K', ctx t' plbody 0 [] = some (c', K') → (Code.loop c').wpIn (Fr none) 0 Try.prog (postK Try.prog HD (plQ g w0) K') act' w'') →
      c.wpIn (Fr none) 0 Try.prog (postK Try.prog HD (plQ g w0) (.lp c t :: K)) act w' := by
    rintro k t act w' ⟨rfl, p, i, cs, hp, ha, hm, hi, rfl⟩ c K hc hat hko HD hHD
    by_cases hlt : i < g.m
    · exact pl_round h hp hm hlt hc hat hko ha fun act' w'' cs' ha' hm' => hHD 1 act' w'' ⟨g.m - (i + 1), by omega, rfl, p, i + 1, cs', hp, ha', hm', by omega, rfl⟩
    · obtain rfl : i = g.m := by omega
      exact pl_end h hp hm hc hat hko ha
  refine plain_part (X := XK Try.prog [] (fun _ => False)) (HD := fun t act w => ∃ j, j ≤ g.m ∧ I j t act w) (Q := plQ g w0) (hrcK (noNG_of noNG) mixed) nt16 (fun t _ _ => rfl) trivial hs (ρ := plrho g) (TR_args hargs (by decide) nt16) (pl_env h) (fun r => rfl) (by simp) rfl (fun k hk => hk) fun act' w' φ b => ?_
  obtain ⟨p, cs, hp, ha, hm⟩ := pl_start h hf b
  have hst : I g.m 1 act' w' := ⟨rfl, p, 0, cs, hp, ha, hm, Nat.zero_le _, rfl⟩
  exact ⟨⟨g.m, Nat.le_refl _, hst⟩, fun c' K' hc' => heads_ok hI g.m 1 c' K' hc' _ (Nat.le_refl _) act' w' ⟨_, Nat.le_refl _, hst⟩⟩
end
end
end Go.Proofs.Ytgbhmkdldfhamaa.order
