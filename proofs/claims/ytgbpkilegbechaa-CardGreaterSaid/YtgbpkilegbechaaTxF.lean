/-
  The law CardGreater: a round of the first loop.
-/
import Derived.Test.YtgbpkilegbechaaTxD
import Derived.Test.YtgbpkilegbechaaTxK
namespace Go.Proofs.Ytgbpkilegbechaa.greater
open Go.Ev Go.RowKit
set_option linter.unusedVariables false
noncomputable section
/-- Where all lies. -/
structure GrP where
  b4 : Nat
  o4 : Nat
  b5 : Nat
  o5 : Nat
  b7 : Nat
  o7 : Nat
def u8V (n : Int) : Value := .int .u8 n
structure GrM (p : GrP) (xs ns : Nat → Int) (w0 : World) (d : CdR) (i : Nat) (w : World) : Prop where
  anc : Anc w0 w
  n7 : w0.heap.size ≤ p.b7
  e4 : p.b4 ≠ p.b7
  e5 : p.b5 ≠ p.b7
  dok : d.OK p.b7 i w
  c4 : CellsAt w p.b4 p.o4 [u8V (xs 0), u8V (xs 1), u8V (xs 2)]
  c5 : CellsAt w p.b5 p.o5 [n64 (ns 0), n64 (ns 1), n64 (ns 2)]
  m7 : ∃ c e fr, w.heap[p.b7]? = some (.cells c e fr) ∧ fr.2 ≤ p.o7 ∧ p.o7 + 11 ≤ c.size ∧ ∀ j v, d.cells[j]? = some v → c[p.o7 + j]? = some v
structure GrT (p : GrP) (i : Nat) (act : Act) : Prop where
  sz : act.tmps.size = Try.f5.ntmps
  df : act.defers = []
  t4 : act.tmps.getD 4 undef = .pointer (some ⟨p.b4, p.o4, none⟩)
  t5 : act.tmps.getD 5 undef = .pointer (some ⟨p.b5, p.o5, none⟩)
  t7 : act.tmps.getD 7 undef = .pointer (some ⟨p.b7, p.o7, none⟩)
  t8 : act.tmps.getD 8 undef = n64 (i : Int)
theorem nt5 : Try.f5.ntmps ≤ top := Nat.le_of_ble_eq_true (by kernel_rfl)
/-! ### symbols -/
def cellI (r : AbR) : Nat → Int
  | 0 => r.x.kind
  | 1 => r.x.event
  | 2 => r.x.who
  | 3 => r.x.c0
  | 4 => r.x.c1
  | 5 => r.x.c2
  | 6 => r.x.c3
  | 10 => r.x.op
  | 11 => r.x.a
  | 12 => r.x.b
  | _ => 0
def CdR.last (d : CdR) : AbR := d.r (d.rs.length - 1)
def grint (d : CdR) (xs ns : Nat → Int) (k : Nat) : Int :=
  if k < 10 then d.hd k else if k < 33 then xs (k - 30) else if k < 500 then ns (k - 40) else if k < 600 then d.last.x.tg.getD (k - 500) 0 else if k < 1000 then insC (d.last.x.code.getD ((k - 600) / 3) (0, 0, 0)) ((k - 600) % 3) else cellI (d.r ((k - 1000) / 13)) ((k - 1000) % 13)
def grval (d : CdR) (k : Nat) : Value := if k = 0 then .string d.name else if k = 1 then d.al else if k < 1000 then .slice (some ⟨d.B, d.O + (k - 50) * 13, none⟩) 1 (d.cap - (k - 50)) else (d.r ((k - 1000) / 13)).cells.getD ((k - 1000) % 13) (.bool false)
theorem cells_one (r : AbR) : ∀ v ∈ r.cells, v.oneCell' = true := by
  intro v hv
  simp only [AbR.cells, List.mem_cons, List.not_mem_nil, or_false] at hv
  rcases hv with rfl | rfl | rfl | rfl | rfl | rfl | rfl | rfl | rfl | rfl | rfl | rfl | rfl <;> rfl
def grrho (d : CdR) (p : GrP) (xs ns : Nat → Int) : Rho where
  int := grint d xs ns
  val := grval d
  blk k := if k = 4 then p.b4 else if k = 5 then p.b5 else if k = 90 then d.B else if k = 91 then d.last.tB else if k = 92 then d.last.cB else p.b7
  off k := if k = 4 then p.o4 else if k = 5 then p.o5 else if k = 90 then d.O else if k = 91 then d.last.tO else if k = 92 then d.last.cO else p.o7
  one k := by
    unfold grval
    split
    · rfl
    split
    · rfl
    split
    · rfl
    · rw [List.getD_eq_getElem?_getD]
      cases hx : (d.r ((k - 1000) / 13)).cells[(k - 1000) % 13]? with
      | none => rfl
      | some v => exact cells_one _ v (List.mem_of_getElem? hx)
  lst _ := []
  lcl _ _ h := by cases h
section
variable {w0 w : World} {d : CdR} {p : GrP} {xs ns : Nat → Int} {i z : Nat}
theorem gi {k j : Nat} (hj : j < 13) : grint d xs ns (aI k j) = cellI (d.r k) j := by
  unfold grint aI
  rw [if_neg (by omega), if_neg (by omega), if_neg (by omega), if_neg (by omega), if_neg (by omega), show (1000 + 13 * k + j - 1000) / 13 = k by omega, show (1000 + 13 * k + j - 1000) % 13 = j by omega]
theorem gv {k j : Nat} (hj : j < 13) : grval d (aI k j) = (d.r k).cells.getD j (.bool false) := by
  unfold grval aI
  rw [if_neg (by omega), if_neg (by omega), if_neg (by omega), show (1000 + 13 * k + j - 1000) / 13 = k by omega, show (1000 + 13 * k + j - 1000) % 13 = j by omega]
theorem r_cases (h : d.OK z i w) (k : Nat) : d.r k = AbR.zero ∨ (d.r k).OK z i w := by
  by_cases hk : k < d.rs.length
  · exact .inr (h.rs k _ (CdR.r_of hk)).1
  · left
    unfold CdR.r
    rw [List.getD_eq_getElem?_getD, List.getElem?_eq_none (by omega)]
    rfl
theorem gr_fits (h : d.OK z i w) (hx : ∀ k, 0 ≤ xs k ∧ xs k ≤ 255) (hn : ∀ k, I64 (ns k)) (k : Nat) : I64 (grint d xs ns k) := by
  have insz : ∀ q, I64 (insC (0, 0, 0) q) := fun q => by
    unfold insC
    split <;> exact i64_0
  unfold grint
  split
  · exact h.hd k
  split
  · have := hx (k - 30)
    exact ⟨by omega, by omega⟩
  split
  · exact hn _
  split
  · rcases r_cases h (d.rs.length - 1) with e | e
    · unfold CdR.last
      rw [e]
      exact i64_0
    · rw [List.getD_eq_getElem?_getD]
      cases hy : d.last.x.tg[k - 500]? with
      | none => exact i64_0
      | some y => exact e.tf y (List.mem_of_getElem? hy)
  split
  · rcases r_cases h (d.rs.length - 1) with e | e
    · unfold CdR.last
      rw [e]
      exact insz _
    · rw [List.getD_eq_getElem?_getD]
      cases hy : d.last.x.code[(k - 600) / 3]? with
      | none =>
        exact insz _
      | some y =>
        have := e.cf y (List.mem_of_getElem? hy)
        show I64 (insC y _)
        unfold insC
        split
        · exact this.1
        · exact this.2.1
        · exact this.2.2
  · rcases r_cases h ((k - 1000) / 13) with e | e
    · rw [e]
      unfold cellI
      split <;> exact i64_0
    · have := e.ints
      unfold cellI
      split <;> first | exact i64_0 | exact this _ (by simp)
theorem cons_VR {φ : Phi} {x : VV} {v : Value} {l : List VV} {vs : List Value} (h : VR φ x v) (k : VRs φ l vs) : VRs φ (x :: l) (v :: vs) := by
  simp only [VRs]
  exact ⟨v, vs, rfl, h, k⟩
theorem nil_VR {φ : Phi} : VRs φ [] [] := by simp only [VRs]
theorem VRs_app {φ : Phi} : ∀ {a b : List VV} {va vb : List Value}, VRs φ a va → VRs φ b vb → VRs φ (a ++ b) (va ++ vb)
  | [], b, va, vb, h, k => by
    simp only [VRs] at h
    subst h
    exact k
  | x :: a, b, va, vb, h, k => by
    simp only [VRs] at h
    obtain ⟨v, vs, rfl, h1, h2⟩ := h
    exact cons_VR h1 (VRs_app h2 k)
theorem int_VR {φ : Phi} (hφ : φ.ρ = grrho d p xs ns) {k j : Nat} (hj : j < 13) : VR φ (si (aI k j)) (n64 (cellI (d.r k) j)) := by
  simp only [si, VR, hφ]
  show n64 _ = Value.int .i64 (grint d xs ns (aI k j))
  rw [gi hj]
  rfl
theorem sym_VR {φ : Phi} (hφ : φ.ρ = grrho d p xs ns) {k j : Nat} {v : Value} (hj : j < 13) (hv : (d.r k).cells[j]? = some v) : VR φ (.sym (aI k j)) v := by
  simp only [VR, hφ]
  show _ = grval d (aI k j)
  rw [gv hj, List.getD_eq_getElem?_getD, hv]
  rfl
theorem abVV_VR {φ : Phi} (hφ : φ.ρ = grrho d p xs ns) {k : Nat} {tp tg cd : VV} (h7 : VR φ tp (.bool (d.r k).x.tap)) (h8 : VR φ tg (.slice (d.r k).ta (d.r k).x.tg.length (d.r k).tc)) (h9 : VR φ cd (.slice (d.r k).ca (d.r k).x.code.length (d.r k).cc)) : VRs φ (abVV k tp tg cd) (d.r k).cells :=
  cons_VR (int_VR hφ (by omega)) (cons_VR (int_VR hφ (by omega)) (cons_VR (int_VR hφ (by omega)) (cons_VR (int_VR hφ (by omega)) (cons_VR (int_VR hφ (by omega)) (cons_VR (int_VR hφ (by omega)) (cons_VR (int_VR hφ (by omega)) (cons_VR h7 (cons_VR h8 (cons_VR h9 (cons_VR (int_VR hφ (by omega)) (cons_VR (int_VR hφ (by omega)) (cons_VR (int_VR hφ (by omega)) nil_VR))))))))))))
theorem abV_VR {φ : Phi} (hφ : φ.ρ = grrho d p xs ns) {k : Nat} : VRs φ (abV k) (d.r k).cells :=
  abVV_VR hφ (sym_VR hφ (by omega) rfl) (sym_VR hφ (by omega) rfl) (sym_VR hφ (by omega) rfl)
/-- The abilities' cells, one behind the other. -/
def flat (d : CdR) : Nat → List Value
  | 0 => []
  | k + 1 => flat d k ++ (d.r k).cells
theorem flat_len : ∀ k, (flat d k).length = 13 * k
  | 0 => rfl
  | k + 1 => by
    show (flat d k ++ (d.r k).cells).length = _
    rw [List.length_append, flat_len k]
    show 13 * k + 13 = _
    omega
theorem absV_VR {φ : Phi} (hφ : φ.ρ = grrho d p xs ns) : ∀ k, VRs φ (absV k) (flat d k)
  | 0 => nil_VR
  | k + 1 => VRs_app (absV_VR hφ k) (abV_VR hφ)
theorem flat_at : ∀ {k q : Nat} {v : Value}, (flat d k)[q]? = some v → ∃ m, m < k ∧ ∃ j, j < 13 ∧ q = 13 * m + j ∧ (d.r m).cells[j]? = some v
  | 0, q, v, h => by simp [flat] at h
  | k + 1, q, v, h => by
    have h : (flat d k ++ (d.r k).cells)[q]? = some v := h
    by_cases hq : q < 13 * k
    · rw [List.getElem?_append_left (by rw [flat_len]; exact hq)] at h
      obtain ⟨m, h1, j, h2, h3, h4⟩ := flat_at h
      exact ⟨m, by omega, j, h2, h3, h4⟩
    · rw [List.getElem?_append_right (by rw [flat_len]; omega), flat_len] at h
      have : q - 13 * k < 13 := by
        have := (List.getElem?_eq_some_iff.1 h).1
        exact this
      exact ⟨k, by omega, q - 13 * k, this, by omega, h⟩
theorem flat_cells (h : d.OK z i w) (h0 : 0 < d.rs.length) : CellsAt w d.B d.O (flat d d.rs.length) ∧ d.B ≠ z := by
  obtain ⟨_, _, g3, g4, _⟩ := h.rs 0 _ (CdR.r_of h0)
  refine ⟨⟨g4, fun q v hq => ?_⟩, g3⟩
  obtain ⟨m, h1, j, h2, rfl, h4⟩ := flat_at hq
  have := (h.rs m _ (CdR.r_of h1)).2.2.2.2 j v h4
  rw [show d.O + (13 * m + j) = d.O + m * 13 + j by omega]
  exact this
theorem VRs_get {φ : Phi} : ∀ {l : List VV} {vs : List Value} {j : Nat} {x : VV}, VRs φ l vs → l[j]? = some x → ∃ v, vs[j]? = some v ∧ VR φ x v
  | [], vs, j, x, _, hx => by simp at hx
  | y :: l, vs, 0, x, h, hx => by
    simp only [VRs] at h
    obtain ⟨v, us, rfl, h1, h2⟩ := h
    cases hx
    exact ⟨v, rfl, h1⟩
  | y :: l, vs, j + 1, x, h, hx => by
    simp only [VRs] at h
    obtain ⟨v, us, rfl, h1, h2⟩ := h
    obtain ⟨u, g1, g2⟩ := VRs_get h2 (by simpa using hx)
    exact ⟨u, by simpa using g1, g2⟩
theorem less_blk {φ : Phi} {B O : Nat} {l : List VV} {vs : List Value} (h : CellsAt w B O vs) (hv : VRs φ l vs) (hne : B ≠ z) : B < (less w z).heap.size ∧ ∀ j x, l[j]? = some x → ∃ v, (less w z).cell? ⟨B, O + j, none⟩ = some v ∧ VR φ x v :=
  ⟨by rw [less_size]; exact h.1, fun j x hx => by
    obtain ⟨v, g1, g2⟩ := VRs_get hv hx
    exact ⟨v, cell_less (h.2 j v g1) hne, g2⟩⟩
theorem here_blk {φ : Phi} {B O : Nat} {l : List VV} {vs : List Value} (h : CellsAt w B O vs) (hv : VRs φ l vs) : B < w.heap.size ∧ ∀ j x, l[j]? = some x → ∃ v, w.cell? ⟨B, O + j, none⟩ = some v ∧ VR φ x v :=
  ⟨h.1, fun j x hx => by
    obtain ⟨v, g1, g2⟩ := VRs_get hv hx
    exact ⟨v, h.2 j v g1, g2⟩⟩
theorem hd_VR {φ : Phi} (hφ : φ.ρ = grrho d p xs ns) {al : VV} (ha : VR φ al d.al) : VRs φ (hdV ++ [al]) d.cells := by
  have n : ∀ k, k < 10 → VR φ (si k) (n64 (d.hd k)) := fun k hk => by
    simp only [si, VR, hφ]
    show n64 _ = Value.int .i64 (grint d xs ns k)
    unfold grint
    rw [if_pos hk]
    rfl
  have s : VR φ (.sym 0) (.string d.name) := by
    simp only [VR, hφ]
    rfl
  exact cons_VR s (cons_VR (n 1 (by omega)) (cons_VR (n 2 (by omega)) (cons_VR (n 3 (by omega)) (cons_VR (n 4 (by omega)) (cons_VR (n 5 (by omega)) (cons_VR (n 6 (by omega)) (cons_VR (n 7 (by omega)) (cons_VR (n 8 (by omega)) (cons_VR (n 9 (by omega)) (cons_VR ha nil_VR))))))))))
theorem al_VR {φ : Phi} (hφ : φ.ρ = grrho d p xs ns) (h : d.OK z i w) : VR φ (alV d.rs.length d.oa.isSome d.cap) d.al := by
  unfold CdR.al
  cases hn : d.rs.length with
  | zero =>
    have hrs : d.rs = [] := List.length_eq_zero_iff.1 hn
    rcases h.e hrs with ⟨e1, e2⟩ | ⟨a, e1⟩
    · rw [e1, e2]
      simp only [alV, Option.isSome_none, VR]
    · rw [e1]
      simp only [alV, Option.isSome_some, VR]
      exact ⟨_, _, rfl⟩
  | succ m =>
    obtain ⟨_, g2, _⟩ := h.rs 0 _ (CdR.r_of (by omega))
    rw [g2]
    simp only [alV, VR, AR]
    exact ⟨_, _, ⟨rfl, rfl⟩, by rw [hφ]; rfl⟩
/-- The variant. -/
def vaOf (d : CdR) (f : Nat) : Va := if f = 14 then ⟨some d.last.x.tap, none, none⟩ else if f = 15 then ⟨none, some d.last.x.tg.length, none⟩ else if f = 17 then ⟨none, none, some d.last.x.code.length⟩ else ⟨none, none, none⟩
def c2Of (d : CdR) (f : Nat) : Nat := if f = 15 then d.last.tc else d.last.cc
theorem last_len (h : d.OK z i w) : d.last.x.tg.length ≤ 1 + i ∧ d.last.x.code.length ≤ 2 + i := by
  rcases r_cases h (d.rs.length - 1) with e | e
  · unfold CdR.last
    rw [e]
    exact ⟨Nat.zero_le _, Nat.zero_le _⟩
  · exact ⟨e.tl, e.cl⟩
theorem va_mem (h : d.OK z i w) (f : Nat) : vaOf d f ∈ vas i f := by
  obtain ⟨h1, h2⟩ := last_len h
  unfold vaOf
  by_cases e14 : f = 14
  · subst e14
    rw [if_pos rfl]
    cases d.last.x.tap <;> simp [vas]
  rw [if_neg e14]
  by_cases e15 : f = 15
  · subst e15
    rw [if_pos rfl]
    simp only [vas, List.mem_map, List.mem_range]
    exact ⟨_, by omega, rfl⟩
  rw [if_neg e15]
  by_cases e17 : f = 17
  · subst e17
    rw [if_pos rfl]
    simp only [vas, List.mem_map, List.mem_range]
    exact ⟨_, by omega, rfl⟩
  rw [if_neg e17]
  unfold vas
  split
  · exact absurd rfl e14
  · exact absurd rfl e15
  · exact absurd rfl e17
  · exact List.mem_singleton.2 rfl
theorem es_mem (n : Nat) (o : Option Addr) : ∃ e ∈ esOf n, alV n e = alV n o.isSome := by
  cases n with
  | zero => exact ⟨o.isSome, by cases o.isSome <;> simp [esOf], rfl⟩
  | succ n => exact ⟨false, by simp [esOf], by cases o.isSome <;> rfl⟩
theorem ls_VR {φ : Phi} {s c n : Nat} {a : Option Addr} {tc : Nat} (hb : a = some ⟨φ.ρ.blk s, φ.ρ.off s, none⟩ ∨ n = 0) (h0 : n = 0 → a = none ∧ tc = 0) (hc : c = tc) : VR φ (lsVV s c n) (.slice a n tc) := by
  subst hc
  cases n with
  | zero =>
    obtain ⟨e1, e2⟩ := h0 rfl
    rw [e1, e2]
    simp only [lsVV, VR]
  | succ n =>
    rcases hb with e | e
    · rw [e]
      simp only [lsVV, VR, AR]
      exact ⟨_, _, ⟨rfl, rfl⟩, rfl⟩
    · cases e
theorem last_VR {φ : Phi} (hφ : φ.ρ = grrho d p xs ns) (h : d.OK z i w) {k : Nat} (hk : d.rs.length = k + 1) (f : Nat) : VRs φ (lastV k (vaOf d f) (c2Of d f)) (d.r k).cells := by
  have hl : d.last = d.r k := by
    unfold CdR.last
    rw [hk]
    rfl
  have ok : (d.r k).OK z i w := (h.rs k _ (CdR.r_of (by omega))).1
  have b91 : φ.ρ.blk 91 = (d.r k).tB ∧ φ.ρ.off 91 = (d.r k).tO := by rw [hφ, ← hl]; exact ⟨rfl, rfl⟩
  have b92 : φ.ρ.blk 92 = (d.r k).cB ∧ φ.ρ.off 92 = (d.r k).cO := by rw [hφ, ← hl]; exact ⟨rfl, rfl⟩
  unfold lastV
  refine abVV_VR hφ ?_ ?_ ?_
  · unfold tapVV vaOf
    by_cases e14 : f = 14
    · rw [if_pos e14, hl]
      simp only [VR]
    rw [if_neg e14]
    have : VR φ (.sym (aI k 7)) (.bool (d.r k).x.tap) := sym_VR hφ (by omega) rfl
    by_cases e15 : f = 15
    · rw [if_pos e15]
      exact this
    rw [if_neg e15]
    by_cases e17 : f = 17
    · rw [if_pos e17]
      exact this
    · rw [if_neg e17]
      exact this
  · unfold tgVV vaOf c2Of
    by_cases e15 : f = 15
    · subst e15
      rw [if_neg (by decide), if_pos rfl, if_pos rfl, hl]
      refine ls_VR ?_ (fun h0 => ok.tz (List.length_eq_zero_iff.1 h0)) rfl
      by_cases hn : (d.r k).x.tg = []
      · exact .inr (by rw [hn]; rfl)
      · left
        rw [b91.1, b91.2]
        exact (ok.tm hn).1
    · have : VR φ (.sym (aI k 8)) (.slice (d.r k).ta (d.r k).x.tg.length (d.r k).tc) := sym_VR hφ (by omega) rfl
      by_cases e14 : f = 14
      · rw [if_pos e14]
        exact this
      rw [if_neg e14, if_neg e15]
      by_cases e17 : f = 17
      · rw [if_pos e17]
        exact this
      · rw [if_neg e17]
        exact this
  · unfold cdVV vaOf c2Of
    by_cases e17 : f = 17
    · subst e17
      rw [if_neg (by decide), if_neg (by decide), if_pos rfl, if_neg (by decide), hl]
      refine ls_VR ?_ (fun h0 => ok.cz (List.length_eq_zero_iff.1 h0)) rfl
      by_cases hn : (d.r k).x.code = []
      · exact .inr (by rw [hn]; rfl)
      · left
        rw [b92.1, b92.2]
        exact (ok.cm hn).1
    · have : VR φ (.sym (aI k 9)) (.slice (d.r k).ca (d.r k).x.code.length (d.r k).cc) := sym_VR hφ (by omega) rfl
      by_cases e14 : f = 14
      · rw [if_pos e14]
        exact this
      rw [if_neg e14]
      by_cases e15 : f = 15
      · rw [if_pos e15]
        exact this
      · rw [if_neg e15, if_neg e17]
        exact this
end
end
end Go.Proofs.Ytgbpkilegbechaa.greater
namespace Go.Proofs.Ytgbpkilegbechaa.greater
open Go.Ev Go.RowKit
set_option linter.unusedVariables false
noncomputable section
section
variable {w0 w : World} {d : CdR} {p : GrP} {xs ns : Nat → Int} {i z : Nat} {act : Act} {HD : Nat → Act → World → Prop} {Q : Exit → Act → World → Prop}
theorem x3_VR {φ : Phi} (hφ : φ.ρ = grrho d p xs ns) : VRs φ [s8 30, s8 31, s8 32] [u8V (xs 0), u8V (xs 1), u8V (xs 2)] := by
  refine cons_VR ?_ (cons_VR ?_ (cons_VR ?_ nil_VR)) <;> (simp only [s8, VR, hφ]; rfl)
theorem n3_VR {φ : Phi} (hφ : φ.ρ = grrho d p xs ns) : VRs φ [si 40, si 41, si 42] [n64 (ns 0), n64 (ns 1), n64 (ns 2)] := by
  refine cons_VR ?_ (cons_VR ?_ (cons_VR ?_ nil_VR)) <;> (simp only [si, VR, hφ]; rfl)
theorem intsV_VR {φ : Phi} : ∀ {n k : Nat} {f : Nat → Int}, (∀ j, j < n → φ.ρ.int (k + j) = f j) → VRs φ (intsV n k) ((List.range n).map fun j => n64 (f j))
  | 0, k, f, h => nil_VR
  | n + 1, k, f, h => by
    rw [List.range_succ_eq_map, List.map_cons, List.map_map]
    refine cons_VR ?_ (intsV_VR fun j hj => ?_)
    · simp only [si, VR]
      have := h 0 (by omega)
      rw [Nat.add_zero] at this
      rw [this]
      rfl
    · rw [show k + 1 + j = k + (j + 1) by omega]
      exact h (j + 1) (by omega)
theorem fld_ok (hx : ∀ k, 0 ≤ xs k ∧ xs k ≤ 255) (hi : i < 3) {f : Nat} (hf : xs i % 30 = (f : Int)) : FsOK [.bin .rem (s8 (30 + i)) (.int .u8 30) (.int .u8 (f : Int))] (grrho d p xs ns) := by
  have e : grint d xs ns (30 + i) = xs i := by
    unfold grint
    rw [if_neg (by omega), if_pos (by omega), Nat.add_sub_cancel_left]
  refine fs_cons (fact_rem (a := xs i) (b := 30) ?_ rfl (by omega) ?_) fs_nil
  · show some (Value.int .u8 (grint d xs ns (30 + i))) = _
    rw [e]
  · show some (Value.int .u8 (f : Int)) = _
    rw [← hf, Int.tmod_eq_emod_of_nonneg (hx i).1]
theorem gr_tmps {φ : Phi} (hφ : φ.ρ = grrho d p xs ns) (ha : GrT p i act) {t7 : VV} (h7 : VR φ t7 (.pointer (some ⟨p.b7, p.o7, none⟩))) : ∀ q ∈ grT i t7, q.1 < top ∧ VR φ q.2 (act.tmps.getD q.1 undef) := by
  intro q hq
  simp only [grT, List.mem_cons, List.not_mem_nil, or_false] at hq
  rcases hq with rfl | rfl | rfl | rfl
  · exact ⟨show 4 < top by decide, by simp only [ha.t4, VR, AR, hφ]; exact ⟨_, _, ⟨rfl, rfl⟩, rfl⟩⟩
  · exact ⟨show 5 < top by decide, by simp only [ha.t5, VR, AR, hφ]; exact ⟨_, _, ⟨rfl, rfl⟩, rfl⟩⟩
  · exact ⟨show 7 < top by decide, by simp only [ha.t7]; exact h7⟩
  · exact ⟨show 8 < top by decide, by simp only [ha.t8, i8, VR]; rfl⟩
theorem gr_back {φ : Phi} {t7 : VV} (hφ : φ.ρ = grrho d p xs ns) (hsz : act.tmps.size = Try.f5.ntmps) (hd : act.defers = []) (hq : ∀ q ∈ grT i t7, VR φ q.2 (act.tmps.getD q.1 undef)) (h7 : ∀ v, VR φ t7 v → v = .pointer (some ⟨p.b7, p.o7, none⟩)) : GrT p i act := by
  have a4 := hq (4, .ptr (some ⟨.sym 4, 0⟩)) (by simp [grT])
  have a5 := hq (5, .ptr (some ⟨.sym 5, 0⟩)) (by simp [grT])
  have a7 := hq (7, t7) (by simp [grT])
  have a8 := hq (8, i8 i) (by simp [grT])
  simp only [VR, AR, hφ] at a4 a5
  simp only [i8, VR] at a8
  obtain ⟨_, _, ⟨rfl, rfl⟩, a4⟩ := a4
  obtain ⟨_, _, ⟨rfl, rfl⟩, a5⟩ := a5
  exact ⟨hsz, hd, a4, a5, h7 _ a7, a8⟩
theorem grok_of {n : Nat} {o : Option SegO} (h : grok i n o = true) : ∃ a H c et, o = some (.cut 0 a H) ∧ keepL a (grT (i + 1) (.ptr (some ⟨.loc 0, 0⟩))) = true ∧ H.locs.get 0 = some (.cells c none 0 et) ∧ cdB H 0 (i + 1) n c = true := by
  unfold grok at h
  split at h
  · split at h
    · rename_i h1 h2
      exact ⟨_, _, _, _, rfl, h1, h2, h⟩
    · cases h
  · cases h
/-- What a part that may change the card's place knows. -/
theorem gr_env (hx : ∀ k, 0 ≤ xs k ∧ xs k ≤ 255) (hn : ∀ k, I64 (ns k)) (hM : GrM p xs ns w0 d i w) (hi : i < 3) {f : Nat} (hf : xs i % 30 = (f : Int)) {inf : Inf} : @EnvOK (XK Try.prog [] (fun k => k = p.b7)) (grE i d.rs.length f (vaOf d f) (c2Of d f)) ⟨oneF inf, grrho d p xs ns⟩ (less w p.b7) := by
  have hd := hM.dok
  refine @EnvOK.mk (XK Try.prog [] (fun k => k = p.b7)) _ _ _ (fun e he => by cases he) (ivs_nil (gr_fits hd hx hn)) (fun x hx' => FactOK.w (fld_ok hx hi hf x hx')) fun k c hk => ?_
  simp only [grE, grB] at hk
  have ok : 0 < d.rs.length → d.last = d.r (d.rs.length - 1) ∧ d.last.OK p.b7 i w := fun h0 => ⟨rfl, (hd.rs _ _ (CdR.r_of (by omega))).1⟩
  split at hk
  · cases hk
    exact less_blk hM.c4 (x3_VR rfl) hM.e4
  · cases hk
    exact less_blk hM.c5 (n3_VR rfl) hM.e5
  · cases hl : d.rs.length with
    | zero => rw [hl] at hk; cases hk
    | succ m =>
      rw [hl] at hk
      cases hk
      obtain ⟨g1, g2⟩ := flat_cells hd (by omega)
      rw [hl] at g1
      exact less_blk g1 (VRs_app (absV_VR rfl m) (last_VR rfl hd hl f)) g2
  · split at hk
    · rename_i t ht
      cases hk
      have e15 : d.last.x.tg.length = t + 1 := by
        unfold vaOf at ht
        split at ht
        · cases ht
        split at ht
        · simpa using ht
        split at ht <;> cases ht
      have h0 : 0 < d.rs.length := by
        rcases Nat.eq_zero_or_pos d.rs.length with h0 | h0
        · have : d.last = AbR.zero := by
            unfold CdR.last CdR.r
            rw [List.length_eq_zero_iff.1 h0]
            rfl
          rw [this] at e15
          cases e15
        · exact h0
      obtain ⟨m1, m2, m3, m4⟩ := (ok h0).2.tm (fun he => by rw [he] at e15; cases e15)
      have hc : CellsAt w d.last.tB d.last.tO ((List.range (t + 1)).map fun j => n64 (d.last.x.tg.getD j 0)) := ⟨m3, fun j v hj => by
        have hj' : j < t + 1 := by
          have := (List.getElem?_eq_some_iff.1 hj).1
          simpa using this
        rw [List.getElem?_map, List.getElem?_range hj'] at hj
        cases hj
        dsimp only
        rw [List.getD_eq_getElem?_getD, List.getElem?_eq_getElem (by omega)]
        exact m4 j _ (List.getElem?_eq_getElem (by omega))⟩
      have hlen : t + 1 ≤ 100 := by have := (ok h0).2.tl; omega
      exact less_blk hc (intsV_VR (f := fun j => d.last.x.tg.getD j 0) fun j hj => by
        show grint d xs ns (500 + j) = _
        unfold grint
        rw [if_neg (by omega), if_neg (by omega), if_neg (by omega), if_pos (by omega), Nat.add_sub_cancel_left]) m2
    · cases hk
  · split at hk
    · rename_i t ht
      cases hk
      have e17 : d.last.x.code.length = t + 1 := by
        unfold vaOf at ht
        split at ht
        · cases ht
        split at ht
        · cases ht
        split at ht
        · simpa using ht
        · cases ht
      have h0 : 0 < d.rs.length := by
        rcases Nat.eq_zero_or_pos d.rs.length with h0 | h0
        · have : d.last = AbR.zero := by
            unfold CdR.last CdR.r
            rw [List.length_eq_zero_iff.1 h0]
            rfl
          rw [this] at e17
          cases e17
        · exact h0
      obtain ⟨m1, m2, m3, m4⟩ := (ok h0).2.cm (fun he => by rw [he] at e17; cases e17)
      have hlen : t + 1 ≤ 100 := by have := (ok h0).2.cl; omega
      have hc : CellsAt w d.last.cB d.last.cO ((List.range (3 * (t + 1))).map fun j => n64 (insC (d.last.x.code.getD (j / 3) (0, 0, 0)) (j % 3))) := ⟨m3, fun j v hj => by
        have hj' : j < 3 * (t + 1) := by
          have := (List.getElem?_eq_some_iff.1 hj).1
          simpa using this
        rw [List.getElem?_map, List.getElem?_range hj'] at hj
        cases hj
        have := m4 (j / 3) _ (List.getElem?_eq_getElem (by omega)) (j % 3) (by omega)
        rw [show d.last.cO + j / 3 * 3 + j % 3 = d.last.cO + j by omega] at this
        dsimp only
        rw [this, List.getD_eq_getElem?_getD, List.getElem?_eq_getElem (show j / 3 < d.last.x.code.length by omega)]
        rfl⟩
      exact less_blk hc (intsV_VR (f := fun j => insC (d.last.x.code.getD (j / 3) (0, 0, 0)) (j % 3)) fun j hj => by
        show grint d xs ns (600 + j) = _
        unfold grint
        rw [if_neg (by omega), if_neg (by omega), if_neg (by omega), if_neg (by omega), if_pos (by omega), Nat.add_sub_cancel_left]) m2
    · cases hk
  · cases hk
/-- A round that turns the card. -/
theorem gr_round (hx : ∀ k, 0 ≤ xs k ∧ xs k ≤ 255) (hn : ∀ k, I64 (ns k)) (hM : GrM p xs ns w0 d i w) (hi : i < 3) {f : Nat} (hf : xs i % 30 = (f : Int)) (hf24 : f < 24) (ha : GrT p i act) {c : Code} {K : List Fr1} (hc : ctx 0 grbody 0 [] = some (c, K)) (hat : At1 grbody (.loop c) 0 K) (hko : KOK grbody K)
    (hgo : ∀ act' w' d', GrT p (i + 1) act' → GrM p xs ns w0 d' (i + 1) w' → HD 0 act' w' ∧ ∀ c' K', ctx 0 grbody 0 [] = some (c', K') → (Code.loop c').wpIn (Fr none) 0 Try.prog (postK Try.prog HD Q K') act' w') :
    c.wpIn (Fr none) 0 Try.prog (postK Try.prog HD Q (.lp c 0 :: K)) act w := by
  letI : Ext := XK Try.prog [] (fun k => k = p.b7)
  have hd := hM.dok
  have hlen := hd.len
  obtain ⟨e, e1, e2⟩ := es_mem d.rs.length d.oa
  obtain ⟨a, H, cc, et, hseg, hkeep, hloc, hcd⟩ := grok_of (gr_chk (c := d.cap) (c2 := c2Of d f) hi (show d.rs.length < 3 + i by omega) hf24 e1 (va_mem hd f))
  unfold grrun at hseg
  rw [hc] at hseg
  simp only at hseg
  obtain ⟨c0, e0, fr0, m1, m2, m3, m4⟩ := hM.m7
  let inf : Inf := ⟨p.b7, p.o7, 0⟩
  let ρ := grrho d p xs ns
  have hal : VRs ⟨oneF inf, ρ⟩ (hdV ++ [alV d.rs.length e d.cap]) d.cells := hd_VR rfl (by rw [show alV d.rs.length e d.cap = alV d.rs.length d.oa.isSome d.cap from congrFun e2 _]; exact al_VR rfl hd)
  have hO : OR ⟨oneF inf, ρ⟩ inf (.cells (hdV ++ [alV d.rs.length e d.cap]) none 0 none) (.cells c0 e0 fr0) := by
    refine ⟨c0, e0, fr0, rfl, m3, fun _ => rfl, fun j x hj => ?_, by show fr0.2 ≤ p.o7 + 0; omega, fun t ht => by cases ht⟩
    obtain ⟨v, v1, v2⟩ := VRs_get hal hj
    exact ⟨v, m4 j v v1, v2⟩
  have htr : TR ⟨oneF inf, ρ⟩ (mkT Try.f5.ntmps (grT i (.ptr (some ⟨.loc 0, 0⟩)))) act.tmps := by
    have h1 := gr_tmps (φ := ⟨oneF inf, ρ⟩) (d := d) (xs := xs) (ns := ns) rfl ha (t7 := .ptr (some ⟨.loc 0, 0⟩)) (by
      simp only [VR, AR]
      exact ⟨_, _, ⟨inf, rfl, rfl, rfl⟩, rfl⟩)
    exact mkT_TR ha.sz nt5 h1
  refine own_part (X := XK Try.prog [] (fun k => k = p.b7)) (inf := inf) (ρ := ρ) (hrcK (noNG_of noNG) mixed) nt5 hat.loop.2 hko hseg htr (gr_env hx hn hM hi hf) (fun r => rfl) m1 hO ha.sz ha.df (fun k => Iff.rfl) fun act' w' φ b => ?_
  have hpin := b.pin 0 inf rfl
  obtain ⟨inf', c', e', fr', q1, q2, q3⟩ := b.blk hloc
  rw [hpin] at q1
  cases q1
  have same : ∀ k, k < w.heap.size → k ≠ p.b7 → w'.heap[k]? = w.heap[k]? := fun k hk hne => b.same k hk hne
  have hS : Src φ d.rs inf.blk (i + 1) w' := by
    refine ⟨fun k => by rw [b.rho]; exact gr_fits hd hx hn k, ⟨d.name, by rw [b.rho]; rfl, hd.nm⟩, fun k r hr => ?_⟩
    have hk := (List.getElem?_eq_some_iff.1 hr).1
    have er : r = d.r k := by
      rw [CdR.r_of hk] at hr
      exact (Option.some.inj hr).symm
    subst er
    have cell : ∀ {j : Nat} {v : Value}, j < 13 → (d.r k).cells[j]? = some v → φ.ρ.val (aI k j) = v := fun {j v} hj hv => by
      rw [b.rho]
      show grval d (aI k j) = _
      rw [gv hj, List.getD_eq_getElem?_getD, hv]
      rfl
    exact ⟨(hd.rs k _ hr).1.later (by omega) b.wk.size same, cell (by omega) rfl, cell (by omega) rfl, cell (by omega) rfl⟩
  have hvs : VRs φ cc ((List.range cc.length).map fun j => (c'[p.o7 + j]?).getD (.bool false)) := VRs_of fun j x hj => by
    obtain ⟨u, u1, u2⟩ := q3.cell j x hj
    show VR φ x ((c'[p.o7 + j]?).getD _)
    rw [show c'[p.o7 + j]? = some u from u1]
    exact u2
  obtain ⟨d', g1, g2⟩ := card_of rfl b.sim hloc hpin hS hcd hvs
  have l11 : cc.length = 11 := by
    have := congrArg List.length g1
    rw [List.length_map, List.length_range] at this
    rw [← this]
    rfl
  refine hgo act' w' d' (gr_back b.rho b.sz b.df (keepL_VR b.tr hkeep) fun v hv => ?_) ⟨⟨hM.anc.wk.trans b.wk, fun k hk => ?_⟩, hM.n7, hM.e4, hM.e5, g2, hM.c4.later b.wk.size (same _ hM.c4.1 hM.e4), hM.c5.later b.wk.size (same _ hM.c5.1 hM.e5), c', e', fr', q2, q3.low, ?_, fun j v hj => ?_⟩
  · simp only [VR, AR] at hv
    obtain ⟨_, _, ⟨jnf, j1, rfl, rfl⟩, rfl⟩ := hv
    rw [hpin] at j1
    cases j1
    rfl
  · have := hM.anc.wk.size
    have := hM.n7
    rw [same k (by omega) (by omega), hM.anc.old k hk]
  · have := q3.size
    rw [l11] at this
    have e : spare none inf.slack = 0 := rfl
    rw [e] at this
    exact this
  · rw [g1] at hj
    have hj' : j < 11 := by
      have := (List.getElem?_eq_some_iff.1 hj).1
      rw [List.length_map, List.length_range, l11] at this
      exact this
    rw [List.getElem?_map, List.getElem?_range (by rw [l11]; exact hj')] at hj
    cases hj
    obtain ⟨u, u1, _⟩ := q3.cell j _ (List.getElem?_eq_getElem (by rw [l11]; exact hj'))
    have u1 : c'[p.o7 + j]? = some u := u1
    show c'[p.o7 + j]? = some ((c'[p.o7 + j]?).getD (.bool false))
    rw [u1]
    rfl
/-- A round that does nothing. -/
theorem gr_skip (hx : ∀ k, 0 ≤ xs k ∧ xs k ≤ 255) (hn : ∀ k, I64 (ns k)) (hM : GrM p xs ns w0 d i w) (hi : i < 3) {f : Nat} (hf : xs i % 30 = (f : Int)) (hf24 : 24 ≤ f) (hf30 : f < 30) (ha : GrT p i act) {c : Code} {K : List Fr1} (hc : ctx 0 grbody 0 [] = some (c, K)) (hat : At1 grbody (.loop c) 0 K) (hko : KOK grbody K)
    (hgo : ∀ act' w' d', GrT p (i + 1) act' → GrM p xs ns w0 d' (i + 1) w' → HD 0 act' w' ∧ ∀ c' K', ctx 0 grbody 0 [] = some (c', K') → (Code.loop c').wpIn (Fr none) 0 Try.prog (postK Try.prog HD Q K') act' w') :
    c.wpIn (Fr none) 0 Try.prog (postK Try.prog HD Q (.lp c 0 :: K)) act w := by
  letI : Ext := XK Try.prog [] (fun _ => False)
  have hd := hM.dok
  have hchk := grsk_chk hi hf24 hf30
  unfold grsk at hchk
  split at hchk
  · rename_i a H hseg
    unfold grskip at hseg
    rw [hc] at hseg
    simp only at hseg
    have hE : EnvOK (grE i 0 f ⟨none, none, none⟩ 0) ⟨fun _ => none, grrho d p xs ns⟩ w := by
      refine EnvOK.mk (fun e he => by cases he) (ivs_nil (gr_fits hd hx hn)) (fun x hx' => FactOK.w (fld_ok hx hi hf x hx')) fun k c hk => ?_
      simp only [grE, grB] at hk
      split at hk
      · cases hk
        exact here_blk hM.c4 (x3_VR rfl)
      · cases hk
        exact here_blk hM.c5 (n3_VR rfl)
      · cases hk
      · cases hk
      · cases hk
      · cases hk
    have htr : TR ⟨fun _ => none, grrho d p xs ns⟩ (mkT Try.f5.ntmps (grT i (.ptr (some ⟨.sym 7, 0⟩)))) act.tmps := by
      have h1 := gr_tmps (φ := ⟨fun _ => none, grrho d p xs ns⟩) (d := d) (xs := xs) (ns := ns) rfl ha (t7 := .ptr (some ⟨.sym 7, 0⟩)) (by
        simp only [VR, AR]
        exact ⟨_, _, ⟨rfl, rfl⟩, rfl⟩)
      exact mkT_TR ha.sz nt5 h1
    refine plain_part (X := XK Try.prog [] (fun _ => False)) (ρ := grrho d p xs ns) (hrcK (noNG_of noNG) mixed) nt5 hat.loop.2 hko hseg htr hE (fun r => rfl) ha.sz ha.df (fun k h => h) fun act' w' φ b => ?_
    have same : ∀ k, k < w.heap.size → w'.heap[k]? = w.heap[k]? := fun k hk => b.same k hk (fun h => h)
    obtain ⟨c0, e0, fr0, m1, m2, m3, m4⟩ := hM.m7
    refine hgo act' w' d (gr_back b.rho b.sz b.df (keepL_VR b.tr hchk) fun v hv => ?_) ⟨hM.anc.trans ⟨b.wk, same⟩, hM.n7, hM.e4, hM.e5, hd.later (by omega) b.wk.size (fun k hk _ => same k hk), hM.c4.later b.wk.size (same _ hM.c4.1), hM.c5.later b.wk.size (same _ hM.c5.1), c0, e0, fr0, by rw [same _ (Array.getElem?_eq_some_iff.1 m1).1]; exact m1, m2, m3, m4⟩
    simp only [VR, AR, b.rho] at hv
    obtain ⟨_, _, ⟨rfl, rfl⟩, rfl⟩ := hv
    rfl
  · cases hchk
end
end
end Go.Proofs.Ytgbpkilegbechaa.greater
namespace Go.Proofs.Ytgbpkilegbechaa.greater
open Go.Ev Go.RowKit
set_option linter.unusedVariables false
noncomputable section
theorem body5 : Try.f5.body = some grbody := rfl
theorem anc_back {w w' : World} (h : Anc w w') : Below w.heap.size w w' := ⟨h.wk.os, h.wk.tape, h.wk.output, h.wk.size, h.old⟩
def grQ (w0 : World) : Exit → Act → World → Prop := fun e act w => (e = .ret ∨ e = .normal) ∧ act.defers = [] ∧ ∃ v, (results Try.f5 act.tmps).run Try.prog w = .ok v w ∧ Ending.returned v = .returned (.bool true) ∧ Below w0.heap.size w0 w
theorem finC_of {o : Option SegO} (h : finC o = true) : ∃ a H, o = some (.out .ret a H) ∧ resL Try.prog a H Try.f5.results.toList = some [.bool true] := by
  unfold finC at h
  split at h
  · split at h
    · rename_i h2
      exact ⟨_, _, rfl, h2⟩
    · cases h
  · cases h
/-- Numbers that card.Check tells. -/
def finN (d : CdR) : Nat → Int
  | 1 => d.spec 2
  | 2 => d.spec 21
  | 3 => d.spec 40
  | _ => 0
theorem finN_fits (d : CdR) (k : Nat) : I64 (finN d k) := by
  have s : ∀ n, I64 (d.spec n) := fun n => by
    have := spec_in (D := d.cx) (n := n)
    unfold CdR.spec
    exact ⟨by omega, by omega⟩
  unfold finN
  split
  · exact s _
  · exact s _
  · exact s _
  · exact i64_0
section
variable {w0 w : World} {d : CdR} {p : GrP} {xs ns : Nat → Int} {i z : Nat} {act : Act} {HD : Nat → Act → World → Prop}
theorem fint {k : Nat} (h1 : 33 ≤ k) (h2 : k < 500) : grint d xs ns k = ns (k - 40) := by
  unfold grint
  rw [if_neg (by omega), if_neg (by omega), if_pos h2]
/-- The card's cells, as the call's argument tells them. -/
theorem cd_inv {φ : Phi} (hφ : φ.ρ = grrho d p xs ns) {al : VV} {us : List Value} (h : VRs φ (hdV ++ [al]) us) : ∃ a, VR φ al a ∧ us = [.string d.name, n64 (d.hd 1), n64 (d.hd 2), n64 (d.hd 3), n64 (d.hd 4), n64 (d.hd 5), n64 (d.hd 6), n64 (d.hd 7), n64 (d.hd 8), n64 (d.hd 9), a] := by
  have g : ∀ k, k < 10 → φ.ρ.int k = d.hd k := fun k hk => by
    rw [hφ]
    show grint d xs ns k = _
    unfold grint
    rw [if_pos hk]
  have h0 : φ.ρ.val 0 = .string d.name := by rw [hφ]; rfl
  simp only [hdV, intsV, List.cons_append, List.nil_append, VRs, si, VR, h0, g 1 (by omega), g (1 + 1) (by omega), g (1 + 1 + 1) (by omega), g (1 + 1 + 1 + 1) (by omega), g (1 + 1 + 1 + 1 + 1) (by omega), g (1 + 1 + 1 + 1 + 1 + 1) (by omega), g (1 + 1 + 1 + 1 + 1 + 1 + 1) (by omega), g (1 + 1 + 1 + 1 + 1 + 1 + 1 + 1) (by omega), g (1 + 1 + 1 + 1 + 1 + 1 + 1 + 1 + 1) (by omega)] at h
  obtain ⟨_, _, rfl, rfl, _, _, rfl, rfl, _, _, rfl, rfl, _, _, rfl, rfl, _, _, rfl, rfl, _, _, rfl, rfl, _, _, rfl, rfl, _, _, rfl, rfl, _, _, rfl, rfl, _, _, rfl, rfl, a, _, rfl, ha, rfl⟩ := h
  exact ⟨a, ha, rfl⟩
theorem ke_of {d' : CdR} (hd : d'.OK z i w) (hi : i ≤ 1000) {al r : VV} {k : Int} (hk : I64 k) (hal : ∀ (φ : Phi) (us : List Value), φ.ρ = grrho d p xs ns → VRs φ (hdV ++ [al]) us → us = d'.cells) (hr : ∀ φ : Phi, φ.ρ = grrho d p xs ns → VR φ r (n64 (d'.spec k))) : KEok Try.prog (grrho d p xs ns) w (ke8 al k r) := by
  intro φ vs w' hφ h1 h2 hv _
  have hv : VRs φ [cdA al, i8 k] vs := hv
  simp only [VRs] at hv
  obtain ⟨a, _, rfl, ha, u, _, rfl, hu, rfl⟩ := hv
  unfold cdA at ha
  rw [VR] at ha
  obtain ⟨us, hus, rfl⟩ := ha
  rw [hal φ us hφ hus]
  simp only [i8, VR] at hu
  subst hu
  refine (check_calls (hd.later (Nat.le_refl _) h1 fun k hk _ => h2 k hk (fun x => x)) hi hk).mono ?_
  rintro en w'' ⟨rfl, hb⟩
  exact ⟨_, rfl, hr φ hφ, hb⟩
theorem ke_full (hd : d.OK z i w) (hi : i ≤ 1000) {r : VV} {k : Int} (hk : I64 k) (hr : ∀ φ : Phi, φ.ρ = grrho d p xs ns → VR φ r (n64 (d.spec k))) : KEok Try.prog (grrho d p xs ns) w (ke8 (.sym 1) k r) :=
  ke_of hd hi hk (fun φ us hφ h => by
    obtain ⟨a, ha, rfl⟩ := cd_inv hφ h
    simp only [VR, hφ] at ha
    rw [ha]
    rfl) hr
theorem ke_none (hd : d.OK z i w) (hi : i ≤ 1000) (h1 : d.none.spec 1 = 0) : KEok Try.prog (grrho d p xs ns) w (ke8 (.slice none 0 0) 1 (i8 0)) :=
  ke_of (CdR.none_ok hd) hi ⟨by omega, by omega⟩ (fun φ us hφ h => by
    obtain ⟨a, ha, rfl⟩ := cd_inv hφ h
    simp only [VR] at ha
    rw [ha]
    rfl) fun φ hφ => by rw [h1]; simp only [i8, VR]; rfl
theorem ke_one (hd : d.OK z i w) (hi : i ≤ 1000) {j : Nat} (hj : j < d.rs.length) (hj5 : j < 10) (h1 : (d.one j).spec 1 = 0) : KEok Try.prog (grrho d p xs ns) w (ke8 (.sym (50 + j)) 1 (i8 0)) :=
  ke_of (CdR.one_ok hd hj) hi ⟨by omega, by omega⟩ (fun φ us hφ h => by
    obtain ⟨a, ha, rfl⟩ := cd_inv hφ h
    simp only [VR, hφ] at ha
    have : grval d (50 + j) = (d.one j).al := by
      unfold grval
      rw [if_neg (by omega), if_neg (by omega), if_pos (by omega), Nat.add_sub_cancel_left]
      rfl
    rw [ha]
    show _ = [_, _, _, _, _, _, _, _, _, _, (d.one j).al]
    rw [← this]
    rfl) fun φ hφ => by rw [h1]; simp only [i8, VR]; rfl
theorem ke_work : KEok Try.prog (grrho d p xs ns) w ⟨10, [], [], .bool true⟩ := by
  intro φ vs w' hφ h1 h2 hv _
  have hv : VRs φ [] vs := hv
  simp only [VRs] at hv
  subst hv
  refine (walk10 w').mono ?_
  rintro en w'' ⟨rfl, hb⟩
  exact ⟨_, rfl, by simp only [VR], hb⟩
theorem eq3_ok {b : Bool} (h : decide (d.hd 1 = 3) = b) : FactOK (grrho d p xs ns) (.bin .eql (si 1) (i8 3) (.bool b)) := by
  refine ⟨.int .i64 (d.hd 1), .int .i64 3, .bool b, rfl, rfl, rfl, by simp, by simp, fun P t w => ?_⟩
  subst h
  simp [binOp, Op.intCmp]
  rfl
/-- A part behind the loop. -/
theorem fin_part (hn : ∀ k, I64 (ns k)) (hx : ∀ k, 0 ≤ xs k ∧ xs k ≤ 255) (hM : GrM p xs ns w0 d 3 w) {ks : List KE} {fs : List Fact} (hchk : finC (fin ks fs) = true) (hks : ∀ e ∈ ks, KEok Try.prog (grrho d p xs (finN d)) w e) (hfs : FsOK fs (grrho d p xs (finN d))) (ha : GrT p 3 act) {c : Code} {K : List Fr1} (hc : ctx 0 grbody 0 [] = some (c, K)) (hat : At1 grbody (.loop c) 0 K) (hko : KOK grbody K) :
    c.wpIn (Fr none) 0 Try.prog (postK Try.prog HD (grQ w0) (.lp c 0 :: K)) act w := by
  letI : Ext := XK Try.prog ks (fun _ => False)
  have hd := hM.dok
  obtain ⟨a, H, hseg, hres⟩ := finC_of hchk
  unfold fin at hseg
  rw [hc] at hseg
  simp only at hseg
  have hE : EnvOK ⟨fun _ => none, ivAt [], fs, finB⟩ ⟨fun _ => none, grrho d p xs (finN d)⟩ w := by
    refine EnvOK.mk hks (ivs_nil (gr_fits hd hx (finN_fits d))) (fun x hx' => FactOK.w (hfs x hx')) fun k cs hk => ?_
    simp only [finB] at hk
    split at hk
    · cases hk
      obtain ⟨c0, e0, fr0, m1, m2, m3, m4⟩ := hM.m7
      have hcell : CellsAt w p.b7 p.o7 d.cells := ⟨(Array.getElem?_eq_some_iff.1 m1).1, fun j v hj => by
        unfold World.cell?
        simp only [m1]
        rw [m4 j v hj]
        rfl⟩
      refine here_blk hcell (hd_VR rfl ?_)
      simp only [VR]
      rfl
    · cases hk
  have htr : TR ⟨fun _ => none, grrho d p xs (finN d)⟩ (mkT Try.f5.ntmps (grT 3 (.ptr (some ⟨.sym 7, 0⟩)))) act.tmps := by
    have h1 := gr_tmps (φ := ⟨fun _ => none, grrho d p xs (finN d)⟩) (d := d) (xs := xs) (ns := finN d) rfl ha (t7 := .ptr (some ⟨.sym 7, 0⟩)) (by
      simp only [VR, AR]
      exact ⟨_, _, ⟨rfl, rfl⟩, rfl⟩)
    exact mkT_TR ha.sz nt5 h1
  refine plain_part (X := XK Try.prog ks (fun _ => False)) (ρ := grrho d p xs (finN d)) (hrcK (noNG_of noNG) mixed) nt5 hat.loop.2 hko hseg htr hE (fun r => rfl) ha.sz ha.df (fun k h => h) fun act' w' φ b => ?_
  obtain ⟨v', r1, r2⟩ := results_sound (P := Try.prog) b.tr b.sim (fn := Try.f5) hres
  have r3 : v' = .bool true := by
    simpa only [oneV, VR] using r2
  exact ⟨.inl rfl, b.df, v', r1, by rw [r3], anc_back (hM.anc.trans ⟨b.wk, fun k hk => b.same k hk (fun h => h)⟩)⟩
theorem int_r {φ : Phi} {n m : Int} (h : m = n) : VR φ (i8 n) (n64 m) := by
  subst h
  simp only [i8, VR]
  rfl
theorem fin0_at {n : Nat} (h : n ≤ 5) : fin0 n = true := by
  obtain rfl | rfl | rfl | rfl | rfl | rfl : n = 0 ∨ n = 1 ∨ n = 2 ∨ n = 3 ∨ n = 4 ∨ n = 5 := by omega
  all_goals exact finT_at (by simp)
/-- Behind the loop. -/
theorem gr_end (hn : ∀ k, I64 (ns k)) (hx : ∀ k, 0 ≤ xs k ∧ xs k ≤ 255) (hM : GrM p xs ns w0 d 3 w) (ha : GrT p 3 act) {c : Code} {K : List Fr1} (hc : ctx 0 grbody 0 [] = some (c, K)) (hat : At1 grbody (.loop c) 0 K) (hko : KOK grbody K) :
    c.wpIn (Fr none) 0 Try.prog (postK Try.prog HD (grQ w0) (.lp c 0 :: K)) act w := by
  have hd := hM.dok
  have hlen := hd.len
  have i1 : I64 1 := ⟨by omega, by omega⟩
  have i2 : I64 2 := ⟨by omega, by omega⟩
  have i21 : I64 21 := ⟨by omega, by omega⟩
  have i40 : I64 40 := ⟨by omega, by omega⟩
  rcases spec_1 (D := d.cx) with h | h | h
  · have h : d.spec 1 = 0 := h
    have u2 : d.spec 2 = 0 := spec_up (by omega) (by omega) h
    have u21 : d.spec 21 = 0 := spec_up (by omega) (by omega) h
    have u40 : d.spec 40 = 0 := spec_up (by omega) (by omega) h
    by_cases h3 : d.hd 1 = 3
    · refine fin_part hn hx hM (show fin1 = true from finT_at (by simp)) (fun e he => ?_) (fs_cons (eq3_ok (decide_eq_true h3)) fs_nil) ha hc hat hko
      simp only [finS, List.mem_cons, List.not_mem_nil, or_false] at he
      rcases he with rfl | rfl | rfl | rfl | rfl
      · exact ke_full hd (by omega) i1 fun φ hφ => int_r h
      · exact ke_full hd (by omega) i2 fun φ hφ => int_r u2
      · exact ke_full hd (by omega) i21 fun φ hφ => int_r u21
      · exact ke_full hd (by omega) i40 fun φ hφ => int_r u40
      · exact ke_work
    · have h1 : d.none.spec 1 = 0 := CdR.spec_none h h3
      refine fin_part hn hx hM (show fin0 d.rs.length = true from fin0_at (by omega)) (fun e he => ?_) (fun f hf => ?_) ha hc hat hko
      · unfold finK at he
        rcases List.mem_append.1 he with he | he
        · simp only [List.mem_cons, List.not_mem_nil, or_false] at he
          rcases he with rfl | rfl | rfl | rfl | rfl | rfl
          · exact ke_full hd (by omega) i1 fun φ hφ => int_r h
          · exact ke_full hd (by omega) i2 fun φ hφ => int_r u2
          · exact ke_full hd (by omega) i21 fun φ hφ => int_r u21
          · exact ke_full hd (by omega) i40 fun φ hφ => int_r u40
          · exact ke_none hd (by omega) h1
          · exact ke_work
        · rw [List.mem_map] at he
          obtain ⟨j, hj, rfl⟩ := he
          have hj := List.mem_range.1 hj
          exact ke_one hd (by omega) hj (by omega) (CdR.spec_one h h3 hj)
      · unfold finF at hf
        rcases List.mem_append.1 hf with hf | hf
        · simp only [List.mem_cons, List.not_mem_nil, or_false] at hf
          rcases hf with rfl | rfl
          · exact ⟨_, d.rs.length, rfl, ⟨_, _, rfl⟩, rfl⟩
          · exact eq3_ok (decide_eq_false h3)
        · rw [List.mem_map] at hf
          obtain ⟨j, hj, rfl⟩ := hf
          have hj := List.mem_range.1 hj
          have hcp := hd.cp
          obtain ⟨_, g2, _⟩ := hd.rs 0 _ (CdR.r_of (by omega))
          have v1 : sval (grrho d p xs (finN d)) (.sym 1) = some (.slice d.oa d.rs.length d.cap) := rfl
          refine ⟨d.oa, d.rs.length, d.cap, (j : Int), (j : Int) + 1, v1, rfl, rfl, by omega, by omega, by omega, ?_⟩
          show some (grval d (50 + j)) = _
          unfold grval
          rw [if_neg (by omega), if_neg (by omega), if_pos (by omega), Nat.add_sub_cancel_left, if_neg (by omega), g2]
          have e1 : ((j : Int) + 1).toNat - ((j : Int)).toNat = 1 := by omega
          rw [e1, Int.toNat_natCast]
          simp [Addr.add_lit]
  · have h : d.spec 1 = 3 := h
    have u2 : d.spec 2 = 3 := spec_long (by omega) (by omega) h
    have u21 : d.spec 21 = 3 := spec_long (by omega) (by omega) h
    have u40 : d.spec 40 = 3 := spec_long (by omega) (by omega) h
    refine fin_part hn hx hM (show fin3 = true from finT_at (by simp)) (fun e he => ?_) fs_nil ha hc hat hko
    simp only [finS, List.mem_cons, List.not_mem_nil, or_false] at he
    rcases he with rfl | rfl | rfl | rfl | rfl
    · exact ke_full hd (by omega) i1 fun φ hφ => int_r h
    · exact ke_full hd (by omega) i2 fun φ hφ => int_r u2
    · exact ke_full hd (by omega) i21 fun φ hφ => int_r u21
    · exact ke_full hd (by omega) i40 fun φ hφ => int_r u40
    · exact ke_work
  · have h : d.spec 1 = 10 := h
    have sym : ∀ {φ : Phi} {q : Nat} {m : Int}, φ.ρ = grrho d p xs (finN d) → q = 1 ∨ q = 2 ∨ q = 3 → finN d q = m → VR φ (si (40 + q)) (n64 m) := fun {φ q m} hφ hq hm => by
      simp only [si, VR, hφ]
      show n64 m = Value.int .i64 (grint d xs (finN d) (40 + q))
      rw [fint (by omega) (by omega), Nat.add_sub_cancel_left, hm]
      rfl
    refine fin_part hn hx hM (show fin10 = true from finT_at (by simp)) (fun e he => ?_) fs_nil ha hc hat hko
    simp only [finS, List.mem_cons, List.not_mem_nil, or_false] at he
    rcases he with rfl | rfl | rfl | rfl | rfl
    · exact ke_full hd (by omega) i1 fun φ hφ => int_r h
    · exact ke_full hd (by omega) i2 fun φ hφ => sym (q := 1) hφ (.inl rfl) rfl
    · exact ke_full hd (by omega) i21 fun φ hφ => sym (q := 2) hφ (.inr (.inl rfl)) rfl
    · exact ke_full hd (by omega) i40 fun φ hφ => sym (q := 3) hφ (.inr (.inr rfl)) rfl
    · exact ke_work
end
end
end Go.Proofs.Ytgbpkilegbechaa.greater
namespace Go.Proofs.Ytgbpkilegbechaa.greater
open Go.Ev Go.RowKit
set_option linter.unusedVariables false
noncomputable section
theorem bxB_of {H : VH} {l : List VV} {x : VV} (h : bxB H l x = true) : ∃ b g ro et, x = .ptr (some ⟨.loc b, 0⟩) ∧ H.locs.get b = some (.cells l g ro et) := by
  unfold bxB at h
  split at h
  · split at h
    · rename_i h1
      rw [vvsEq_eq _ _ h] at h1
      exact ⟨_, _, _, _, rfl, h1⟩
    · cases h
  · cases h
theorem grentB_of {o : Option SegO} (h : grentB o = true) : ∃ a H b4 b5 b7 c g4 r4 e4 g5 r5 e5 et, o = some (.cut 0 a H) ∧ tget a 8 = i8 0 ∧ tget a 4 = .ptr (some ⟨.loc b4, 0⟩) ∧ H.locs.get b4 = some (.cells [s8 30, s8 31, s8 32] g4 r4 e4) ∧ tget a 5 = .ptr (some ⟨.loc b5, 0⟩) ∧ H.locs.get b5 = some (.cells [si 40, si 41, si 42] g5 r5 e5) ∧
    tget a 7 = .ptr (some ⟨.loc b7, 0⟩) ∧ H.locs.get b7 = some (.cells c none 0 et) ∧ cdB H b7 0 0 c = true := by
  unfold grentB at h
  split at h
  · rename_i a H
    split at h
    · rename_i b h1 h2 h3 h4
      obtain ⟨b4, g4, r4, e4, x4, y4⟩ := bxB_of h2
      obtain ⟨b5, g5, r5, e5, x5, y5⟩ := bxB_of h3
      split at h
      · rename_i c et h5
        exact ⟨a, H, b4, b5, b, c, g4, r4, e4, g5, r5, e5, et, rfl, vvEq_eq _ _ h1, x4, y4, x5, y5, h4, h5, h⟩
      · cases h
    · cases h
  · cases h
def erint (kd : Int) (xs ns : Nat → Int) (k : Nat) : Int := if k = 10 then kd else if k < 33 then xs (k - 30) else ns (k - 40)
def erho (kd : Int) (xs ns : Nat → Int) : Rho := ⟨erint kd xs ns, fun _ => .string .empty, fun _ => 0, fun _ => 0, fun _ => rfl, fun _ => [], fun _ _ h => by cases h⟩
/-- At the head. -/
inductive GrI (p : GrP) (xs ns : Nat → Int) (w0 : World) : Nat → Nat → Act → World → Prop
  | at_ {d : CdR} {i : Nat} {act : Act} {w : World} : i ≤ 3 → GrT p i act → GrM p xs ns w0 d i w → GrI p xs ns w0 (3 - i) 0 act w
section
variable {w0 : World} {xs ns : Nat → Int} {kd : Int}
theorem gr_heads {p : GrP} (hx : ∀ k, 0 ≤ xs k ∧ xs k ≤ 255) (hn : ∀ k, I64 (ns k)) : ∀ k t act w', GrI p xs ns w0 k t act w' → ∀ c K, ctx t grbody 0 [] = some (c, K) → At1 grbody (.loop c) t K → KOK grbody K → ∀ HD : Nat → Act → World → Prop, (∀ t' act' w'', (∃ j, j < k ∧ GrI p xs ns w0 j t' act' w'') → HD t' act' w'' ∧ ∀ c' K', ctx t' grbody 0 [] = some (c', K') → (Code.loop c').wpIn (Fr none) 0 Try.prog (postK Try.prog HD (grQ w0) K') act' w'') →
      c.wpIn (Fr none) 0 Try.prog (postK Try.prog HD (grQ w0) (.lp c t :: K)) act w' := by
  rintro k t act w' hI c K hc hat hko HD hHD
  cases hI with
  | @at_ d i _ _ hi ha hM =>
    by_cases h3 : i < 3
    · have go : ∀ act' w'' d', GrT p (i + 1) act' → GrM p xs ns w0 d' (i + 1) w'' → HD 0 act' w'' ∧ ∀ c' K', ctx 0 grbody 0 [] = some (c', K') → (Code.loop c').wpIn (Fr none) 0 Try.prog (postK Try.prog HD (grQ w0) K') act' w'' := fun act' w'' d' h1 h2 =>
        hHD 0 act' w'' ⟨3 - (i + 1), by omega, .at_ (by omega) h1 h2⟩
      have hxi := hx i
      have hf : xs i % 30 = ((xs i % 30).toNat : Int) := by omega
      by_cases h24 : (xs i % 30).toNat < 24
      · exact gr_round hx hn hM h3 hf h24 ha hc hat hko go
      · exact gr_skip hx hn hM h3 hf (by omega) (by omega) ha hc hat hko go
    · obtain rfl : i = 3 := by omega
      exact gr_end hn hx hM ha hc hat hko
theorem er_fits (hk : 0 ≤ kd ∧ kd ≤ 255) (hx : ∀ k, 0 ≤ xs k ∧ xs k ≤ 255) (hn : ∀ k, I64 (ns k)) (k : Nat) : I64 (erint kd xs ns k) := by
  unfold erint
  split
  · exact ⟨by omega, by omega⟩
  split
  · have := hx (k - 30)
    exact ⟨by omega, by omega⟩
  · exact hn _
/-- The law, over memory. -/
theorem greater_calls (hk : 0 ≤ kd ∧ kd ≤ 255) (hx : ∀ k, 0 ≤ xs k ∧ xs k ≤ 255) (hn : ∀ k, I64 (ns k)) : Calls Try.prog 5 ⟨[u8V kd, .agg ⟨[u8V (xs 0), u8V (xs 1), u8V (xs 2)]⟩, .agg ⟨[n64 (ns 0), n64 (ns 1), n64 (ns 2)]⟩]⟩ w0 fun en w' => en = .returned (.bool true) ∧ Below w0.heap.size w0 w' := by
  letI : Ext := XK Try.prog [] (fun _ => False)
  have hr4 : (kd % 4).toNat = 0 ∨ (kd % 4).toNat = 1 ∨ (kd % 4).toNat = 2 ∨ (kd % 4).toNat = 3 := by omega
  have hchk : grentB (grent (kd % 4).toNat) = true := by
    rcases hr4 with h | h | h | h <;> rw [h] <;> exact finT_at (by simp)
  obtain ⟨a, H, b4, b5, b7, c, g4, r4, e4, g5, r5, e5, et, hs, t8, t4, l4, t5, l5, t7, l7, hcd⟩ := grentB_of hchk
  let ρ := erho kd xs ns
  refine calls_of_body (c := grbody) Try.func5 body5 ?_
  have x3 : VRs ⟨fun _ => none, ρ⟩ [s8 30, s8 31, s8 32] [u8V (xs 0), u8V (xs 1), u8V (xs 2)] := by
    refine cons_VR ?_ (cons_VR ?_ (cons_VR ?_ nil_VR)) <;> (simp only [s8, VR]; rfl)
  have n3 : VRs ⟨fun _ => none, ρ⟩ [si 40, si 41, si 42] [n64 (ns 0), n64 (ns 1), n64 (ns 2)] := by
    refine cons_VR ?_ (cons_VR ?_ (cons_VR ?_ nil_VR)) <;> (simp only [si, VR]; rfl)
  have hargs : VRs ⟨fun _ => none, ρ⟩ [s8 10, .agg [s8 30, s8 31, s8 32], .agg [si 40, si 41, si 42]] [u8V kd, .agg ⟨[u8V (xs 0), u8V (xs 1), u8V (xs 2)]⟩, .agg ⟨[n64 (ns 0), n64 (ns 1), n64 (ns 2)]⟩] := by
    refine cons_VR (by simp only [s8, VR]; rfl) (cons_VR ?_ (cons_VR ?_ nil_VR))
    · rw [VR]
      exact ⟨_, x3, rfl⟩
    · rw [VR]
      exact ⟨_, n3, rfl⟩
  have hE : EnvOK ⟨fun _ => none, ivAt [], [.bin .rem (s8 10) (.int .u8 4) (.int .u8 (((kd % 4).toNat : Nat) : Int))], fun _ => none⟩ ⟨fun _ => none, ρ⟩ w0 := by
    refine EnvOK.mk (fun e he => by cases he) (ivs_nil (er_fits hk hx hn)) ?_ (fun k c hk => by cases hk)
    have h1 : FsOK [.bin .rem (s8 10) (.int .u8 4) (.int .u8 (((kd % 4).toNat : Nat) : Int))] ρ := by
      refine fs_cons (fact_rem (a := kd) (b := 4) rfl rfl (by omega) ?_) fs_nil
      show some (Value.int .u8 (((kd % 4).toNat : Nat) : Int)) = _
      rw [Int.tmod_eq_emod_of_nonneg hk.1, show (((kd % 4).toNat : Nat) : Int) = kd % 4 by omega]
    exact fun x hx => FactOK.w (h1 x hx)
  have hs' : grent (kd % 4).toNat = some (.cut 0 a H) := hs
  unfold grent at hs'
  refine plain_part (X := XK Try.prog [] (fun _ => False)) (HD := fun t act w => ∃ j, j ≤ 3 ∧ ∃ p, GrI p xs ns w0 j t act w) (Q := grQ w0) (hrcK (noNG_of noNG) mixed) nt5 (fun t _ _ => rfl) trivial hs' (ρ := ρ) (TR_args hargs (by decide) nt5) hE (fun r => rfl) (by simp) rfl (fun k hk => hk) fun act' w' φ b => ?_
  have same : ∀ k, k < w0.heap.size → w'.heap[k]? = w0.heap[k]? := fun k hk => b.same k hk (fun h => h)
  obtain ⟨i4, f4, q4, c4⟩ := b.sim.cellsAt l4
  obtain ⟨i5, f5, q5, c5⟩ := b.sim.cellsAt l5
  obtain ⟨i7, c7, e7, fr7, f7, q7, k7⟩ := b.blk l7
  have new : ∀ {j : Nat} {inf : Inf}, φ j = some inf → w0.heap.size ≤ inf.blk := fun {j inf} hj => (b.own j inf hj).elim (fun h => h.elim) id
  have ne : ∀ {j : Nat} {oj : VO} {inf : Inf}, H.locs.get j = some oj → φ j = some inf → j ≠ b7 → inf.blk ≠ i7.blk := fun {j oj inf} h1 h2 hne he => hne (b.sim.inj _ _ _ _ _ _ h1 l7 h2 f7 he)
  have n4 : b4 ≠ b7 := fun he => by
    rw [he, l7] at l4
    injection l4 with l4
    injection l4 with l4
    rw [l4] at hcd
    cases hcd
  have n5 : b5 ≠ b7 := fun he => by
    rw [he, l7] at l5
    injection l5 with l5
    injection l5 with l5
    rw [l5] at hcd
    cases hcd
  have hS : Src φ [] i7.blk 0 w' := ⟨fun k => by rw [b.rho]; exact er_fits hk hx hn k, ⟨.empty, by rw [b.rho]; rfl, by decide⟩, fun k r hr => by simp at hr⟩
  have hvs : VRs φ c ((List.range c.length).map fun j => (c7[i7.off + j]?).getD (.bool false)) := VRs_of fun j x hj => by
    obtain ⟨u, u1, u2⟩ := k7.cell j x hj
    rw [u1]
    exact u2
  obtain ⟨d, g1, g2⟩ := card_of (rs := []) rfl b.sim l7 f7 hS hcd hvs
  have l11 : c.length = 11 := by
    have := congrArg List.length g1
    rw [List.length_map, List.length_range] at this
    rw [← this]
    rfl
  let p : GrP := ⟨i4.blk, i4.off, i5.blk, i5.off, i7.blk, i7.off⟩
  have ptr : ∀ {t k : Nat} {inf : Inf}, tget a t = .ptr (some ⟨.loc k, 0⟩) → φ k = some inf → act'.tmps.getD t undef = .pointer (some ⟨inf.blk, inf.off, none⟩) := fun {t k inf} h1 h2 => by
    have := b.tr t
    rw [h1] at this
    simp only [VR, AR] at this
    obtain ⟨_, _, ⟨jnf, j1, rfl, rfl⟩, e⟩ := this
    rw [h2] at j1
    cases j1
    exact e
  have hT : GrT p 0 act' := by
    refine ⟨b.sz, b.df, ptr t4 f4, ptr t5 f5, ptr t7 f7, ?_⟩
    have := b.tr 8
    rw [t8] at this
    simp only [i8, VR] at this
    exact this
  have cellsOf : ∀ {inf : Inf} {l : List VV} {vs : List Value}, inf.blk < w'.heap.size → (∀ j x, l[j]? = some x → ∃ y, w'.cell? ⟨inf.blk, inf.off + j, none⟩ = some y ∧ VR φ x y) → l.length = vs.length → (∀ j x v, l[j]? = some x → vs[j]? = some v → ∀ y, VR φ x y → y = v) → CellsAt w' inf.blk inf.off vs := fun {inf l vs} h1 h2 h3 h4 => ⟨h1, fun j v hj => by
    have hlt : j < l.length := by rw [h3]; exact (List.getElem?_eq_some_iff.1 hj).1
    obtain ⟨y, y1, y2⟩ := h2 j _ (List.getElem?_eq_getElem hlt)
    rw [y1, h4 j _ v (List.getElem?_eq_getElem hlt) hj y y2]⟩
  have hM : GrM p xs ns w0 d 0 w' := by
    refine ⟨⟨b.wk, same⟩, new f7, ne l4 f4 n4, ne l5 f5 n5, g2, cellsOf q4 c4 rfl fun j x v hx' hv y hy => ?_, cellsOf q5 c5 rfl fun j x v hx' hv y hy => ?_, c7, e7, fr7, q7, k7.low, ?_, fun j v hj => ?_⟩
    · match j with
      | 0 => cases hx'; cases hv; simp only [s8, VR, b.rho] at hy; exact hy
      | 1 => cases hx'; cases hv; simp only [s8, VR, b.rho] at hy; exact hy
      | 2 => cases hx'; cases hv; simp only [s8, VR, b.rho] at hy; exact hy
      | j + 3 => simp at hx'
    · match j with
      | 0 => cases hx'; cases hv; simp only [si, VR, b.rho] at hy; exact hy
      | 1 => cases hx'; cases hv; simp only [si, VR, b.rho] at hy; exact hy
      | 2 => cases hx'; cases hv; simp only [si, VR, b.rho] at hy; exact hy
      | j + 3 => simp at hx'
    · have := k7.size
      rw [l11] at this
      have e : spare none i7.slack = 0 := rfl
      rw [e] at this
      exact this
    · rw [g1] at hj
      have hj' : j < 11 := by
        have := (List.getElem?_eq_some_iff.1 hj).1
        rw [List.length_map, List.length_range, l11] at this
        exact this
      rw [List.getElem?_map, List.getElem?_range (by rw [l11]; exact hj')] at hj
      cases hj
      obtain ⟨u, u1, _⟩ := k7.cell j _ (List.getElem?_eq_getElem (by rw [l11]; exact hj'))
      show c7[i7.off + j]? = some ((c7[i7.off + j]?).getD (.bool false))
      rw [u1]
      rfl
  have hI : GrI p xs ns w0 3 0 act' w' := .at_ (i := 0) (Nat.zero_le _) hT hM
  refine ⟨⟨3, Nat.le_refl _, p, hI⟩, fun c' K' hc' => ?_⟩
  exact wpIn_mono (heads_ok (gr_heads (p := p) (w0 := w0) hx hn) 3 0 c' K' hc' 3 (Nat.le_refl _) act' w' ⟨_, Nat.le_refl _, hI⟩) (postK_mono (fun n act w => fun ⟨j, j1, j2⟩ => ⟨j, j1, p, j2⟩) K')
end
end
end Go.Proofs.Ytgbpkilegbechaa.greater
