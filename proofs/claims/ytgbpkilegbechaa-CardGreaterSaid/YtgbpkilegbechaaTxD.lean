/-
  A card in memory, its abilities as records; which cards may be.
-/
import Derived.Test.YtgbpkilegbechaaTxC
namespace Go.Proofs.Ytgbpkilegbechaa.greater
open Go.Ev Go.RowKit
set_option linter.unusedVariables false
noncomputable section
def n64 (n : Int) : Value := .int .i64 n
/-- Cells that are there. -/
def CellsAt (w : World) (B O : Nat) (l : List Value) : Prop := B < w.heap.size ∧ ∀ j v, l[j]? = some v → w.cell? ⟨B, O + j, none⟩ = some v
theorem CellsAt.later {w w' : World} {B O : Nat} {l : List Value} (h : CellsAt w B O l) (hs : w.heap.size ≤ w'.heap.size) (hb : w'.heap[B]? = w.heap[B]?) : CellsAt w' B O l :=
  ⟨Nat.lt_of_lt_of_le h.1 hs, fun j v hj => by
    rw [← h.2 j v hj]
    unfold World.cell?
    rw [hb]⟩
/-- An ability, and where its lists lie. -/
structure AbR where
  x : Ab
  ta : Option Addr
  tc : Nat
  tB : Nat
  tO : Nat
  ca : Option Addr
  cc : Nat
  cB : Nat
  cO : Nat
def AbR.zero : AbR := ⟨Ab.zero, none, 0, 0, 0, none, 0, 0, 0⟩
def AbR.cells (r : AbR) : List Value := [n64 r.x.kind, n64 r.x.event, n64 r.x.who, n64 r.x.c0, n64 r.x.c1, n64 r.x.c2, n64 r.x.c3, .bool r.x.tap, .slice r.ta r.x.tg.length r.tc, .slice r.ca r.x.code.length r.cc, n64 r.x.op, n64 r.x.a, n64 r.x.b]
def insC (x : Ins) : Nat → Int
  | 0 => x.1
  | 1 => x.2.1
  | _ => x.2.2
structure AbR.OK (r : AbR) (z i : Nat) (w : World) : Prop where
  ints : ∀ y ∈ [r.x.kind, r.x.event, r.x.who, r.x.c0, r.x.c1, r.x.c2, r.x.c3, r.x.op, r.x.a, r.x.b], I64 y
  tf : ∀ y ∈ r.x.tg, I64 y
  cf : ∀ y ∈ r.x.code, I64 y.1 ∧ I64 y.2.1 ∧ I64 y.2.2
  tl : r.x.tg.length ≤ 1 + i
  cl : r.x.code.length ≤ 2 + i
  tz : r.x.tg = [] → r.ta = none ∧ r.tc = 0
  cz : r.x.code = [] → r.ca = none ∧ r.cc = 0
  tm : r.x.tg ≠ [] → r.ta = some ⟨r.tB, r.tO, none⟩ ∧ r.tB ≠ z ∧ r.tB < w.heap.size ∧ ∀ j y, r.x.tg[j]? = some y → w.cell? ⟨r.tB, r.tO + j, none⟩ = some (n64 y)
  cm : r.x.code ≠ [] → r.ca = some ⟨r.cB, r.cO, none⟩ ∧ r.cB ≠ z ∧ r.cB < w.heap.size ∧ ∀ j y, r.x.code[j]? = some y → ∀ q, q < 3 → w.cell? ⟨r.cB, r.cO + j * 3 + q, none⟩ = some (n64 (insC y q))
theorem AbR.OK.later {r : AbR} {z i i' : Nat} {w w' : World} (h : r.OK z i w) (hi : i ≤ i') (hs : w.heap.size ≤ w'.heap.size) (hb : ∀ k, k < w.heap.size → k ≠ z → w'.heap[k]? = w.heap[k]?) : r.OK z i' w' := by
  have cell : ∀ {B o : Nat} {v : Value}, B < w.heap.size → B ≠ z → w.cell? ⟨B, o, none⟩ = some v → w'.cell? ⟨B, o, none⟩ = some v := fun {B o v} h1 h2 h3 => by
    rw [← h3]
    unfold World.cell?
    rw [hb _ h1 h2]
  have h1 := h.tl
  have h2 := h.cl
  refine ⟨h.ints, h.tf, h.cf, by omega, by omega, h.tz, h.cz, fun hn => ?_, fun hn => ?_⟩
  · obtain ⟨g1, g2, g3, g4⟩ := h.tm hn
    exact ⟨g1, g2, by omega, fun j y hj => cell g3 g2 (g4 j y hj)⟩
  · obtain ⟨g1, g2, g3, g4⟩ := h.cm hn
    exact ⟨g1, g2, by omega, fun j y hj q hq => cell g3 g2 (g4 j y hj q hq)⟩
/-- A card. -/
structure CdR where
  name : ByteArray
  hd : Nat → Int
  rs : List AbR
  oa : Option Addr
  cap : Nat
  B : Nat
  O : Nat
def CdR.al (d : CdR) : Value := .slice d.oa d.rs.length d.cap
def CdR.cells (d : CdR) : List Value := [.string d.name, n64 (d.hd 1), n64 (d.hd 2), n64 (d.hd 3), n64 (d.hd 4), n64 (d.hd 5), n64 (d.hd 6), n64 (d.hd 7), n64 (d.hd 8), n64 (d.hd 9), d.al]
structure CdR.OK (d : CdR) (z i : Nat) (w : World) : Prop where
  nm : d.name.size ≤ 17
  hd : ∀ k, I64 (d.hd k)
  len : d.rs.length ≤ 2 + i
  rs : ∀ k r, d.rs[k]? = some r → r.OK z i w ∧ d.oa = some ⟨d.B, d.O, none⟩ ∧ d.B ≠ z ∧ d.B < w.heap.size ∧ ∀ j v, r.cells[j]? = some v → w.cell? ⟨d.B, d.O + k * 13 + j, none⟩ = some v
  e : d.rs = [] → (d.oa = none ∧ d.cap = 0) ∨ ∃ a, d.oa = some a
  cp : d.rs.length ≤ d.cap
theorem CdR.OK.later {d : CdR} {z i i' : Nat} {w w' : World} (h : d.OK z i w) (hi : i ≤ i') (hs : w.heap.size ≤ w'.heap.size) (hb : ∀ k, k < w.heap.size → k ≠ z → w'.heap[k]? = w.heap[k]?) : d.OK z i' w' := by
  have hl := h.len
  refine ⟨h.nm, h.hd, by omega, fun k r hr => ?_, h.e, h.cp⟩
  obtain ⟨g1, g2, g3, g4, g5⟩ := h.rs k r hr
  refine ⟨g1.later hi hs hb, g2, g3, by omega, fun j v hj => ?_⟩
  rw [← g5 j v hj]
  unfold World.cell?
  rw [hb _ g4 g3]
def CdR.r (d : CdR) (k : Nat) : AbR := d.rs.getD k AbR.zero
/-- As the contract of card.Check has it. -/
def CdR.cx (d : CdR) : Cx where
  name := d.name
  kind := d.hd 1
  c0 := d.hd 2
  c1 := d.hd 3
  c2 := d.hd 4
  c3 := d.hd 5
  color := d.hd 6
  power := d.hd 7
  tough := d.hd 8
  keys := d.hd 9
  abs := d.rs.map AbR.x
  oa := d.oa
  cap := d.cap
  B := d.B
  O := d.O
  ta k := (d.r k).ta
  tc k := (d.r k).tc
  tB k := (d.r k).tB
  tO k := (d.r k).tO
  ca k := (d.r k).ca
  cc k := (d.r k).cc
  cB k := (d.r k).cB
  cO k := (d.r k).cO
theorem CdR.ab (d : CdR) (k : Nat) : d.cx.ab k = (d.r k).x := by
  unfold Cx.ab CdR.r
  show (d.rs.map AbR.x).getD k Ab.zero = _
  rw [List.getD_eq_getElem?_getD, List.getD_eq_getElem?_getD, List.getElem?_map]
  cases d.rs[k]? <;> rfl
theorem CdR.val (d : CdR) : d.cx.val = .agg ⟨d.cells⟩ := by
  unfold Cx.val CdR.cells CdR.al
  show Value.agg ⟨[.string d.name, _, _, _, _, _, _, _, _, _, .slice d.oa (d.rs.map AbR.x).length d.cap]⟩ = _
  rw [List.length_map]
  rfl
theorem CdR.r_of {d : CdR} {k : Nat} (h : k < d.rs.length) : d.rs[k]? = some (d.r k) := by
  unfold CdR.r
  rw [List.getD_eq_getElem?_getD, List.getElem?_eq_getElem h]
  rfl
theorem CdR.OK.cx {d : CdR} {z i : Nat} {w : World} (h : d.OK z i w) (hi : i ≤ 1000) : d.cx.OK w := by
  have hl := h.len
  have hn := h.nm
  have hlen : d.cx.abs.length = d.rs.length := List.length_map _
  refine ⟨fun k hk => ?_, fun k j hk hj => ?_, fun k hk => ?_, fun y hy => ?_, by show (d.name.size : Int) ≤ _; omega, by rw [hlen]; omega, fun x hx => ?_⟩
  · rw [hlen] at hk
    obtain ⟨g1, g2, g3, g4, g5⟩ := h.rs k _ (CdR.r_of hk)
    refine ⟨g2, g4, fun j v hv => g5 j v ?_⟩
    rw [← hv]
    unfold Cx.cells AbR.cells
    rw [CdR.ab]
    rfl
  · rw [hlen] at hk
    rw [CdR.ab] at hj ⊢
    obtain ⟨g1, _⟩ := h.rs k _ (CdR.r_of hk)
    obtain ⟨m1, m2, m3, m4⟩ := g1.tm (fun hn => by rw [hn] at hj; simp at hj)
    refine ⟨m1, m3, m4 j _ ?_⟩
    rw [List.getD_eq_getElem?_getD, List.getElem?_eq_getElem hj]
    rfl
  · rw [hlen] at hk
    rw [CdR.ab]
    obtain ⟨g1, _⟩ := h.rs k _ (CdR.r_of hk)
    refine ⟨fun j x hx => ?_, g1.cf⟩
    obtain ⟨m1, m2, m3, m4⟩ := g1.cm (fun hn => by rw [hn] at hx; simp at hx)
    exact ⟨m1, m3, m4 j x hx 0 (by omega), m4 j x hx 1 (by omega), m4 j x hx 2 (by omega)⟩
  · have hh := h.hd
    have hy' : y ∈ [d.hd 1, d.hd 2, d.hd 3, d.hd 4, d.hd 5, d.hd 6, d.hd 7, d.hd 8, d.hd 9] := hy
    simp only [List.mem_cons, List.not_mem_nil, or_false] at hy'
    rcases hy' with rfl | rfl | rfl | rfl | rfl | rfl | rfl | rfl | rfl <;> exact hh _
  · have hx' : x ∈ d.rs.map AbR.x := hx
    rw [List.mem_map] at hx'
    obtain ⟨r, hr, rfl⟩ := hx'
    obtain ⟨k, hk⟩ := List.getElem?_of_mem hr
    obtain ⟨g1, _⟩ := h.rs k r hk
    have h1 := g1.tl
    have h2 := g1.cl
    exact ⟨g1.ints, g1.tf, by omega, by omega⟩
/-- What card.Check tells of a card. -/
def CdR.spec (d : CdR) (n : Int) : Int := d.cx.spec n
theorem check_calls {d : CdR} {z i : Nat} {w : World} {n : Int} (h : d.OK z i w) (hi : i ≤ 1000) (hn : I64 n) : Calls Try.prog 8 ⟨[.agg ⟨d.cells⟩, n64 n]⟩ w fun e w' => e = .returned (n64 (d.spec n)) ∧ Below w.heap.size w w' := by
  have := checkC (h.cx hi) hn
  rw [CdR.val] at this
  exact this
/-- Some of its abilities: one, or none. -/
def CdR.none (d : CdR) : CdR := ⟨d.name, d.hd, [], Option.none, 0, 0, 0⟩
def CdR.one (d : CdR) (k : Nat) : CdR := ⟨d.name, d.hd, [d.r k], some ⟨d.B, d.O + k * 13, Option.none⟩, d.cap - k, d.B, d.O + k * 13⟩
theorem CdR.none_ok {d : CdR} {z i : Nat} {w : World} (h : d.OK z i w) : d.none.OK z i w :=
  ⟨h.nm, h.hd, Nat.zero_le _, fun k r hr => by simp [CdR.none] at hr, fun _ => .inl ⟨rfl, rfl⟩, Nat.zero_le _⟩
theorem CdR.one_ok {d : CdR} {z i k : Nat} {w : World} (h : d.OK z i w) (hk : k < d.rs.length) : (d.one k).OK z i w := by
  have hc := h.cp
  refine ⟨h.nm, h.hd, by show 1 ≤ 2 + i; omega, fun j r hr => ?_, (fun he => by cases he), by show 1 ≤ d.cap - k; omega⟩
  have hr' : [d.r k][j]? = some r := hr
  match j with
  | 0 =>
    cases hr'
    obtain ⟨g1, g2, g3, g4, g5⟩ := h.rs k _ (CdR.r_of hk)
    refine ⟨g1, rfl, g3, g4, fun q v hv => ?_⟩
    have := g5 q v hv
    show w.cell? ⟨d.B, d.O + k * 13 + 0 * 13 + q, Option.none⟩ = _
    rw [Nat.zero_mul, Nat.add_zero]
    exact this
  | j + 1 => simp at hr'
theorem CdR.head {d d' : CdR} (h : d'.hd = d.hd) : ∀ k, 1 ≤ k → k ≤ 9 → d'.cx.v 0 0 k = d.cx.v 0 0 k := fun k h1 h2 => by
  obtain rfl | rfl | rfl | rfl | rfl | rfl | rfl | rfl | rfl : k = 1 ∨ k = 2 ∨ k = 3 ∨ k = 4 ∨ k = 5 ∨ k = 6 ∨ k = 7 ∨ k = 8 ∨ k = 9 := by omega
  all_goals (simp only [Cx.v, CdR.cx, h])
theorem CdR.spec_none {d : CdR} (h : d.spec 1 = 0) (h3 : d.hd 1 ≠ 3) : d.none.spec 1 = 0 :=
  spec_part (D := d.cx) (D' := d.none.cx) h h3 rfl (CdR.head rfl) (Nat.zero_le _) fun j hj => by
    have hj : j < ([] : List Ab).length := hj
    simp at hj
theorem CdR.spec_one {d : CdR} {k : Nat} (h : d.spec 1 = 0) (h3 : d.hd 1 ≠ 3) (hk : k < d.rs.length) : (d.one k).spec 1 = 0 :=
  spec_part (D := d.cx) (D' := (d.one k).cx) h h3 rfl (CdR.head rfl) (by show ([d.r k].map AbR.x).length ≤ 4; simp) fun j hj => by
    have hj : j < ([d.r k].map AbR.x).length := hj
    simp at hj
    subst hj
    refine ⟨k, by show k < (d.rs.map AbR.x).length; rw [List.length_map]; exact hk, ?_⟩
    rw [CdR.ab, CdR.ab]
    rfl
end
end Go.Proofs.Ytgbpkilegbechaa.greater
namespace Go.Proofs.Ytgbpkilegbechaa.greater
open Go.Ev Go.RowKit
set_option linter.unusedVariables false
noncomputable section
/-- A number, a value of memory. -/
def rdV (w : World) (B o : Nat) : Value := (w.cell? ⟨B, o, none⟩).getD (.bool false)
def rdI (w : World) (B o : Nat) : Int := match w.cell? ⟨B, o, none⟩ with
  | some (.int .i64 y) => y
  | _ => 0
theorem VRs_of {φ : Phi} : ∀ {xs : List VV} {f : Nat → Value}, (∀ j x, xs[j]? = some x → VR φ x (f j)) → VRs φ xs ((List.range xs.length).map f)
  | [], f, h => by simp [VRs]
  | x :: xs, f, h => by
    rw [List.length_cons, List.range_succ_eq_map, List.map_cons, List.map_map]
    simp only [VRs]
    exact ⟨_, _, rfl, h 0 x rfl, VRs_of fun j y hj => h (j + 1) y (by simpa using hj)⟩
section
variable {φ : Phi} {w w' : World} {z i n zi : Nat} {H : VH}
/-- What the symbols stand for. -/
structure Src (φ : Phi) (rs : List AbR) (z i : Nat) (w : World) : Prop where
  int : ∀ k, I64 (φ.ρ.int k)
  nm : ∃ s, φ.ρ.val 0 = .string s ∧ s.size ≤ 17
  rs : ∀ k r, rs[k]? = some r → r.OK z i w ∧ φ.ρ.val (aI k 7) = .bool r.x.tap ∧ φ.ρ.val (aI k 8) = .slice r.ta r.x.tg.length r.tc ∧ φ.ρ.val (aI k 9) = .slice r.ca r.x.code.length r.cc
theorem int_of (hi : ∀ k, I64 (φ.ρ.int k)) {x : VV} (h : intB x = true) {v : Value} (hv : VR φ x v) : ∃ y, v = n64 y ∧ I64 y := by
  unfold intB at h
  split at h
  · simp only [VR] at hv
    exact ⟨_, hv, hi _⟩
  · split at h
    · rename_i h1
      simp only [VR] at hv
      exact ⟨_, hv, of_decide_eq_true h1, of_decide_eq_true h⟩
    · cases h
  · cases h
theorem intsB_mem : ∀ {l : List VV}, intsB l = true → ∀ x ∈ l, intB x = true
  | [], _, x, hx => by cases hx
  | y :: l, h, x, hx => by
    simp only [intsB] at h
    split at h
    · rename_i h1
      rcases List.mem_cons.1 hx with rfl | hx
      · exact h1
      · exact intsB_mem h x hx
    · cases h
theorem symB_of {j m : Nat} (h : symB n j m = true) : ∃ k, k < n ∧ m = aI k j := by
  unfold symB at h
  split at h
  · rename_i h1 h2
    have h1 := Nat.le_of_ble_eq_true h1
    have h2 := Nat.eq_of_beq_eq_true h2
    have h3 : (m - 1000) / 13 < n := Nat.le_of_ble_eq_true h
    exact ⟨(m - 1000) / 13, h3, by unfold aI; omega⟩
  · cases h
variable {rs : List AbR}
theorem tap_of (hS : Src φ rs z i w) (hn : n = rs.length) {x : VV} (h : tapB n x = true) {v : Value} (hv : VR φ x v) : ∃ b, v = .bool b := by
  unfold tapB at h
  split at h
  · simp only [VR] at hv
    exact ⟨_, hv⟩
  · obtain ⟨k, hk, rfl⟩ := symB_of h
    simp only [VR] at hv
    have := (hS.rs k _ (List.getElem?_eq_getElem (by omega))).2.1
    rw [this] at hv
    exact ⟨_, hv⟩
  · cases h
variable [X : Ext] {w0 : World}
/-- A local block's cells. -/
theorem blk_of (hs : HSim w0 φ H w) {oz : VO} {iz : Inf} (hz : H.locs.get zi = some oz) (hzi : φ zi = some iz) {b : Nat} {l : List VV} {g : Option Nat} {ro : Nat} {et : Option TypeId} (hb : H.locs.get b = some (.cells l g ro et)) (hne : Nat.beq b zi = false) : ∃ inf, φ b = some inf ∧ inf.blk ≠ iz.blk ∧ inf.blk < w.heap.size ∧ ∀ j x, l[j]? = some x → ∃ y, w.cell? ⟨inf.blk, inf.off + j, none⟩ = some y ∧ VR φ x y := by
  obtain ⟨inf, h1, h2, h3⟩ := hs.cellsAt hb
  refine ⟨inf, h1, fun he => ?_, h2, h3⟩
  have := hs.inj _ _ _ _ _ _ hb hz h1 hzi he
  rw [this] at hne
  simp at hne
theorem tg_of (hn : n = rs.length) (hs : HSim w0 φ H w) {oz : VO} (hz : H.locs.get zi = some oz) {iz : Inf} (hzi : φ zi = some iz) (hS : Src φ rs iz.blk i w) {x : VV} (h : lsB H zi 1 (1 + i) n 8 x = true) {v : Value} (hv : VR φ x v) :
    ∃ (l : List Int) (a : Option Addr) (c B O : Nat), v = .slice a l.length c ∧ l.length ≤ 1 + i ∧ (∀ y ∈ l, I64 y) ∧ (l = [] → a = none ∧ c = 0) ∧ (l ≠ [] → a = some ⟨B, O, none⟩ ∧ B ≠ iz.blk ∧ B < w.heap.size ∧ ∀ j y, l[j]? = some y → w.cell? ⟨B, O + j, none⟩ = some (n64 y)) := by
  unfold lsB at h
  split at h
  · simp only [VR] at hv
    exact ⟨[], none, 0, 0, 0, hv, Nat.zero_le _, (fun y hy => by cases hy), fun _ => ⟨rfl, rfl⟩, fun h => absurd rfl h⟩
  · obtain ⟨k, hk, rfl⟩ := symB_of h
    simp only [VR] at hv
    obtain ⟨g1, _, g2, _⟩ := hS.rs k _ (List.getElem?_eq_getElem (by omega))
    rw [g2] at hv
    exact ⟨_, _, _, _, _, hv, g1.tl, g1.tf, g1.tz, g1.tm⟩
  · rename_i b t c
    split at h
    · rename_i h1 h2 h3
      split at h
      · rename_i h4
        obtain ⟨inf, f1, f2, f3, f4⟩ := blk_of hs hz hzi h3 h1
        have h2 := Nat.le_of_ble_eq_true h2
        have h4 := Nat.eq_of_beq_eq_true h4
        simp only [VR, AR] at hv
        obtain ⟨_, _, ⟨jnf, e1, rfl, rfl⟩, hv⟩ := hv
        rw [f1] at e1
        cases e1
        have cell : ∀ j, j < t + 1 → w.cell? ⟨inf.blk, inf.off + j, none⟩ = some (n64 (rdI w inf.blk (inf.off + j))) ∧ I64 (rdI w inf.blk (inf.off + j)) := fun j hj => by
          obtain ⟨y, y1, y2⟩ := f4 j _ (List.getElem?_eq_getElem (by omega))
          obtain ⟨q, rfl, q2⟩ := int_of hS.int (intsB_mem h _ (List.getElem_mem _)) y2
          have : rdI w inf.blk (inf.off + j) = q := by
            unfold rdI
            rw [y1]
            rfl
          rw [this]
          exact ⟨y1, q2⟩
        refine ⟨(List.range (t + 1)).map fun j => rdI w inf.blk (inf.off + j), some ⟨inf.blk, inf.off, none⟩, c + inf.slack, inf.blk, inf.off, by rw [hv]; simp, by simp; omega, fun y hy => ?_, fun he => by simp at he, fun _ => ⟨rfl, f2, f3, fun j y hj => ?_⟩⟩
        · simp only [List.mem_map, List.mem_range] at hy
          obtain ⟨j, hj, rfl⟩ := hy
          exact (cell j hj).2
        · have hj' : j < t + 1 := by
            have := (List.getElem?_eq_some_iff.1 hj).1
            simpa using this
          rw [List.getElem?_map, List.getElem?_range hj'] at hj
          cases hj
          exact (cell j hj').1
      · cases h
    · cases h
  · cases h
theorem cd_of (hn : n = rs.length) (hs : HSim w0 φ H w) {oz : VO} (hz : H.locs.get zi = some oz) {iz : Inf} (hzi : φ zi = some iz) (hS : Src φ rs iz.blk i w) {x : VV} (h : lsB H zi 3 (2 + i) n 9 x = true) {v : Value} (hv : VR φ x v) :
    ∃ (l : List Ins) (a : Option Addr) (c B O : Nat), v = .slice a l.length c ∧ l.length ≤ 2 + i ∧ (∀ y ∈ l, I64 y.1 ∧ I64 y.2.1 ∧ I64 y.2.2) ∧ (l = [] → a = none ∧ c = 0) ∧ (l ≠ [] → a = some ⟨B, O, none⟩ ∧ B ≠ iz.blk ∧ B < w.heap.size ∧ ∀ j y, l[j]? = some y → ∀ q, q < 3 → w.cell? ⟨B, O + j * 3 + q, none⟩ = some (n64 (insC y q))) := by
  unfold lsB at h
  split at h
  · simp only [VR] at hv
    exact ⟨[], none, 0, 0, 0, hv, Nat.zero_le _, (fun y hy => by cases hy), fun _ => ⟨rfl, rfl⟩, fun h => absurd rfl h⟩
  · obtain ⟨k, hk, rfl⟩ := symB_of h
    simp only [VR] at hv
    obtain ⟨g1, _, _, g2⟩ := hS.rs k _ (List.getElem?_eq_getElem (by omega))
    rw [g2] at hv
    exact ⟨_, _, _, _, _, hv, g1.cl, g1.cf, g1.cz, g1.cm⟩
  · rename_i b t c
    split at h
    · rename_i h1 h2 h3
      split at h
      · rename_i h4
        obtain ⟨inf, f1, f2, f3, f4⟩ := blk_of hs hz hzi h3 h1
        have h2 := Nat.le_of_ble_eq_true h2
        have h4 := Nat.eq_of_beq_eq_true h4
        simp only [VR, AR] at hv
        obtain ⟨_, _, ⟨jnf, e1, rfl, rfl⟩, hv⟩ := hv
        rw [f1] at e1
        cases e1
        have cell : ∀ j, j < 3 * (t + 1) → w.cell? ⟨inf.blk, inf.off + j, none⟩ = some (n64 (rdI w inf.blk (inf.off + j))) ∧ I64 (rdI w inf.blk (inf.off + j)) := fun j hj => by
          obtain ⟨y, y1, y2⟩ := f4 j _ (List.getElem?_eq_getElem (by omega))
          obtain ⟨q, rfl, q2⟩ := int_of hS.int (intsB_mem h _ (List.getElem_mem _)) y2
          have : rdI w inf.blk (inf.off + j) = q := by
            unfold rdI
            rw [y1]
            rfl
          rw [this]
          exact ⟨y1, q2⟩
        let f : Nat → Ins := fun j => (rdI w inf.blk (inf.off + j * 3), rdI w inf.blk (inf.off + (j * 3 + 1)), rdI w inf.blk (inf.off + (j * 3 + 2)))
        refine ⟨(List.range (t + 1)).map f, some ⟨inf.blk, inf.off, none⟩, c + inf.slack, inf.blk, inf.off, by rw [hv]; simp, by simp; omega, fun y hy => ?_, fun he => by simp at he, fun _ => ⟨rfl, f2, f3, fun j y hj q hq => ?_⟩⟩
        · simp only [List.mem_map, List.mem_range] at hy
          obtain ⟨j, hj, rfl⟩ := hy
          exact ⟨(cell (j * 3) (by omega)).2, (cell (j * 3 + 1) (by omega)).2, (cell (j * 3 + 2) (by omega)).2⟩
        · have hj' : j < t + 1 := by
            have := (List.getElem?_eq_some_iff.1 hj).1
            simpa using this
          rw [List.getElem?_map, List.getElem?_range hj'] at hj
          cases hj
          rw [Nat.add_assoc]
          match q, hq with
          | 0, _ => exact (cell (j * 3) (by omega)).1
          | 1, _ => exact (cell (j * 3 + 1) (by omega)).1
          | 2, _ => exact (cell (j * 3 + 2) (by omega)).1
      · cases h
    · cases h
  · cases h
/-- An ability, by its cells. -/
theorem ab_of (hn : n = rs.length) (hs : HSim w0 φ H w) {oz : VO} (hz : H.locs.get zi = some oz) {iz : Inf} (hzi : φ zi = some iz) (hS : Src φ rs iz.blk i w) {xs : List VV} (h : abB H zi i n xs = true) {vs : List Value} (hv : VRs φ xs vs) : ∃ r : AbR, r.cells = vs ∧ r.OK iz.blk i w := by
  unfold abB at h
  split at h
  · rename_i a0 a1 a2 a3 a4 a5 a6 tp tg cd b0 b1 b2
    split at h
    · rename_i h1 h2 h3
      have hi := fun x hx => intsB_mem h1 x hx
      simp only [VRs] at hv
      obtain ⟨_, _, rfl, v0, _, _, rfl, v1, _, _, rfl, v2, _, _, rfl, v3, _, _, rfl, v4, _, _, rfl, v5, _, _, rfl, v6, _, _, rfl, v7, _, _, rfl, v8, _, _, rfl, v9, _, _, rfl, v10, _, _, rfl, v11, _, _, rfl, v12, rfl⟩ := hv
      obtain ⟨y0, rfl, f0⟩ := int_of hS.int (hi _ (by simp)) v0
      obtain ⟨y1, rfl, f1⟩ := int_of hS.int (hi _ (by simp)) v1
      obtain ⟨y2, rfl, f2⟩ := int_of hS.int (hi _ (by simp)) v2
      obtain ⟨y3, rfl, f3⟩ := int_of hS.int (hi _ (by simp)) v3
      obtain ⟨y4, rfl, f4⟩ := int_of hS.int (hi _ (by simp)) v4
      obtain ⟨y5, rfl, f5⟩ := int_of hS.int (hi _ (by simp)) v5
      obtain ⟨y6, rfl, f6⟩ := int_of hS.int (hi _ (by simp)) v6
      obtain ⟨b, rfl⟩ := tap_of hS hn h2 v7
      obtain ⟨l, ta, tc, tB, tO, rfl, t1, t2, t3, t4⟩ := tg_of hn hs hz hzi hS h3 v8
      obtain ⟨k, ca, cc, cB, cO, rfl, c1, c2, c3, c4⟩ := cd_of hn hs hz hzi hS h v9
      obtain ⟨y10, rfl, f10⟩ := int_of hS.int (hi _ (by simp)) v10
      obtain ⟨y11, rfl, f11⟩ := int_of hS.int (hi _ (by simp)) v11
      obtain ⟨y12, rfl, f12⟩ := int_of hS.int (hi _ (by simp)) v12
      refine ⟨⟨⟨y0, y1, y2, y3, y4, y5, y6, b, l, k, y10, y11, y12⟩, ta, tc, tB, tO, ca, cc, cB, cO⟩, rfl, fun y hy => ?_, t2, c2, t1, c1, t3, c3, t4, c4⟩
      simp only [List.mem_cons, List.not_mem_nil, or_false] at hy
      rcases hy with rfl | rfl | rfl | rfl | rfl | rfl | rfl | rfl | rfl | rfl <;> assumption
    · cases h
  · cases h
theorem abs_of (hn : n = rs.length) (hs : HSim w0 φ H w) {oz : VO} (hz : H.locs.get zi = some oz) {iz : Inf} (hzi : φ zi = some iz) (hS : Src φ rs iz.blk i w) {B : Nat} : ∀ {k O : Nat} {l : List VV}, absB H zi i n k l = true → 13 * k ≤ l.length → (∀ j x, l[j]? = some x → ∃ y, w.cell? ⟨B, O + j, none⟩ = some y ∧ VR φ x y) →
    ∃ qs : List AbR, qs.length = k ∧ ∀ q r, qs[q]? = some r → r.OK iz.blk i w ∧ ∀ j v, r.cells[j]? = some v → w.cell? ⟨B, O + q * 13 + j, none⟩ = some v
  | 0, O, l, _, _, _ => ⟨[], rfl, fun q r hr => by simp at hr⟩
  | k + 1, O, l, h, hl, hc => by
    simp only [absB] at h
    split at h
    · rename_i h1
      have hlen : (l.take 13).length = 13 := by rw [List.length_take]; omega
      have hv : VRs φ (l.take 13) ((List.range (l.take 13).length).map fun j => rdV w B (O + j)) := VRs_of fun j x hx => by
        rw [List.getElem?_take] at hx
        split at hx
        · obtain ⟨y, y1, y2⟩ := hc j x hx
          unfold rdV
          rw [y1]
          exact y2
        · cases hx
      obtain ⟨r, r1, r2⟩ := ab_of hn hs hz hzi hS h1 hv
      obtain ⟨qs, q1, q2⟩ := abs_of (B := B) hn hs hz hzi hS (k := k) (O := O + 13) h (by rw [List.length_drop]; omega) fun j x hx => by
        rw [List.getElem?_drop] at hx
        obtain ⟨y, y1, y2⟩ := hc (13 + j) x hx
        exact ⟨y, by rw [show O + 13 + j = O + (13 + j) by omega]; exact y1, y2⟩
      refine ⟨r :: qs, by simp [q1], fun q r' hr => ?_⟩
      match q with
      | 0 =>
        cases hr
        refine ⟨r2, fun j v hj => ?_⟩
        rw [r1, hlen] at hj
        have hj' : j < 13 := by
          have := (List.getElem?_eq_some_iff.1 hj).1
          simpa using this
        rw [List.getElem?_map, List.getElem?_range hj'] at hj
        cases hj
        obtain ⟨y, y1, y2⟩ := hc j _ (List.getElem?_eq_getElem (by omega))
        rw [Nat.zero_mul, Nat.add_zero]
        show w.cell? ⟨B, O + j, none⟩ = some (rdV w B (O + j))
        unfold rdV
        rw [y1]
        rfl
      | q + 1 =>
        obtain ⟨g1, g2⟩ := q2 q r' (by simpa using hr)
        refine ⟨g1, fun j v hj => ?_⟩
        rw [show O + (q + 1) * 13 + j = O + 13 + q * 13 + j by omega]
        exact g2 j v hj
    · cases h
/-- A card, by its cells. -/
theorem card_of (hn : n = rs.length) (hs : HSim w0 φ H w) {oz : VO} (hz : H.locs.get zi = some oz) {iz : Inf} (hzi : φ zi = some iz) (hS : Src φ rs iz.blk i w) {c : List VV} (h : cdB H zi i n c = true) {vs : List Value} (hv : VRs φ c vs) : ∃ d : CdR, d.cells = vs ∧ d.OK iz.blk i w := by
  unfold cdB at h
  split at h
  · rename_i nm a1 a2 a3 a4 a5 a6 a7 a8 a9 al
    split at h
    · rename_i h1 h2
      have hi := fun x hx => intsB_mem h2 x hx
      simp only [VRs] at hv
      obtain ⟨vn, _, rfl, v0, _, _, rfl, v1, _, _, rfl, v2, _, _, rfl, v3, _, _, rfl, v4, _, _, rfl, v5, _, _, rfl, v6, _, _, rfl, v7, _, _, rfl, v8, _, _, rfl, v9, _, _, rfl, v10, rfl⟩ := hv
      have hnm : ∃ s, vn = Value.string s ∧ s.size ≤ 17 := by
        unfold nameB at h1
        split at h1
        · simp only [VR] at v0
          obtain ⟨s, s1, s2⟩ := hS.nm
          rw [s1] at v0
          exact ⟨s, v0, s2⟩
        · simp only [VR] at v0
          exact ⟨_, v0, Nat.le_of_ble_eq_true h1⟩
        · cases h1
      obtain ⟨s, rfl, s2⟩ := hnm
      obtain ⟨y1, rfl, f1⟩ := int_of hS.int (hi _ (by simp)) v1
      obtain ⟨y2, rfl, f2⟩ := int_of hS.int (hi _ (by simp)) v2
      obtain ⟨y3, rfl, f3⟩ := int_of hS.int (hi _ (by simp)) v3
      obtain ⟨y4, rfl, f4⟩ := int_of hS.int (hi _ (by simp)) v4
      obtain ⟨y5, rfl, f5⟩ := int_of hS.int (hi _ (by simp)) v5
      obtain ⟨y6, rfl, f6⟩ := int_of hS.int (hi _ (by simp)) v6
      obtain ⟨y7, rfl, f7⟩ := int_of hS.int (hi _ (by simp)) v7
      obtain ⟨y8, rfl, f8⟩ := int_of hS.int (hi _ (by simp)) v8
      obtain ⟨y9, rfl, f9⟩ := int_of hS.int (hi _ (by simp)) v9
      let hd : Nat → Int := fun k => match k with
        | 1 => y1
        | 2 => y2
        | 3 => y3
        | 4 => y4
        | 5 => y5
        | 6 => y6
        | 7 => y7
        | 8 => y8
        | 9 => y9
        | _ => 0
      have hhd : ∀ k, I64 (hd k) := fun k => by
        show I64 (match k with | 1 => y1 | 2 => y2 | 3 => y3 | 4 => y4 | 5 => y5 | 6 => y6 | 7 => y7 | 8 => y8 | 9 => y9 | _ => 0)
        split <;> first | assumption | exact i64_0
      have empty : ∀ {a : Option Addr} {cp : Nat}, ((a = none ∧ cp = 0) ∨ ∃ b, a = some b) → (⟨s, hd, [], a, cp, 0, 0⟩ : CdR).OK iz.blk i w := fun {a cp} he =>
        ⟨s2, hhd, Nat.zero_le _, fun k r hr => by simp at hr, fun _ => he, Nat.zero_le _⟩
      unfold alB at h
      split at h
      · simp only [VR] at v10
        rw [v10]
        exact ⟨⟨s, hd, [], none, 0, 0, 0⟩, rfl, empty (.inl ⟨rfl, rfl⟩)⟩
      · simp only [VR] at v10
        obtain ⟨a', cp, rfl⟩ := v10
        exact ⟨⟨s, hd, [], some a', cp, 0, 0⟩, rfl, empty (.inr ⟨_, rfl⟩)⟩
      · rename_i b cp
        simp only [VR, AR] at v10
        obtain ⟨a', sl, _, rfl⟩ := v10
        exact ⟨⟨s, hd, [], some a', cp + sl, 0, 0⟩, rfl, empty (.inr ⟨_, rfl⟩)⟩
      · rename_i b m cp
        split at h
        · rename_i k1 k2 k3 k4
          split at h
          · rename_i k5
            obtain ⟨inf, g1, g2, g3, g4⟩ := blk_of hs hz hzi k4 k1
            have k2 := Nat.le_of_ble_eq_true k2
            have k3 := Nat.le_of_ble_eq_true k3
            have k5 := Nat.le_of_ble_eq_true k5
            simp only [VR, AR] at v10
            obtain ⟨_, _, ⟨jnf, e1, rfl, rfl⟩, rfl⟩ := v10
            rw [g1] at e1
            cases e1
            obtain ⟨qs, q1, q2⟩ := abs_of (B := inf.blk) (O := inf.off) hn hs hz hzi hS h k5 g4
            refine ⟨⟨s, hd, qs, some ⟨inf.blk, inf.off, none⟩, cp + inf.slack, inf.blk, inf.off⟩, ?_, s2, hhd, by show qs.length ≤ 2 + i; omega, fun k r hr => ?_, fun he => ?_, by show qs.length ≤ cp + inf.slack; omega⟩
            · unfold CdR.cells CdR.al
              rw [q1]
              rfl
            · obtain ⟨r1, r2⟩ := q2 k r hr
              exact ⟨r1, rfl, g2, g3, r2⟩
            · have he : qs = [] := he
              rw [he] at q1
              cases q1
          · cases h
        · cases h
      · cases h
    · cases h
  · cases h
end
end
end Go.Proofs.Ytgbpkilegbechaa.greater
