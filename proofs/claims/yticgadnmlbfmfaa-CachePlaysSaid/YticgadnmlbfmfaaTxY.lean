/-
  Chapter 25: the answer's cache changes; its statics, fits, all, walked.
-/
import Derived.Test.YticgadnmlbfmfaaTxX
namespace Go.Proofs.Yticgadnmlbfmfaa.cachePlays
open Go.Shelf Go.RowKit Go.Lib Go.Sort Go.Maps
theorem OutK.refl (Y : Nat → Prop) (w : World) : OutK Y w w := ⟨rfl, rfl, rfl, Nat.le_refl _, fun _ _ _ => rfl⟩
theorem OutK.next {Y : Nat → Prop} {a b c : World} (h : OutK Y a b) (g : OutK Y b c) : OutK Y a c := ⟨g.os.trans h.os, g.tape.trans h.tape, g.output.trans h.output, Nat.le_trans h.size g.size, fun k hk hn => (g.k k (Nat.lt_of_lt_of_le hk h.size) hn).trans (h.k k hk hn)⟩
theorem OutK.gr {Y : Nat → Prop} {w w' : World} (g : Gr w w') : OutK Y w w' := ⟨(gr_grown g).os, (gr_grown g).tape, (gr_grown g).output, (gr_grown g).size, fun k hk _ => (gr_grown g).block k hk (by simp)⟩
theorem OutK.one {w w' : World} {rb : Nat} (g : w.grownBy w' (some rb)) : OutK (fun b => b = rb) w w' := ⟨g.os, g.tape, g.output, g.size, fun k hk hn => g.block k hk (by simpa using hn)⟩
theorem OutK.kz {Z Y : Nat → Prop} {w w' : World} (g : OutK Y w w') (h : ∀ b, Z b → ¬ Y b) : Kz Z w w' := ⟨g.size, fun k hz hl => g.k k hl (h k hz)⟩
theorem set_grown (b o : Nat) (v : Value) (W : World) : W.grownBy (W.setCell ⟨b, o, none⟩ v) (some b) := sets_grown b [v] o W
theorem blk_setA {W : World} {b : Nat} {F : Array Value} {t : TypeId} (h : W.heap[b]? = some (.cells F t)) (j : Nat) (v : Value) : (W.setCell ⟨b, j, none⟩ v).heap[b]? = some (.cells (F.setIfInBounds j v) t) := by
  simp only [World.setCell, Array.getElem?_modify, h]
  simp
def Rc.setD (R : Rc) (k : Nat) (b : Bool) : Rc := { R with dt := fun q => if q = k then b else R.dt q }
def Rc.setI (R : Rc) (k : Nat) (b : Bool) : Rc := { R with is := fun q => if q = k then b else R.is q }
def Rc.setO (R : Rc) (k : Nat) (x : Hd) : Rc := { R with h := fun q => if q = k then x else R.h q }
def Rc.all (R : Rc) : Rc := { R with dt := fun q => R.dt q || R.is q }
theorem RcAt.setD {Z : Nat → Prop} {W : World} {rb : Nat} {R : Rc} (h : RcAt Z W rb R) {k : Nat} (hk : k < 256) (b : Bool) : RcAt Z (W.setCell ⟨rb, 3841 + k, none⟩ (.bool b)) rb (R.setD k b) := by
  have g := set_grown rb (3841 + k) (.bool b) W
  have kz : Kz Z W (W.setCell ⟨rb, 3841 + k, none⟩ (.bool b)) := Kz.grown g (fun b e => by cases e; exact h.r)
  obtain ⟨F, ca, cc, rs, row, c1, c2, c3, c4, c5, c6⟩ := h.x
  exact ⟨⟨_, ca, cc, rs, row, blk_setA c1 _ _, c2.setD hk b, c3.keep kz, c4, fun i r x hr hx => (c5 i r x hr hx).keep kz, fun k hk => (c6 k hk).keep kz⟩, h.n, h.r, fun b hb => Nat.lt_of_lt_of_le (h.zl b hb) g.size⟩
theorem RcAt.setI {Z : Nat → Prop} {W : World} {rb : Nat} {R : Rc} (h : RcAt Z W rb R) {k : Nat} (hk : k < 256) (b : Bool) : RcAt Z (W.setCell ⟨rb, 1 + k, none⟩ (.bool b)) rb (R.setI k b) := by
  have g := set_grown rb (1 + k) (.bool b) W
  have kz : Kz Z W (W.setCell ⟨rb, 1 + k, none⟩ (.bool b)) := Kz.grown g (fun b e => by cases e; exact h.r)
  obtain ⟨F, ca, cc, rs, row, c1, c2, c3, c4, c5, c6⟩ := h.x
  exact ⟨⟨_, ca, cc, rs, row, blk_setA c1 _ _, c2.setI hk b, c3.keep kz, c4, fun i r x hr hx => (c5 i r x hr hx).keep kz, fun k hk => (c6 k hk).keep kz⟩, h.n, h.r, fun b hb => Nat.lt_of_lt_of_le (h.zl b hb) g.size⟩
theorem ObR.mono {Z Y : Nat → Prop} {w : World} {ob : List Value} {card ctrl stamp : Int} {effs : List Ef} (h : ObR Z w ob card ctrl stamp effs) (hy : ∀ b, Z b → b < w.heap.size → Y b) : ObR Y w ob card ctrl stamp effs := by
  obtain ⟨ea, ec, e1, e2⟩ := h.ef
  exact ⟨h.len, h.one, h.q1, h.q3, h.q9, ⟨ea, ec, e1, e2.mono hy⟩, h.n⟩
theorem RcAt.mono {Z Y : Nat → Prop} {W : World} {rb : Nat} {R : Rc} (h : RcAt Z W rb R) (hy : ∀ b, Z b → b < W.heap.size → Y b) (hr : ¬ Y rb) (hl : ∀ b, Y b → b < W.heap.size) : RcAt Y W rb R := by
  obtain ⟨F, ca, cc, rs, row, c1, c2, c3, c4, c5, c6⟩ := h.x
  exact ⟨⟨F, ca, cc, rs, row, c1, c2, c3.mono hy, c4, fun i r x hr hx => (c5 i r x hr hx).mono hy, fun k hk => (c6 k hk).mono hy⟩, h.n, hr, hl⟩
theorem RcAt.setO {Z : Nat → Prop} {W : World} {rb : Nat} {R : Rc} (h : RcAt Z W rb R) {k : Nat} (hk : k < 256) {ob : List Value} {x : Hd} (hO : ObR Z W ob x.card x.ctrl x.stamp x.effs) : RcAt Z (W.setCells rb (257 + k * 14) ob) rb (R.setO k x) := by
  have g := sets_grown rb ob (257 + k * 14) W
  have kz : Kz Z W (W.setCells rb (257 + k * 14) ob) := Kz.grown g (fun b e => by cases e; exact h.r)
  obtain ⟨F, ca, cc, rs, row, c1, c2, c3, c4, c5, c6⟩ := h.x
  refine ⟨⟨_, ca, cc, rs, _, blk_sets rb 59 ob (257 + k * 14) c1, c2.setO hk hO.len, c3.keep kz, c4, fun i r x hr hx => (c5 i r x hr hx).keep kz, fun q hq => ?_⟩, h.n, h.r, fun b hb => Nat.lt_of_lt_of_le (h.zl b hb) g.size⟩
  show ObR Z _ (if q = k then ob else row q) (if q = k then x else R.h q).card (if q = k then x else R.h q).ctrl (if q = k then x else R.h q).stamp (if q = k then x else R.h q).effs
  by_cases e : q = k
  · simp only [e, if_true]
    exact hO.keep kz
  · simp only [e, if_false]
    exact (c6 q hq).keep kz
/-- What lies where. -/
theorem RcAt.cd {Z : Nat → Prop} {W : World} {rb : Nat} {R : Rc} (h : RcAt Z W rb R) {k : Nat} (hk : k < 256) : W.cell? ⟨rb, 3841 + k, none⟩ = some (.bool (R.dt k)) ∧ W.frozen? ⟨rb, 3841 + k, none⟩ = false := by
  obtain ⟨F, ca, cc, rs, row, c1, c2, _⟩ := h.x
  have hh := blk_hold (l := F.toList) (by simpa using c1)
  exact ⟨hold_cell hh (by simpa using c2.d k hk), by have h := (hh (3841 + k) (by have := c2.z; simp; omega)).2; rwa [Nat.zero_add] at h⟩
theorem RcAt.ci {Z : Nat → Prop} {W : World} {rb : Nat} {R : Rc} (h : RcAt Z W rb R) {k : Nat} (hk : k < 256) : W.cell? ⟨rb, 1 + k, none⟩ = some (.bool (R.is k)) ∧ W.frozen? ⟨rb, 1 + k, none⟩ = false := by
  obtain ⟨F, ca, cc, rs, row, c1, c2, _⟩ := h.x
  have hh := blk_hold (l := F.toList) (by simpa using c1)
  exact ⟨hold_cell hh (by simpa using c2.i k hk), by have h := (hh (1 + k) (by have := c2.z; simp; omega)).2; rwa [Nat.zero_add] at h⟩
theorem RcAt.co {Z : Nat → Prop} {W : World} {rb : Nat} {R : Rc} (h : RcAt Z W rb R) {k : Nat} (hk : k < 256) : W.cell? ⟨rb, 257 + k * 14 + 3, none⟩ = some (.int .i64 (R.h k).ctrl) ∧ W.cell? ⟨rb, 257 + k * 14 + 9, none⟩ = some (.int .i64 (R.h k).stamp) ∧ ∃ (ea : Option Addr) (ec : Nat), W.cell? ⟨rb, 257 + k * 14 + 13, none⟩ = some (.slice ea (R.h k).effs.length ec) ∧ RowsZ Z W ea 4 ((R.h k).effs.map encE) := by
  obtain ⟨F, ca, cc, rs, row, c1, c2, c3, c4, c5, c6⟩ := h.x
  have hh := blk_hold (l := F.toList) (by simpa using c1)
  have hc := c6 k hk
  obtain ⟨ea, ec, e1, e2⟩ := hc.ef
  exact ⟨hold_cell hh (by simpa using c2.o k hk 3 _ hc.q3), hold_cell hh (by simpa using c2.o k hk 9 _ hc.q9), ea, ec, hold_cell hh (by simpa using c2.o k hk 13 _ e1), e2⟩
theorem RcAt.cells {Z : Nat → Prop} {W : World} {rb : Nat} {R : Rc} (h : RcAt Z W rb R) : ∃ l : List Value, l.length = 4097 ∧ W.heap[rb]? = some (.cells l.toArray 59) := by
  obtain ⟨F, ca, cc, rs, row, c1, c2, _⟩ := h.x
  exact ⟨F.toList, by simpa using c2.z, by simpa using c1⟩
/-- What this page leans on. -/
structure RcP (P : Program) : Prop where
  card : ∀ {Z : Nat → Prop} {w : World} {rb : Nat} {R : Rc}, RcAt Z w rb R → ∀ {k : Nat}, k < 256 → Calls P 41 #[.pointer (some ⟨rb, 0, none⟩), .int .i64 k] w (CardOK Z w (R.cd k))
/-- Where a card's abilities lie. -/
structure AbL (w : World) (ad : Option Addr) (l : List Ab) (Z : Nat → Prop) : Prop where
  x : ∀ i (x : Ab), l[i]? = some x → ∃ (B O : Nat), ad = some ⟨B, O, none⟩ ∧ ∀ w' : World, (∀ b, Z b → b < w.heap.size → w'.heap[b]? = w.heap[b]?) → w'.cell? ⟨B, O + i * 13, none⟩ = some (.int .i64 x.kind) ∧ w'.cell? ⟨B, O + i * 13 + 2, none⟩ = some (.int .i64 x.who) ∧ w'.cell? ⟨B, O + i * 13 + 10, none⟩ = some (.int .i64 x.op) ∧ w'.cell? ⟨B, O + i * 13 + 11, none⟩ = some (.int .i64 x.a) ∧ w'.cell? ⟨B, O + i * 13 + 12, none⟩ = some (.int .i64 x.b)
theorem CdR.abRow {Z : Nat → Prop} {w : World} {r : List Value} {c : Cd} (h : CdR Z w r c) : ∃ (ad : Option Addr) (cp : Nat), r[10]? = some (.slice ad c.abs.length cp) ∧ AbL w ad c.abs Z := by
  obtain ⟨ad, cp, rs, b1, b2, b3, b4⟩ := h.ab
  refine ⟨ad, cp, b1, ⟨fun i x hx => ?_⟩⟩
  have hi : i < rs.length := by rw [b3]; exact (List.getElem?_eq_some_iff.1 hx).1
  have hr : rs[i]? = some rs[i] := List.getElem?_eq_getElem hi
  have hA := b4 i _ _ hr hx
  rcases b2 with hb | ⟨B, O, e, hz, hb, hc⟩
  · rw [hb] at hi
    simp at hi
  · refine ⟨B, O, e, fun w' g => ?_⟩
    have k : ∀ (j : Nat) v, rs[i][j]? = some v → w'.cell? ⟨B, O + i * 13 + j, none⟩ = some v := fun j v hv => by
      have := hc i _ hr j v hv
      unfold World.cell? at this ⊢
      rw [g B hz hb]
      exact this
    exact ⟨k 0 _ hA.q0, k 2 _ hA.q2, k 10 _ hA.q10, k 11 _ hA.q11, k 12 _ hA.q12⟩
theorem stat_snoc (l : List Ab) (i : Nat) (x : Ab) (hx : l[i]? = some x) (h : x.kind ≠ 4) (hp : ∀ j y, l[j]? = some y → j < i → y.kind ≠ 4) : ∀ j y, l[j]? = some y → j < i + 1 → y.kind ≠ 4 := fun j y hy hj => by
  rcases Nat.lt_or_ge j i with h1 | h1
  · exact hp j y hy h1
  · obtain rfl : j = i := by omega
    rw [hx] at hy
    cases hy
    exact h
theorem fld_abs {P : Program} {k30 k82 k89 k92 : Nat} {y30 y82 y89 y92 : List Value} (L : LayQ P k30 k82 k89 k92 y30 y82 y89 y92) {r : List Value} {v : Value} (h : r[10]? = some v) (W : World) : (Instr.field 82 (.agg r.toArray) 7).run P W = .ok v W := by
  have ha : ∀ a W, (asAgg (.agg a)).run P W = .ok a W := fun _ _ => rfl
  simp [Instr.field, run_underlying L.t82, go_sem, L.a80, ha, Result.andThen, h]
set_option maxHeartbeats 4000000 in
set_option maxRecDepth 100000 in
theorem rstatics_calls {P : Program} {k30 k82 k89 k92 k59 : Nat} {y30 y82 y89 y92 y59 : List Value} (L : LayQ P k30 k82 k89 k92 y30 y82 y89 y92) (V : LayV P k59 y59) (RP : RcP P) (h82 : k82 = 11) (h89 : k89 = 13) {Z : Nat → Prop} {w : World} {rb : Nat} {R : Rc} (h : RcAt Z w rb R) {k : Nat} (hk : k < 256) : Calls P 39 #[.pointer (some ⟨rb, 0, none⟩), .int .i64 k] w fun e w' => e = .returned (.bool (stat (R.cd k))) ∧ Gr w w' := by
  have t3 := L.t3; have a3 := L.a3; have z3 := L.z3; have t80 := L.t80; have a80 := L.a80; have z80 := L.z80; have a82 := L.a82; have z82 := L.z82; have qu82 := run_underlying L.t82; have a89 := L.a89; have z89 := L.z89; have qu89 := run_underlying L.t89; have e41 := V.e41
  have n82 : ¬ k82 = 0 := by rw [h82]; decide
  have H89 : Aside (k89 = 13) := h89
  have hc := RP.card h hk
  generalize R.cd k = c at hc ⊢
  clear h h82 h89
  go_enter V.f39, Try.ntmps39
  go_upto_region 2 with (go_at_fn 41; refine hc.mono ?_; rintro e w1 ⟨r, rfl, hr, hG⟩; obtain ⟨ad, cp, b1, b2⟩ := hr.abRow; have hfl := fld_abs L b1; have hn := hr.n; have HG : Aside (Gr w w1) := hG; have HB : Aside (AbL w1 ad c.abs Z) := b2; clear hG b1 b2 hr hc)
  go_wp2
  go_loopg [6] c.abs.length (fun kx s6 wr => ∃ i : Nat, s6 = .int .i64 i ∧ i ≤ c.abs.length ∧ c.abs.length - i ≤ kx ∧ wr = w1 ∧ Hid (∀ j y, c.abs[j]? = some y → j < i → y.kind ≠ 4))
  case atStart => exact ⟨0, rfl, Nat.zero_le _, Nat.le_refl _, rfl, fun j y _ hj => by omega⟩
  case round =>
    obtain ⟨i, rfl, hid, hkx, rfl, HE⟩ := hrel
    by_cases hlt : i < c.abs.length
    · have hltz : (i : Int) < (c.abs.length : Int) := by omega
      have wi : IntKind.i64.wrap ((i : Int) + 1) = (i : Int) + 1 := by rw [IntKind.wrap_i64]; omega
      obtain ⟨x, hx⟩ : ∃ x, c.abs[i]? = some x := ⟨_, List.getElem?_eq_getElem hlt⟩
      obtain ⟨B, O, rfl, hcl⟩ := HB.out.x i x hx
      have c0 : wr.cell? ⟨B, O + i * k89, none⟩ = some (.int .i64 x.kind) := by rw [H89.out]; exact (hcl wr (fun _ _ _ => rfl)).1
      have HX : Hid (c.abs[i]? = some x) := hx
      clear hcl hx
      cases hq : (x.kind == 4) with
      | true =>
        go_wp2
        go_returns
        have : stat c = true := List.any_eq_true.2 ⟨x, List.mem_of_getElem? HX.out, hq⟩
        rw [this]
        exact ⟨rfl, HG.out⟩
      | false =>
        go_wp2
        go_roundg (c.abs.length - (i + 1))
        case measure => omega
        case rel => exact ⟨i + 1, by first | rfl | go_num, by omega, Nat.le_refl _, rfl, stat_snoc _ _ _ HX.out (by simpa using hq) HE.out⟩
    · have hltz : ¬ (i : Int) < (c.abs.length : Int) := by omega
      go_wp2
      go_returns
      have : stat c = false := by
        unfold stat
        rw [List.any_eq_false]
        intro x hx
        obtain ⟨j, hj, rfl⟩ := List.getElem_of_mem hx
        simpa using HE.out j _ (List.getElem?_eq_getElem hj) (by omega)
      rw [this]
      exact ⟨rfl, HG.out⟩
set_option maxHeartbeats 4000000 in
set_option maxRecDepth 100000 in
theorem rfits_calls {P : Program} {k30 k82 k89 k92 k59 : Nat} {y30 y82 y89 y92 y59 : List Value} (L : LayQ P k30 k82 k89 k92 y30 y82 y89 y92) (V : LayV P k59 y59) (h30 : k30 = 14) {Z : Nat → Prop} {w : World} {rb : Nat} {R : Rc} (h : RcAt Z w rb R) {k j : Nat} (hk : k < 256) (hj : j < 256) (who : Int) : Calls P 42 #[.pointer (some ⟨rb, 0, none⟩), .int .i64 who, .int .i64 k, .int .i64 j] w fun e w' => e = .returned (.bool (fitC who k j ((R.h k).ctrl == (R.h j).ctrl))) ∧ Gr w w' := by
  have mixed := L.mixed; have t3 := L.t3; have qt3 := run_underlying L.t3; have a3 := L.a3; have z3 := L.z3; have v3 := L.v3; have t4 := L.t4; have qt4 := run_underlying L.t4; have a4 := L.a4; have z4 := L.z4; have v4 := L.v4; have t26 := L.t26; have qt26 := run_underlying L.t26; have a26 := L.a26; have z26 := L.z26; have v26 := L.v26; have t28 := L.t28; have qt28 := run_underlying L.t28; have a28 := L.a28; have z28 := L.z28; have v28 := L.v28; have t80 := L.t80; have qt80 := run_underlying L.t80; have a80 := L.a80; have z80 := L.z80; have v80 := L.v80; have t30 := L.t30; have qt30 := run_underlying L.t30; have a30 := L.a30; have z30 := L.z30; have v30 := L.v30; have t82 := L.t82; have qt82 := run_underlying L.t82; have a82 := L.a82; have z82 := L.z82; have v82 := L.v82; have e38 := V.e38; have e39 := V.e39; have e40 := V.e40; have e41 := V.e41; have e42 := V.e42; have e43 := V.e43; have e44 := V.e44; have t43 := V.t43; have qt43 := run_underlying V.t43; have a43 := V.a43; have z43 := V.z43; have v43 := V.v43; have t59 := V.t59; have qt59 := run_underlying V.t59; have a59 := V.a59; have z59 := V.z59; have v59 := V.v59; have t56 := V.t56; have qt56 := run_underlying V.t56; have a56 := V.a56; have z56 := V.z56; have t57 := V.t57; have qt57 := run_underlying V.t57; have a57 := V.a57; have z57 := V.z57; have z9 := V.z9; have z79 := V.z79
  have hkz : (k : Int) < 256 := by omega
  have hjz : (j : Int) < 256 := by omega
  have o1 : w.cell? ⟨rb, 257 + k * k30 + 3, none⟩ = some (.int .i64 (R.h k).ctrl) := by rw [h30]; exact (h.co hk).1
  have o2 : w.cell? ⟨rb, 257 + j * k30 + 3, none⟩ = some (.int .i64 (R.h j).ctrl) := by rw [h30]; exact (h.co hj).1
  generalize (R.h k).ctrl = p at o1 ⊢
  generalize (R.h j).ctrl = q at o2 ⊢
  clear h hk hj h30
  go_enter V.f42, Try.ntmps42
  go_upto_region 1 with fail
  go_big_region_o
  have G1 : Aside (Gr w w.drew) := (Gr.refl w).drew
  clear o1 o2
  generalize w.drew = W1 at G1 ⊢
  cases hs : (p == q) with
  | true =>
    have hpq : Hid (p = q) := eq_of_beq hs
    by_cases h0 : who = 0
    · subst h0
      go_wp2
      go_returns
      exact ⟨by first | (simp [fitC]; done) | (have := hpq.out; simp [fitC, this]), G1.out⟩
    · have b0 : (who == 0) = false := by simpa using h0
      by_cases h1 : who = 1
      · subst h1
        go_wp2
        go_returns
        exact ⟨by first | (simp [fitC]; done) | (have := hpq.out; simp [fitC, this]), G1.out⟩
      · have b1 : (who == 1) = false := by simpa using h1
        by_cases h2 : who = 2
        · subst h2
          go_wp2
          go_returns
          exact ⟨by first | (simp [fitC]; done) | (have := hpq.out; simp [fitC, this]), G1.out⟩
        · have b2 : (who == 2) = false := by simpa using h2
          by_cases h3 : who = 3
          · subst h3
            go_wp2
            go_returns
            exact ⟨by first | (simp [fitC]; done) | (have := hpq.out; simp [fitC, this]), G1.out⟩
          · have b3 : (who == 3) = false := by simpa using h3
            go_wp2
            go_returns
            exact ⟨by simp [fitC, b0, b1, b2, b3], G1.out⟩
  | false =>
    have hpq : Hid (¬ p = q) := (show ¬ p = q by simpa using hs)
    by_cases h0 : who = 0
    · subst h0
      go_wp2
      go_returns
      exact ⟨by first | (simp [fitC]; done) | (have := hpq.out; simp [fitC, this]), G1.out⟩
    · have b0 : (who == 0) = false := by simpa using h0
      by_cases h1 : who = 1
      · subst h1
        go_wp2
        go_returns
        exact ⟨by first | (simp [fitC]; done) | (have := hpq.out; simp [fitC, this]), G1.out⟩
      · have b1 : (who == 1) = false := by simpa using h1
        by_cases h2 : who = 2
        · subst h2
          go_wp2
          go_returns
          exact ⟨by first | (simp [fitC]; done) | (have := hpq.out; simp [fitC, this]), G1.out⟩
        · have b2 : (who == 2) = false := by simpa using h2
          by_cases h3 : who = 3
          · subst h3
            go_wp2
            go_returns
            exact ⟨by first | (simp [fitC]; done) | (have := hpq.out; simp [fitC, this]), G1.out⟩
          · have b3 : (who == 3) = false := by simpa using h3
            go_wp2
            go_returns
            exact ⟨by simp [fitC, b0, b1, b2, b3], G1.out⟩
def Rc.upto (R : Rc) (i : Nat) : Rc := { R with dt := fun q => if q < i then R.dt q || R.is q else R.dt q }
theorem upto_zero (R : Rc) : R.upto 0 = R := by
  unfold Rc.upto
  simp
theorem upto_next (R : Rc) (i : Nat) : (R.upto i).setD i (R.dt i || R.is i) = R.upto (i + 1) := by
  unfold Rc.upto Rc.setD
  congr 1
  funext q
  dsimp only
  by_cases e : q = i
  · subst e
    rw [if_pos rfl, if_pos (by omega)]
  · rw [if_neg e]
    by_cases h : q < i
    · rw [if_pos h, if_pos (by omega)]
    · rw [if_neg h, if_neg (by omega)]
theorem RcAt.of_dt {Z : Nat → Prop} {W : World} {rb : Nat} {R : Rc} (h : RcAt Z W rb R) {dt : Nat → Bool} (hd : ∀ k, k < 256 → dt k = R.dt k) : RcAt Z W rb { R with dt := dt } := by
  obtain ⟨F, ca, cc, rs, row, c1, c2, c3, c4, c5, c6⟩ := h.x
  exact ⟨⟨F, ca, cc, rs, row, c1, ⟨c2.z, c2.c, c2.i, c2.o, fun k hk => by show F[3841 + k]? = some (.bool (dt k)); rw [hd k hk]; exact c2.d k hk, c2.l⟩, c3, c4, c5, c6⟩, h.n, h.r, h.zl⟩
structure Ral (Z : Nat → Prop) (w : World) (rb : Nat) (R : Rc) (wr : World) : Prop where
  h : RcAt Z wr rb R
  o : OutK (fun b => b = rb) w wr
set_option maxHeartbeats 4000000 in
set_option maxRecDepth 100000 in
theorem rall_calls {P : Program} {k30 k82 k89 k92 k59 : Nat} {y30 y82 y89 y92 y59 : List Value} (L : LayQ P k30 k82 k89 k92 y30 y82 y89 y92) (V : LayV P k59 y59) {Z : Nat → Prop} {w : World} {rb : Nat} {R : Rc} (h : RcAt Z w rb R) : Calls P 40 #[.pointer (some ⟨rb, 0, none⟩)] w fun e w' => e = .returned (.tuple #[]) ∧ Ral Z w rb R.all w' := by
  have mixed := L.mixed; have t3 := L.t3; have qt3 := run_underlying L.t3; have a3 := L.a3; have z3 := L.z3; have v3 := L.v3; have t4 := L.t4; have qt4 := run_underlying L.t4; have a4 := L.a4; have z4 := L.z4; have v4 := L.v4; have t26 := L.t26; have qt26 := run_underlying L.t26; have a26 := L.a26; have z26 := L.z26; have v26 := L.v26; have t28 := L.t28; have qt28 := run_underlying L.t28; have a28 := L.a28; have z28 := L.z28; have v28 := L.v28; have t80 := L.t80; have qt80 := run_underlying L.t80; have a80 := L.a80; have z80 := L.z80; have v80 := L.v80; have t30 := L.t30; have qt30 := run_underlying L.t30; have a30 := L.a30; have z30 := L.z30; have v30 := L.v30; have t82 := L.t82; have qt82 := run_underlying L.t82; have a82 := L.a82; have z82 := L.z82; have v82 := L.v82; have e38 := V.e38; have e39 := V.e39; have e40 := V.e40; have e41 := V.e41; have e42 := V.e42; have e43 := V.e43; have e44 := V.e44; have t43 := V.t43; have qt43 := run_underlying V.t43; have a43 := V.a43; have z43 := V.z43; have v43 := V.v43; have t59 := V.t59; have qt59 := run_underlying V.t59; have a59 := V.a59; have z59 := V.z59; have v59 := V.v59; have t56 := V.t56; have qt56 := run_underlying V.t56; have a56 := V.a56; have z56 := V.z56; have t57 := V.t57; have qt57 := run_underlying V.t57; have a57 := V.a57; have z57 := V.z57; have z9 := V.z9; have z79 := V.z79
  have H0 : Aside (Ral Z w rb (R.upto 0) w) := (show Ral Z w rb (R.upto 0) w from ⟨by rw [upto_zero]; exact h, .refl _ _⟩)
  clear h
  go_enter V.f40, Try.ntmps40
  go_wp2
  go_loopg [2] 256 (fun kx s2 wr => ∃ i : Nat, s2 = .int .i64 i ∧ i ≤ 256 ∧ 256 - i ≤ kx ∧ Aside (Ral Z w rb (R.upto i) wr))
  case atStart => exact ⟨0, rfl, by omega, Nat.le_refl _, H0⟩
  case round =>
    clear H0
    obtain ⟨i, rfl, hid, hkx, S1⟩ := hrel
    by_cases hlt : i < 256
    · have hltz : (i : Int) < 256 := by omega
      have wi : IntKind.i64.wrap ((i : Int) + 1) = (i : Int) + 1 := by rw [IntKind.wrap_i64]; omega
      obtain ⟨d1, d2⟩ := S1.out.h.cd hlt
      obtain ⟨i1, _⟩ := S1.out.h.ci hlt
      have hd : (R.upto i).dt i = R.dt i := by show (if i < i then _ else _) = _; rw [if_neg (by omega)]
      have hi : (R.upto i).is i = R.is i := rfl
      rw [hd] at d1
      rw [hi] at i1
      have S2 : Aside (Ral Z w rb (R.upto (i + 1)) (wr.drew.setCell ⟨rb, 3841 + i, none⟩ (.bool (R.dt i || R.is i)))) := (show Ral Z w rb (R.upto (i + 1)) (wr.drew.setCell ⟨rb, 3841 + i, none⟩ (.bool (R.dt i || R.is i))) from ⟨by rw [← upto_next]; exact (S1.out.h.gr ((Gr.refl wr).drew)).setD hlt _, (S1.out.o.next (.gr ((Gr.refl wr).drew))).next (.one (set_grown _ _ _ _))⟩)
      clear S1 hd hi
      cases hd : R.dt i with
      | true =>
        rw [hd] at d1
        rw [hd, Bool.true_or] at S2
        go_wp2_with fail
        go_region_o
        go_wp2
        go_roundg (256 - (i + 1))
        case measure => omega
        case rel => exact ⟨i + 1, by first | rfl | go_num, by omega, Nat.le_refl _, S2⟩
      | false =>
        rw [hd] at d1
        rw [hd, Bool.false_or] at S2
        go_wp2_with fail
        go_region_o
        go_wp2
        go_roundg (256 - (i + 1))
        case measure => omega
        case rel => exact ⟨i + 1, by first | rfl | go_num, by omega, Nat.le_refl _, S2⟩
    · obtain rfl : i = 256 := by omega
      have hltz : ¬ (256 : Int) < 256 := by decide
      go_wp2
      go_end0
      refine ⟨rfl, ⟨?_, S1.out.o⟩⟩
      have := S1.out.h.of_dt (dt := R.all.dt) (fun k hk => by show _ = (if k < 256 then _ else _); rw [if_pos hk]; rfl)
      exact this
end Go.Proofs.Yticgadnmlbfmfaa.cachePlays
/-
  Chapter 25: the answer's Put, Take, walked.
-/
namespace Go.Proofs.Yticgadnmlbfmfaa.cachePlays
open Go.Shelf Go.RowKit Go.Lib Go.Sort Go.Maps
def Rc.put (R : Rc) (k : Nat) (x : Hd) : Rc := if stat (R.cd k) || stat (cdOf R.cards x.card) then (((R.setI k true).setO k x).setD k true).all else ((R.setI k true).setO k x).setD k true
def Rc.take (R : Rc) (k : Nat) : Rc := if R.is k = true then (if stat (R.cd k) then ((R.setI k false).setD k false).all else (R.setI k false).setD k false) else R
/-- What this page leans on. -/
structure RcQ (P : Program) (k89 : Nat) : Prop where
  pl : ∀ (k : Int) (w : World), Calls P 38 #[.int .i64 k] w fun e w' => e = .returned (.bool (decide (0 ≤ k) && decide (k < 256))) ∧ w' = w
  st : ∀ {Z : Nat → Prop} {w : World} {rb : Nat} {R : Rc}, RcAt Z w rb R → ∀ {k : Nat}, k < 256 → Calls P 39 #[.pointer (some ⟨rb, 0, none⟩), .int .i64 k] w fun e w' => e = .returned (.bool (stat (R.cd k))) ∧ Gr w w'
  al : ∀ {Z : Nat → Prop} {w : World} {rb : Nat} {R : Rc}, RcAt Z w rb R → Calls P 40 #[.pointer (some ⟨rb, 0, none⟩)] w fun e w' => e = .returned (.tuple #[]) ∧ Ral Z w rb R.all w'
  i49 : ∃ i z, P.info? 49 = some i ∧ i.zero = some z ∧ z.cells.size = 4 ∧ i.size = 4 ∧ i.bytes ≤ 1000
theorem put_stat (R : Rc) (k : Nat) (x : Hd) : (((R.setI k true).setO k x).setD k true).cd k = cdOf R.cards x.card := by
  unfold Rc.cd
  have e : (((R.setI k true).setO k x).setD k true).is k = true := by show (if k = k then true else _) = true; rw [if_pos rfl]
  rw [e, if_pos rfl]
  show cdOf R.cards (if k = k then x else _).card = _
  rw [if_pos rfl]
theorem flatE_getR : ∀ (l : List Ef) (i : Nat) (h : i < l.length) (k : Nat), k < 4 → (flatE l)[i * 4 + k]? = (encE l[i])[k]?
  | x :: l, 0, _, k, hk => by
    have e : flatE (x :: l) = encE x ++ flatE l := by simp [flatE]
    rw [e, List.getElem?_append_left (by rw [encE_len]; omega)]
    simp
  | x :: l, i + 1, h, k, hk => by
    have e : flatE (x :: l) = encE x ++ flatE l := by simp [flatE]
    rw [e, List.getElem?_append_right (by rw [encE_len]; omega), encE_len, show (i + 1) * 4 + k - 4 = i * 4 + k by omega, flatE_getR l i (by simpa using h) k hk]
    simp
/-- A list of effects, copied. -/
theorem app_effs2 {P : Program} {k89 : Nat} (C : RcQ P k89) (t28 : P.underlying 28 = some (.slice 49)) {Zo : Nat → Prop} {W : World} {ea : Option Addr} {l : List Ef} (ec : Nat) (hR : RowsZ Zo W ea 4 (l.map encE)) (hn : l.length ≤ 1000) :
    ∃ (va : Option Addr) (vc : Nat) (w' : World), (Builtin.append_ #[28, 28] 28 #[.slice none 0 0, .slice ea l.length ec]).run P W = .ok (.slice va l.length vc) w' ∧ W.grownBy w' none ∧ RowsZ (fun b => W.heap.size ≤ b ∧ b < w'.heap.size) w' va 4 (l.map encE) ∧ w'.ownsRow W.heap.size 49 4 (.slice va l.length vc) l.length (flatE l) := by
  obtain ⟨i, z, i1, i2, i3, i4, i5⟩ := C.i49
  have hcell : ∀ ad, ea = some ad → ∀ j u, (flatE l)[j]? = some u → W.cell? (ad.add j) = some u := fun ad had j u hu => by
    rcases hR with h | ⟨B, O, e, _, _, hc⟩
    · have : l = [] := by simpa using h
      subst this
      simp [flatE] at hu
    · rw [e] at had
      injection had with had
      subst had
      have hj : j < (flatE l).length := (List.getElem?_eq_some_iff.1 hu).1
      rw [flatE_len] at hj
      have hd : j / 4 < l.length := by omega
      have hm := flatE_getR l (j / 4) hd (j % 4) (Nat.mod_lt _ (by decide))
      rw [show j / 4 * 4 + j % 4 = j by omega, hu] at hm
      rw [Addr.add_lit]
      have := hc (j / 4) (encE l[j / 4]) (by rw [List.getElem?_map, List.getElem?_eq_getElem hd]; rfl) (j % 4) u hm.symm
      rw [show O + j / 4 * 4 + j % 4 = O + j by omega] at this
      exact this
  obtain ⟨v', w', h1, h2, h3⟩ := run_app_any (P := P) (ty := 28) (t := 28) (tx := 28) t28 t28 i1 i2 (by rw [i4]; exact i3) (by rw [i4]; decide) (by rw [i4]; exact World.ownsRow_nil W W.heap.size 49 4) ea l.length ec (flatE l) (by rw [flatE_len, i4]) (fun h => by
    rcases hR with h0 | ⟨B, O, e, _, _, _⟩
    · have : l = [] := by simpa using h0
      rw [this]; rfl
    · rw [e] at h
      cases h) hcell (fun u hu => by
    unfold flatE at hu
    obtain ⟨x, _, hx⟩ := List.mem_flatMap.1 hu
    exact encE_one x u hx) (Nat.le_trans (show 0 + l.length ≤ 1000 by omega) (by decide)) (Nat.le_trans (Nat.mul_le_mul (show 0 + l.length ≤ 1000 by omega) i5) (by decide)) (Nat.le_refl _)
  rw [i4, Nat.zero_add, List.nil_append] at h2
  obtain ⟨a, c, rfl, hh⟩ := own_lit h2
  refine ⟨a, c, w', h1, h3, ?_, h2⟩
  rcases hh with rfl | ⟨g, rfl, g1, g2, hH⟩
  · exact .inl rfl
  · refine .inr ⟨g, 0, rfl, ⟨g1, g2⟩, g2, fun i x hx j v hv => ?_⟩
    rw [List.getElem?_map] at hx
    obtain ⟨y, hy, rfl⟩ := Option.map_eq_some_iff.1 hx
    have hi : i < l.length := (List.getElem?_eq_some_iff.1 hy).1
    have hj : j < 4 := (List.getElem?_eq_some_iff.1 hv).1
    have := h2.cells rfl (i * 4 + j) v (by rw [flatE_getR l i hi j hj, ← hv, (List.getElem?_eq_some_iff.1 hy).2])
    rw [Addr.add_lit, Nat.zero_add] at this
    rw [Nat.zero_add]
    exact this
theorem app_effs {P : Program} {k89 : Nat} (C : RcQ P k89) (t28 : P.underlying 28 = some (.slice 49)) {Zo : Nat → Prop} {W : World} {ea : Option Addr} {l : List Ef} (ec : Nat) (hR : RowsZ Zo W ea 4 (l.map encE)) (hn : l.length ≤ 1000) :
    ∃ (va : Option Addr) (vc : Nat) (w' : World), (Builtin.append_ #[28, 28] 28 #[.slice none 0 0, .slice ea l.length ec]).run P W = .ok (.slice va l.length vc) w' ∧ W.grownBy w' none ∧ RowsZ (fun b => W.heap.size ≤ b ∧ b < w'.heap.size) w' va 4 (l.map encE) := by
  obtain ⟨a, b, c, h1, h2, h3, _⟩ := app_effs2 C t28 ec hR hn
  exact ⟨a, b, c, h1, h2, h3⟩
/-- What is held when the object is its own. -/
structure Rpu (Z : Nat → Prop) (w : World) (rb bo : Nat) (R : Rc) (ob : List Value) (x : Hd) (W : World) : Prop where
  c : RcAt Z W rb R
  o : W.heap[bo]? = some (.cells ob.toArray 30)
  k : OutK (fun b => b = rb) w W
  r : ObR Z W ob x.card x.ctrl x.stamp x.effs
  n : bo ≠ rb
theorem Rpu.gr {Z : Nat → Prop} {w W W' : World} {rb bo : Nat} {R : Rc} {ob : List Value} {x : Hd} (h : Rpu Z w rb bo R ob x W) (g : Gr W W') : Rpu Z w rb bo R ob x W' := ⟨h.c.gr g, blk_gr h.o g, h.k.next (.gr g), h.r.keep (Kz.gr g), h.n⟩
theorem Rpu.setI {Z : Nat → Prop} {w W : World} {rb bo : Nat} {R : Rc} {ob : List Value} {x : Hd} (h : Rpu Z w rb bo R ob x W) {k : Nat} (hk : k < 256) (b : Bool) : Rpu Z w rb bo (R.setI k b) ob x (W.setCell ⟨rb, 1 + k, none⟩ (.bool b)) :=
  ⟨h.c.setI hk b, (set_other h.n _ _).trans h.o, h.k.next (.one (set_grown _ _ _ _)), h.r.keep (Kz.grown (set_grown _ _ _ _) fun b e => by cases e; exact h.c.r), h.n⟩
theorem Rpu.setD {Z : Nat → Prop} {w W : World} {rb bo : Nat} {R : Rc} {ob : List Value} {x : Hd} (h : Rpu Z w rb bo R ob x W) {k : Nat} (hk : k < 256) (b : Bool) : Rpu Z w rb bo (R.setD k b) ob x (W.setCell ⟨rb, 3841 + k, none⟩ (.bool b)) :=
  ⟨h.c.setD hk b, (set_other h.n _ _).trans h.o, h.k.next (.one (set_grown _ _ _ _)), h.r.keep (Kz.grown (set_grown _ _ _ _) fun b e => by cases e; exact h.c.r), h.n⟩
theorem Rpu.setO {Z : Nat → Prop} {w W : World} {rb bo : Nat} {R : Rc} {ob : List Value} {x : Hd} (h : Rpu Z w rb bo R ob x W) {k : Nat} (hk : k < 256) : Rpu Z w rb bo (R.setO k x) ob x (W.setCells rb (257 + k * 14) ob) :=
  ⟨h.c.setO hk h.r, (sets_other h.n _ _).trans h.o, h.k.next (.one (sets_grown _ _ _ _)), h.r.keep (Kz.grown (sets_grown _ _ _ _) fun b e => by cases e; exact h.c.r), h.n⟩
theorem rpu_start {Z Zo : Nat → Prop} {w W1 W2 W3 : World} {rb bo : Nat} {R : Rc} {ob : List Value} {x : Hd} (h : RcAt Z w rb R) (hO : ObR Zo w ob x.card x.ctrl x.stamp x.effs) (hbo : bo = w.heap.size) (g1 : Gr w W1) (hb : W1.heap[bo]? = some (.cells ob.toArray 30)) (g2 : Gr W1 W2) {va : Option Addr} {vc : Nat} (g3 : W2.grownBy W3 none) (hv : RowsZ (fun b => W2.heap.size ≤ b ∧ b < W3.heap.size) W3 va 4 (x.effs.map encE)) :
    Rpu (fun b => Z b ∨ (W2.heap.size ≤ b ∧ b < W3.heap.size)) w rb bo R (ob.set 13 (.slice va x.effs.length vc)) x (W3.setCell ⟨bo, 13, none⟩ (.slice va x.effs.length vc)) := by
  have hr := h.lt
  have e1 := Gr.le g1
  have e2 := Gr.le g2
  have e3 := g3.size
  have hb1 := blk_lt hb
  have b3 : Below w.heap.size w W3 := gr_below (gr_below (.refl _ _) (Nat.le_refl _) g1) e1 g2 |>.grown g3 (by omega) fun k hk => by cases hk
  have b4 : Below w.heap.size w (W3.setCell ⟨bo, 13, none⟩ (.slice va x.effs.length vc)) := b3.grown (set_grown bo 13 _ W3) b3.size fun k hk => by cases hk; omega
  have hb3 : W3.heap[bo]? = some (.cells ob.toArray 30) := (g3.block bo (by omega) (by simp)).trans (blk_gr hb g2)
  refine ⟨(h.below b4).mono (fun b hb _ => .inl hb) (fun hh => ?_) (fun b hb => ?_), blk_set hb3 13 _, ⟨b4.os, b4.tape, b4.output, b4.size, fun k hk _ => b4.block k hk⟩, ⟨by simpa using hO.len, fun v hv => ?_, ?_, ?_, ?_, ⟨va, vc, ?_, ?_⟩, hO.n⟩, by omega⟩
  · rcases hh with hh | ⟨hh, _⟩
    · exact h.r hh
    · omega
  · rcases hb with hb | ⟨_, hb⟩
    · exact Nat.lt_of_lt_of_le (h.zl b hb) b4.size
    · simpa using hb
  · rcases List.mem_or_eq_of_mem_set hv with hv | rfl
    · exact hO.one v hv
    · rfl
  · rw [List.getElem?_set_ne (by decide)]; exact hO.q1
  · rw [List.getElem?_set_ne (by decide)]; exact hO.q3
  · rw [List.getElem?_set_ne (by decide)]; exact hO.q9
  · rw [List.getElem?_set_self (by rw [hO.len]; decide)]
  · exact (hv.mono fun b hb _ => .inr hb).keep (Kz.grown (set_grown _ _ _ _) fun b e => by
      cases e
      rintro (hh | ⟨hh, _⟩)
      · have := h.zl _ hh
        omega
      · omega)
def RPutOK (Z : Nat → Prop) (w : World) (rb : Nat) (R' : Rc) (e : Ending) (w' : World) : Prop := e = .returned (.tuple #[]) ∧ ∃ Z' : Nat → Prop, RcAt Z' w' rb R' ∧ OutK (fun b => b = rb) w w' ∧ ∀ b, Z' b → Z b ∨ w.heap.size ≤ b
set_option maxHeartbeats 8000000 in
set_option maxRecDepth 100000 in
theorem rput_in {P : Program} {k30 k82 k89 k92 k59 : Nat} {y30 y82 y89 y92 y59 : List Value} (L : LayQ P k30 k82 k89 k92 y30 y82 y89 y92) (V : LayV P k59 y59) (C : RcQ P k89) (h30 : k30 = 14) {Z Zo : Nat → Prop} {w : World} {rb : Nat} {R : Rc} (h : RcAt Z w rb R) {k : Nat} (hk : k < 256) {ob : List Value} {x : Hd} (hO : ObR Zo w ob x.card x.ctrl x.stamp x.effs) : Calls P 16 #[.pointer (some ⟨rb, 0, none⟩), .int .i64 k, .agg ob.toArray] w (RPutOK Z w rb (R.put k x)) := by
  have mixed := L.mixed; have t3 := L.t3; have qt3 := run_underlying L.t3; have a3 := L.a3; have z3 := L.z3; have v3 := L.v3; have t4 := L.t4; have qt4 := run_underlying L.t4; have a4 := L.a4; have z4 := L.z4; have v4 := L.v4; have t26 := L.t26; have qt26 := run_underlying L.t26; have a26 := L.a26; have z26 := L.z26; have v26 := L.v26; have t28 := L.t28; have qt28 := run_underlying L.t28; have a28 := L.a28; have z28 := L.z28; have v28 := L.v28; have t80 := L.t80; have qt80 := run_underlying L.t80; have a80 := L.a80; have z80 := L.z80; have v80 := L.v80; have t30 := L.t30; have qt30 := run_underlying L.t30; have a30 := L.a30; have z30 := L.z30; have v30 := L.v30; have t82 := L.t82; have qt82 := run_underlying L.t82; have a82 := L.a82; have z82 := L.z82; have v82 := L.v82; have e38 := V.e38; have e39 := V.e39; have e40 := V.e40; have e41 := V.e41; have e42 := V.e42; have e43 := V.e43; have e44 := V.e44; have t43 := V.t43; have qt43 := run_underlying V.t43; have a43 := V.a43; have z43 := V.z43; have v43 := V.v43; have t59 := V.t59; have qt59 := run_underlying V.t59; have a59 := V.a59; have z59 := V.z59; have v59 := V.v59; have t56 := V.t56; have qt56 := run_underlying V.t56; have a56 := V.a56; have z56 := V.z56; have t57 := V.t57; have qt57 := run_underlying V.t57; have a57 := V.a57; have z57 := V.z57; have z9 := V.z9; have z79 := V.z79
  have hkz : (k : Int) < 256 := by omega
  have dk1 : decide (0 ≤ (k : Int)) = true := decide_eq_true (by omega)
  have dk2 : decide ((k : Int) < 256) = true := decide_eq_true (by omega)
  have g1 : Gr w (w.alloc (.cells ob.toArray 30)) := (Gr.refl w).alloc _
  have bw := blk_new w (.cells ob.toArray 30)
  have ol : ob.length = k30 := hO.len.trans h30.symm
  have H30 : Aside (k30 = 14) := h30
  have hp := C.pl k
  rw [dk1, dk2] at hp
  have hs := C.st (h.gr g1) hk
  obtain ⟨ea, ec, o13, oz⟩ := hO.ef
  have HC : Aside (RcQ P k89) := C
  have HR : Aside (RcAt Z w rb R) := h
  have HO : Aside (ObR Zo w ob x.card x.ctrl x.stamp x.effs) := hO
  have HZ : Aside (RowsZ Zo w ea 4 (x.effs.map encE)) := oz
  have HB : Aside ((w.alloc (.cells ob.toArray 30)).heap[w.heap.size]? = some (.cells ob.toArray 30)) := bw
  have T28 : Aside (P.underlying 28 = some (.slice 49)) := L.t28
  clear h hO oz bw C h30 g1 dk1 dk2
  go_enter V.f16, Try.ntmps16
  go_upto_region 4 with (first | (go_at_fn 38; refine (hp _).mono ?_; rintro e w1 ⟨rfl, hw⟩; obtain rfl := hw.symm) | (go_at_fn 39; refine hs.mono ?_; rintro e w1 ⟨rfl, hG⟩; have HG : Aside (Gr (w.alloc (.cells ob.toArray 30)) w1) := hG; clear hG))
  have c13 : w1.cell? ⟨w.heap.size, 13, none⟩ = some (.slice ea x.effs.length ec) := hold_cell (blk_hold (blk_gr HB.out HG.out)) (j := 13) o13
  obtain ⟨va, vc, w3, hr, g3, rz⟩ := app_effs HC.out T28.out ec (HZ.out.keep (Kz.gr (Gr.trans ((Gr.refl w).alloc _) HG.out))) HO.out.n
  have hb3 : w3.heap[w.heap.size]? = some (.cells ob.toArray 30) := (g3.block _ (blk_lt (blk_gr HB.out HG.out)) (by simp)).trans (blk_gr HB.out HG.out)
  obtain ⟨d13, f13⟩ := blk_hold hb3 13 (by simpa using (show 13 < ob.length by rw [HO.out.len]; decide))
  have S4 : Aside (Rpu (fun b => Z b ∨ (w1.heap.size ≤ b ∧ b < w3.heap.size)) w rb w.heap.size R (ob.set 13 (.slice va x.effs.length vc)) x (w3.setCell ⟨w.heap.size, 13, none⟩ (.slice va x.effs.length vc))) := rpu_start HR.out HO.out rfl ((Gr.refl w).alloc _) HB.out HG.out g3 rz
  have ZN : Aside (∀ b, (fun b => Z b ∨ (w1.heap.size ≤ b ∧ b < w3.heap.size)) b → Z b ∨ w.heap.size ≤ b) := fun b hb => hb.imp id fun h => by have := Gr.le (Gr.trans ((Gr.refl w).alloc (.cells ob.toArray 30)) HG.out); omega
  generalize (fun b => Z b ∨ (w1.heap.size ≤ b ∧ b < w3.heap.size)) = ZZ at S4 ZN
  clear rz g3 HG HB HZ HR hs hb3
  rw [Nat.zero_add] at d13 f13
  go_upto_region 5 with (at_builtin; refine wpList_app_run rfl _ _ #[28, 28] rfl (.slice none 0 0) (.slice ea x.effs.length ec) rfl rfl _ w3 hr ?_)
  clear d13 f13 c13 hr
  generalize (w3.setCell ⟨w.heap.size, 13, none⟩ (.slice va x.effs.length vc)) = W4 at S4 ⊢
  generalize w.heap.size = bo at S4 ⊢
  have ol2 : (ob.set 13 (.slice va x.effs.length vc)).length = k30 := by simpa using ol
  have oo2 : Aside (∀ v ∈ ob.set 13 (.slice va x.effs.length vc), v.oneCell' = true) := S4.out.r.one
  generalize ob.set 13 (.slice va x.effs.length vc) = obn at S4 ol2 oo2
  obtain ⟨i1, i2⟩ := S4.out.c.ci hk
  have S5 : Aside (Rpu ZZ w rb bo (R.setI k true) obn x (W4.setCell ⟨rb, 1 + k, none⟩ (.bool true))) := S4.out.setI hk true
  clear S4
  go_upto_region 6 with fail
  clear i1 i2
  generalize (W4.setCell ⟨rb, 1 + k, none⟩ (.bool true)) = W5 at S5 ⊢
  have lO : Sem.run P (loadCellsFrom ⟨bo, 0, none⟩ 0 k30 #[]) W5.drew = .ok obn.toArray W5.drew := hold_ld P (blk_hold (S5.out.gr ((Gr.refl _).drew)).o) ol2
  obtain ⟨rl, rl1, rl2⟩ := (S5.out.gr ((Gr.refl _).drew)).c.cells
  have sO : Sem.run P (storeCells ⟨rb, 257 + k * k30, none⟩ obn 0) W5.drew = .ok () (W5.drew.setCells rb (257 + k * k30) obn) := by
    have := stores_of_holds P (blk_hold rl2) (257 + k * k30) obn (by rw [ol2, H30.out]; simp [rl1]; omega) oo2.out
    simpa using this
  have S6 : Aside (Rpu ZZ w rb bo ((R.setI k true).setO k x) obn x (W5.drew.setCells rb (257 + k * k30) obn)) := by
    rw [H30.out]
    exact (S5.out.gr ((Gr.refl _).drew)).setO hk
  clear S5 rl1 rl2
  go_still_tail 6, mixed
  go_upto_region 7 with fail
  clear lO sO
  generalize (W5.drew.setCells rb (257 + k * k30) obn) = W6 at S6 ⊢
  obtain ⟨d1, d2⟩ := S6.out.c.cd hk
  have S7 : Aside (Rpu ZZ w rb bo (((R.setI k true).setO k x).setD k true) obn x (W6.setCell ⟨rb, 3841 + k, none⟩ (.bool true))) := S6.out.setD hk true
  clear S6
  go_upto_region 8 with fail
  clear d1 d2
  generalize (W6.setCell ⟨rb, 3841 + k, none⟩ (.bool true)) = W7 at S7 ⊢
  have hs2 := HC.out.st S7.out.c hk
  rw [put_stat] at hs2
  cases had : stat (R.cd k) with
  | true =>
    have ha := HC.out.al S7.out.c
    go_wp2_with (first | (go_at_fn 40; refine ha.mono ?_; rintro e w8 ⟨rfl, hA⟩))
    go_end0
    refine ⟨rfl, ZZ, ?_, S7.out.k.next hA.o, ZN.out⟩
    unfold Rc.put
    rw [had, Bool.true_or, if_pos rfl]
    exact hA.h
  | false =>
    cases hnow : stat (cdOf R.cards x.card) with
    | false =>
      rw [hnow] at hs2
      go_wp2_with (first | (go_at_fn 39; refine hs2.mono ?_; rintro e w8 ⟨rfl, hG⟩))
      go_end0
      have S8 := S7.out.gr hG
      refine ⟨rfl, ZZ, ?_, S8.k, ZN.out⟩
      unfold Rc.put
      rw [had, hnow, Bool.false_or, if_neg (by decide)]
      exact S8.c
    | true =>
      rw [hnow] at hs2
      go_upto_region 9 with (first | (go_at_fn 39; refine hs2.mono ?_; rintro e w8 ⟨rfl, hG⟩; have HG : Aside (Gr W7 w8) := hG; clear hG))
      have S8 : Aside (Rpu ZZ w rb bo (((R.setI k true).setO k x).setD k true) obn x w8) := S7.out.gr HG.out
      have ha := HC.out.al S8.out.c
      go_wp2_with (first | (go_at_fn 40; refine ha.mono ?_; rintro e w9 ⟨rfl, hA⟩))
      go_end0
      refine ⟨rfl, ZZ, ?_, S8.out.k.next hA.o, ZN.out⟩
      unfold Rc.put
      rw [had, hnow, Bool.false_or, if_pos rfl]
      exact hA.h
set_option maxHeartbeats 4000000 in
set_option maxRecDepth 100000 in
theorem rput_out {P : Program} {k30 k82 k89 k92 k59 : Nat} {y30 y82 y89 y92 y59 : List Value} (L : LayQ P k30 k82 k89 k92 y30 y82 y89 y92) (V : LayV P k59 y59) (C : RcQ P k89) {w : World} {rb : Nat} {k : Int} (hk : ¬ (0 ≤ k ∧ k < 256)) (ob : List Value) : Calls P 16 #[.pointer (some ⟨rb, 0, none⟩), .int .i64 k, .agg ob.toArray] w fun e w' => e = .returned (.tuple #[]) ∧ Gr w w' := by
  have mixed := L.mixed; have t3 := L.t3; have qt3 := run_underlying L.t3; have a3 := L.a3; have z3 := L.z3; have v3 := L.v3; have t4 := L.t4; have qt4 := run_underlying L.t4; have a4 := L.a4; have z4 := L.z4; have v4 := L.v4; have t26 := L.t26; have qt26 := run_underlying L.t26; have a26 := L.a26; have z26 := L.z26; have v26 := L.v26; have t28 := L.t28; have qt28 := run_underlying L.t28; have a28 := L.a28; have z28 := L.z28; have v28 := L.v28; have t80 := L.t80; have qt80 := run_underlying L.t80; have a80 := L.a80; have z80 := L.z80; have v80 := L.v80; have t30 := L.t30; have qt30 := run_underlying L.t30; have a30 := L.a30; have z30 := L.z30; have v30 := L.v30; have t82 := L.t82; have qt82 := run_underlying L.t82; have a82 := L.a82; have z82 := L.z82; have v82 := L.v82; have e38 := V.e38; have e39 := V.e39; have e40 := V.e40; have e41 := V.e41; have e42 := V.e42; have e43 := V.e43; have e44 := V.e44; have t43 := V.t43; have qt43 := run_underlying V.t43; have a43 := V.a43; have z43 := V.z43; have v43 := V.v43; have t59 := V.t59; have qt59 := run_underlying V.t59; have a59 := V.a59; have z59 := V.z59; have v59 := V.v59; have t56 := V.t56; have qt56 := run_underlying V.t56; have a56 := V.a56; have z56 := V.z56; have t57 := V.t57; have qt57 := run_underlying V.t57; have a57 := V.a57; have z57 := V.z57; have z9 := V.z9; have z79 := V.z79
  have hp := C.pl k
  rw [show (decide (0 ≤ k) && decide (k < 256)) = false by rw [← Bool.decide_and]; exact decide_eq_false hk] at hp
  have G1 : Aside (Gr w (w.alloc (.cells ob.toArray 30))) := (Gr.refl w).alloc _
  go_enter V.f16, Try.ntmps16
  go_wp2_with (first | (go_at_fn 38; refine (hp _).mono ?_; rintro e w1 ⟨rfl, hw⟩; obtain rfl := hw.symm))
  go_returns
  exact ⟨rfl, G1.out⟩
set_option maxHeartbeats 4000000 in
set_option maxRecDepth 100000 in
theorem rtake_out {P : Program} {k30 k82 k89 k92 k59 : Nat} {y30 y82 y89 y92 y59 : List Value} (L : LayQ P k30 k82 k89 k92 y30 y82 y89 y92) (V : LayV P k59 y59) (C : RcQ P k89) {w : World} {rb : Nat} {k : Int} (hk : ¬ (0 ≤ k ∧ k < 256)) : Calls P 18 #[.pointer (some ⟨rb, 0, none⟩), .int .i64 k] w fun e w' => e = .returned (.tuple #[]) ∧ Gr w w' := by
  have mixed := L.mixed; have t3 := L.t3; have qt3 := run_underlying L.t3; have a3 := L.a3; have z3 := L.z3; have v3 := L.v3; have t4 := L.t4; have qt4 := run_underlying L.t4; have a4 := L.a4; have z4 := L.z4; have v4 := L.v4; have t26 := L.t26; have qt26 := run_underlying L.t26; have a26 := L.a26; have z26 := L.z26; have v26 := L.v26; have t28 := L.t28; have qt28 := run_underlying L.t28; have a28 := L.a28; have z28 := L.z28; have v28 := L.v28; have t80 := L.t80; have qt80 := run_underlying L.t80; have a80 := L.a80; have z80 := L.z80; have v80 := L.v80; have t30 := L.t30; have qt30 := run_underlying L.t30; have a30 := L.a30; have z30 := L.z30; have v30 := L.v30; have t82 := L.t82; have qt82 := run_underlying L.t82; have a82 := L.a82; have z82 := L.z82; have v82 := L.v82; have e38 := V.e38; have e39 := V.e39; have e40 := V.e40; have e41 := V.e41; have e42 := V.e42; have e43 := V.e43; have e44 := V.e44; have t43 := V.t43; have qt43 := run_underlying V.t43; have a43 := V.a43; have z43 := V.z43; have v43 := V.v43; have t59 := V.t59; have qt59 := run_underlying V.t59; have a59 := V.a59; have z59 := V.z59; have v59 := V.v59; have t56 := V.t56; have qt56 := run_underlying V.t56; have a56 := V.a56; have z56 := V.z56; have t57 := V.t57; have qt57 := run_underlying V.t57; have a57 := V.a57; have z57 := V.z57; have z9 := V.z9; have z79 := V.z79
  have hp := C.pl k
  rw [show (decide (0 ≤ k) && decide (k < 256)) = false by rw [← Bool.decide_and]; exact decide_eq_false hk] at hp
  have G1 : Aside (Gr w w) := Gr.refl w
  go_enter V.f18, Try.ntmps18
  go_wp2_with (first | (go_at_fn 38; refine (hp _).mono ?_; rintro e w1 ⟨rfl, hw⟩; obtain rfl := hw.symm))
  go_returns
  exact ⟨rfl, G1.out⟩
set_option maxHeartbeats 4000000 in
set_option maxRecDepth 100000 in
theorem rtake_in {P : Program} {k30 k82 k89 k92 k59 : Nat} {y30 y82 y89 y92 y59 : List Value} (L : LayQ P k30 k82 k89 k92 y30 y82 y89 y92) (V : LayV P k59 y59) (C : RcQ P k89) {Z : Nat → Prop} {w : World} {rb : Nat} {R : Rc} (h : RcAt Z w rb R) {k : Nat} (hk : k < 256) : Calls P 18 #[.pointer (some ⟨rb, 0, none⟩), .int .i64 k] w fun e w' => e = .returned (.tuple #[]) ∧ Ral Z w rb (R.take k) w' := by
  have mixed := L.mixed; have t3 := L.t3; have qt3 := run_underlying L.t3; have a3 := L.a3; have z3 := L.z3; have v3 := L.v3; have t4 := L.t4; have qt4 := run_underlying L.t4; have a4 := L.a4; have z4 := L.z4; have v4 := L.v4; have t26 := L.t26; have qt26 := run_underlying L.t26; have a26 := L.a26; have z26 := L.z26; have v26 := L.v26; have t28 := L.t28; have qt28 := run_underlying L.t28; have a28 := L.a28; have z28 := L.z28; have v28 := L.v28; have t80 := L.t80; have qt80 := run_underlying L.t80; have a80 := L.a80; have z80 := L.z80; have v80 := L.v80; have t30 := L.t30; have qt30 := run_underlying L.t30; have a30 := L.a30; have z30 := L.z30; have v30 := L.v30; have t82 := L.t82; have qt82 := run_underlying L.t82; have a82 := L.a82; have z82 := L.z82; have v82 := L.v82; have e38 := V.e38; have e39 := V.e39; have e40 := V.e40; have e41 := V.e41; have e42 := V.e42; have e43 := V.e43; have e44 := V.e44; have t43 := V.t43; have qt43 := run_underlying V.t43; have a43 := V.a43; have z43 := V.z43; have v43 := V.v43; have t59 := V.t59; have qt59 := run_underlying V.t59; have a59 := V.a59; have z59 := V.z59; have v59 := V.v59; have t56 := V.t56; have qt56 := run_underlying V.t56; have a56 := V.a56; have z56 := V.z56; have t57 := V.t57; have qt57 := run_underlying V.t57; have a57 := V.a57; have z57 := V.z57; have z9 := V.z9; have z79 := V.z79
  have hkz : (k : Int) < 256 := by omega
  have hp := C.pl k
  rw [decide_eq_true (show (0 : Int) ≤ k by omega), decide_eq_true hkz] at hp
  obtain ⟨i1, i2⟩ := h.ci hk
  have HH : Aside (RcAt Z w rb R) := h
  have HC : Aside (RcQ P k89) := C
  have hs := C.st h hk
  clear h C
  cases hi : R.is k with
  | false =>
    rw [hi] at i1
    clear hs
    go_enter V.f18, Try.ntmps18
    go_wp2_with (first | (go_at_fn 38; refine (hp _).mono ?_; rintro e w1 ⟨rfl, hw⟩; obtain rfl := hw.symm))
    go_returns
    refine ⟨rfl, ?_⟩
    unfold Rc.take
    rw [hi, if_neg (by decide)]
    exact ⟨HH.out, .refl _ _⟩
  | true =>
    rw [hi] at i1
    cases had : stat (R.cd k) with
    | false =>
      rw [had] at hs
      go_enter V.f18, Try.ntmps18
      go_upto_region 2 with (first | (go_at_fn 38; refine (hp _).mono ?_; rintro e w1 ⟨rfl, hw⟩; obtain rfl := hw.symm) | (go_at_fn 39; refine hs.mono ?_; rintro e w1 ⟨rfl, hG⟩; have HG : Aside (Gr w w1) := hG; clear hG))
      clear i1 i2
      obtain ⟨i1, i2⟩ := (HH.out.gr HG.out).ci hk
      have S2 : Aside (Ral Z w rb (R.setI k false) (w1.setCell ⟨rb, 1 + k, none⟩ (.bool false))) := (show Ral Z w rb (R.setI k false) (w1.setCell ⟨rb, 1 + k, none⟩ (.bool false)) from ⟨(HH.out.gr HG.out).setI hk false, (OutK.gr HG.out).next (.one (set_grown _ _ _ _))⟩)
      go_upto_region 3 with fail
      clear i1 i2
      generalize (w1.setCell ⟨rb, 1 + k, none⟩ (.bool false)) = W2 at S2 ⊢
      obtain ⟨d1, d2⟩ := S2.out.h.cd hk
      have S3 : Aside (Ral Z w rb ((R.setI k false).setD k false) (W2.setCell ⟨rb, 3841 + k, none⟩ (.bool false))) := (show Ral Z w rb ((R.setI k false).setD k false) (W2.setCell ⟨rb, 3841 + k, none⟩ (.bool false)) from ⟨S2.out.h.setD hk false, S2.out.o.next (.one (set_grown _ _ _ _))⟩)
      go_wp2
      go_end0
      refine ⟨rfl, ?_⟩
      unfold Rc.take
      rw [hi, if_pos rfl, had, if_neg (by decide)]
      exact S3.out
    | true =>
      rw [had] at hs
      go_enter V.f18, Try.ntmps18
      go_upto_region 2 with (first | (go_at_fn 38; refine (hp _).mono ?_; rintro e w1 ⟨rfl, hw⟩; obtain rfl := hw.symm) | (go_at_fn 39; refine hs.mono ?_; rintro e w1 ⟨rfl, hG⟩; have HG : Aside (Gr w w1) := hG; clear hG))
      clear i1 i2
      obtain ⟨i1, i2⟩ := (HH.out.gr HG.out).ci hk
      have S2 : Aside (Ral Z w rb (R.setI k false) (w1.setCell ⟨rb, 1 + k, none⟩ (.bool false))) := (show Ral Z w rb (R.setI k false) (w1.setCell ⟨rb, 1 + k, none⟩ (.bool false)) from ⟨(HH.out.gr HG.out).setI hk false, (OutK.gr HG.out).next (.one (set_grown _ _ _ _))⟩)
      go_upto_region 3 with fail
      clear i1 i2
      generalize (w1.setCell ⟨rb, 1 + k, none⟩ (.bool false)) = W2 at S2 ⊢
      obtain ⟨d1, d2⟩ := S2.out.h.cd hk
      have S3 : Aside (Ral Z w rb ((R.setI k false).setD k false) (W2.setCell ⟨rb, 3841 + k, none⟩ (.bool false))) := (show Ral Z w rb ((R.setI k false).setD k false) (W2.setCell ⟨rb, 3841 + k, none⟩ (.bool false)) from ⟨S2.out.h.setD hk false, S2.out.o.next (.one (set_grown _ _ _ _))⟩)
      have ha := HC.out.al S3.out.h
      go_wp2_with (first | (go_at_fn 40; refine ha.mono ?_; rintro e w9 ⟨rfl, hA⟩))
      go_end0
      refine ⟨rfl, ?_⟩
      unfold Rc.take
      rw [hi, if_pos rfl, had, if_pos rfl]
      exact ⟨hA.h, S3.out.o.next hA.o⟩
end Go.Proofs.Yticgadnmlbfmfaa.cachePlays
/-
  Chapter 25: the law's short and pool, walked.
-/
namespace Go.Proofs.Yticgadnmlbfmfaa.cachePlays
open Go.Shelf Go.RowKit Go.Lib Go.Sort Go.Maps
/-- An object that came in: its effects are as many as they are. -/
structure ObI (Z : Nat → Prop) (w : World) (ob : List Value) (x : Hd) : Prop where
  len : ob.length = 14
  one : ∀ v ∈ ob, v.oneCell' = true
  q1 : ob[1]? = some (.int .i64 x.card)
  q3 : ob[3]? = some (.int .i64 x.ctrl)
  q9 : ob[9]? = some (.int .i64 x.stamp)
  ef : ∃ (ea : Option Addr) (ec : Nat), ob[13]? = some (.slice ea x.effs.length ec) ∧ x.effs.length ≤ ec ∧ RowsZ Z w ea 4 (x.effs.map encE)
def sh (x : Hd) : Hd := { x with effs := x.effs.take 12 }
theorem rowsZ_take {Z : Nat → Prop} {w : World} {a : Option Addr} {k : Nat} {l : List (List Value)} (h : RowsZ Z w a k l) (n : Nat) : RowsZ Z w a k (l.take n) := by
  rcases h with h | ⟨B, O, e, hz, hb, hc⟩
  · exact .inl (by rw [h]; simp)
  · refine .inr ⟨B, O, e, hz, hb, fun i x hx => hc i x ?_⟩
    rw [List.getElem?_take] at hx
    split at hx
    · exact hx
    · cases hx
/-- A block of effects that may be written. -/
def EfB (W : World) (g n : Nat) : Prop := ∃ F : Array Value, W.heap[g]? = some (.cells F 49) ∧ n * 4 ≤ F.size
/-- What short tells. -/
structure ShO (w : World) (x : Hd) (ob : List Value) (w' : World) : Prop where
  o : ObR (fun b => w.heap.size ≤ b ∧ b < w'.heap.size) w' ob x.card x.ctrl x.stamp (x.effs.take 12)
  b : Below w.heap.size w w'
  e : ∃ va vc, ob[13]? = some (.slice va (x.effs.take 12).length vc) ∧ (x.effs.take 12 = [] ∨ ∃ g, va = some ⟨g, 0, none⟩ ∧ w.heap.size ≤ g ∧ EfB w' g (x.effs.take 12).length)
def ShOK (w : World) (x : Hd) (e : Ending) (w' : World) : Prop := ∃ (ob : List Value), e = .returned (.agg ob.toArray) ∧ ShO w x ob w'
theorem own_efB {W : World} {base c : Nat} {va : Option Addr} {l : List Ef} (h : W.ownsRow base 49 4 (.slice va l.length c) l.length (flatE l)) : l = [] ∨ ∃ g, va = some ⟨g, 0, none⟩ ∧ base ≤ g ∧ EfB W g l.length := by
  rcases h.2 with ⟨h1, hz⟩ | ⟨g, cap, cur, h1, hb, hg, hn, hm, hs, _⟩
  · exact .inl (List.eq_nil_of_length_eq_zero hz)
  · injection h1 with h1 _ h2
    exact .inr ⟨g, h1, hb, cur, hg, by rw [hs]; exact Nat.mul_le_mul_right 4 hn⟩
theorem sho_end {Z : Nat → Prop} {w W3 : World} {ob : List Value} {x : Hd} {y : List Value} (hO : ObI Z w ob x) {va : Option Addr} {vc : Nat} (hg : ((w.alloc (.cells ob.toArray 30)).alloc (.cells y.toArray 30)).grownBy W3 none) (hr : RowsZ (fun b => ((w.alloc (.cells ob.toArray 30)).alloc (.cells y.toArray 30)).heap.size ≤ b ∧ b < W3.heap.size) W3 va 4 ((x.effs.take 12).map encE)) (ho : W3.ownsRow ((w.alloc (.cells ob.toArray 30)).alloc (.cells y.toArray 30)).heap.size 49 4 (.slice va (x.effs.take 12).length vc) (x.effs.take 12).length (flatE (x.effs.take 12))) :
    ShO w x (ob.set 13 (.slice va (x.effs.take 12).length vc)) ((W3.setCell ⟨w.heap.size, 13, none⟩ (.slice va (x.effs.take 12).length vc)).setCells (w.heap.size + 1) 0 (ob.set 13 (.slice va (x.effs.take 12).length vc))) := by
  have g1 : Gr w ((w.alloc (.cells ob.toArray 30)).alloc (.cells y.toArray 30)) := ((Gr.refl w).alloc _).alloc _
  have e1 : ((w.alloc (.cells ob.toArray 30)).alloc (.cells y.toArray 30)).heap.size = w.heap.size + 2 := by simp
  have e3 := hg.size
  rw [e1] at hr ho e3
  have b3 : Below w.heap.size w W3 := (gr_below (.refl _ _) (Nat.le_refl _) g1).grown hg (by omega) fun k hk => by cases hk
  have b4 : Below w.heap.size w (W3.setCell ⟨w.heap.size, 13, none⟩ (.slice va (x.effs.take 12).length vc)) := b3.grown (set_grown _ _ _ W3) b3.size fun k hk => by cases hk; omega
  have b5 : Below w.heap.size w ((W3.setCell ⟨w.heap.size, 13, none⟩ (.slice va (x.effs.take 12).length vc)).setCells (w.heap.size + 1) 0 (ob.set 13 (.slice va (x.effs.take 12).length vc))) := below_sets (by omega) _ _ b4
  have k1 : ∀ g, w.heap.size + 2 ≤ g → ((W3.setCell ⟨w.heap.size, 13, none⟩ (.slice va (x.effs.take 12).length vc)).setCells (w.heap.size + 1) 0 (ob.set 13 (.slice va (x.effs.take 12).length vc))).heap[g]? = W3.heap[g]? := fun g hg => by
    rw [sets_other (by omega), set_other (by omega)]
  have sz : ((W3.setCell ⟨w.heap.size, 13, none⟩ (.slice va (x.effs.take 12).length vc)).setCells (w.heap.size + 1) 0 (ob.set 13 (.slice va (x.effs.take 12).length vc))).heap.size = W3.heap.size := by simp
  refine ⟨⟨by simpa using hO.len, fun v hv => ?_, ?_, ?_, ?_, ⟨va, vc, ?_, ?_⟩, by rw [List.length_take]; omega⟩, b5, ⟨va, vc, by rw [List.getElem?_set_self (by rw [hO.len]; decide)], ?_⟩⟩
  · rcases List.mem_or_eq_of_mem_set hv with hv | rfl
    · exact hO.one v hv
    · rfl
  · rw [List.getElem?_set_ne (by decide)]; exact hO.q1
  · rw [List.getElem?_set_ne (by decide)]; exact hO.q3
  · rw [List.getElem?_set_ne (by decide)]; exact hO.q9
  · rw [List.getElem?_set_self (by rw [hO.len]; decide)]
  · refine (hr.keep (w' := (W3.setCell ⟨w.heap.size, 13, none⟩ (.slice va (x.effs.take 12).length vc)).setCells (w.heap.size + 1) 0 (ob.set 13 (.slice va (x.effs.take 12).length vc))) ⟨by rw [sz]; exact Nat.le_refl _, fun b hb _ => k1 b hb.1⟩).mono fun b hb _ => ⟨by have := hb.1; omega, by rw [sz]; exact hb.2⟩
  · rcases own_efB ho with h | ⟨g, h1, h2, F, h3, h4⟩
    · exact .inl h
    · exact .inr ⟨g, h1, by omega, F, (k1 g h2).trans h3, h4⟩
set_option maxHeartbeats 8000000 in
set_option maxRecDepth 100000 in
theorem short_calls {P : Program} {k30 k82 k89 k92 k59 : Nat} {y30 y82 y89 y92 y59 : List Value} (L : LayQ P k30 k82 k89 k92 y30 y82 y89 y92) (V : LayV P k59 y59) (C : RcQ P k89) (h30 : k30 = 14) (f15 : P.funcs[15]? = some Try.f15) (hy : y30.length = k30) {Z : Nat → Prop} {w : World} {ob : List Value} {x : Hd} (hO : ObI Z w ob x) : Calls P 15 #[.agg ob.toArray] w (ShOK w x) := by
  have mixed := L.mixed; have t3 := L.t3; have qt3 := run_underlying L.t3; have a3 := L.a3; have z3 := L.z3; have v3 := L.v3; have t4 := L.t4; have qt4 := run_underlying L.t4; have a4 := L.a4; have z4 := L.z4; have v4 := L.v4; have t26 := L.t26; have qt26 := run_underlying L.t26; have a26 := L.a26; have z26 := L.z26; have v26 := L.v26; have t28 := L.t28; have qt28 := run_underlying L.t28; have a28 := L.a28; have z28 := L.z28; have v28 := L.v28; have t80 := L.t80; have qt80 := run_underlying L.t80; have a80 := L.a80; have z80 := L.z80; have v80 := L.v80; have t30 := L.t30; have qt30 := run_underlying L.t30; have a30 := L.a30; have z30 := L.z30; have v30 := L.v30; have t82 := L.t82; have qt82 := run_underlying L.t82; have a82 := L.a82; have z82 := L.z82; have v82 := L.v82; have e38 := V.e38; have e39 := V.e39; have e40 := V.e40; have e41 := V.e41; have e42 := V.e42; have e43 := V.e43; have e44 := V.e44; have t43 := V.t43; have qt43 := run_underlying V.t43; have a43 := V.a43; have z43 := V.z43; have v43 := V.v43; have t59 := V.t59; have qt59 := run_underlying V.t59; have a59 := V.a59; have z59 := V.z59; have v59 := V.v59; have t56 := V.t56; have qt56 := run_underlying V.t56; have a56 := V.a56; have z56 := V.z56; have t57 := V.t57; have qt57 := run_underlying V.t57; have a57 := V.a57; have z57 := V.z57; have z9 := V.z9; have z79 := V.z79
  have z49 := L.z49; have a49 := L.a49; have qu49 := run_underlying L.t49
  obtain ⟨ea, ec, o13, hle, oz⟩ := hO.ef
  have bw := blk_old (blk_new w (.cells ob.toArray 30)) (.cells y30.toArray 30)
  have bz := blk_new (w.alloc (.cells ob.toArray 30)) (.cells y30.toArray 30)
  rw [World.size_alloc] at bz
  have g1 : Gr w ((w.alloc (.cells ob.toArray 30)).alloc (.cells y30.toArray 30)) := ((Gr.refl w).alloc _).alloc _
  have ol : ob.length = k30 := hO.len.trans h30.symm
  have c13 : ((w.alloc (.cells ob.toArray 30)).alloc (.cells y30.toArray 30)).cell? ⟨w.heap.size, 13, none⟩ = some (.slice ea x.effs.length ec) := hold_cell (blk_hold bw) (j := 13) o13
  obtain ⟨va, vc, w3, hr, hg, rz, ho⟩ := app_effs2 C L.t28 (l := x.effs.take 12) ec (by rw [List.map_take]; exact rowsZ_take (oz.keep (Kz.gr g1)) 12) (by rw [List.length_take]; omega)
  have S := sho_end hO hg rz ho
  have hm : (x.effs.take 12).length = (min (x.effs.length : Int) 12).toNat := by rw [List.length_take]; omega
  have SS : Aside (ShO w x (ob.set 13 (.slice va (min (x.effs.length : Int) 12).toNat vc)) ((w3.setCell ⟨w.heap.size, 13, none⟩ (.slice va (min (x.effs.length : Int) 12).toNat vc)).setCells (w.heap.size + 1) 0 (ob.set 13 (.slice va (min (x.effs.length : Int) 12).toNat vc)))) := by rw [← hm]; exact S
  rw [hm] at hr
  have hb3 : w3.heap[w.heap.size]? = some (.cells ob.toArray 30) := (hg.block _ (blk_lt bw) (by simp)).trans bw
  have hz3 : w3.heap[w.heap.size + 1]? = some (.cells y30.toArray 30) := (hg.block _ (blk_lt bz) (by simp)).trans bz
  obtain ⟨d13, f13⟩ := blk_hold hb3 13 (by simpa using (show 13 < ob.length by rw [hO.len]; decide))
  rw [Nat.zero_add] at d13 f13
  have ol2 : (ob.set 13 (.slice va (min (x.effs.length : Int) 12).toNat vc)).length = k30 := by simpa using ol
  have oo2 : ∀ v ∈ ob.set 13 (.slice va (min (x.effs.length : Int) 12).toNat vc), v.oneCell' = true := SS.out.o.one
  have hb4 := blk_set hb3 13 (.slice va (min (x.effs.length : Int) 12).toNat vc)
  have hz4 : (w3.setCell ⟨w.heap.size, 13, none⟩ (.slice va (min (x.effs.length : Int) 12).toNat vc)).heap[w.heap.size + 1]? = some (.cells y30.toArray 30) := (set_other (by omega) _ _).trans hz3
  have lO := hold_ld P (blk_hold hb4) ol2
  have sO := hold_st P (blk_hold hz4) _ (ol2.trans hy.symm) oo2
  have lA := hold_ld P (blk_hold (blk_put hz4 _ (ol2.trans hy.symm))) ol2
  clear h30 S hm hO hb3 hz3 hb4 hz4 rz ho hg bw bz g1 oz oo2 C
  go_enter f15, Try.ntmps15
  go_upto_region 3 with (at_builtin; refine wpList_app_run rfl _ _ #[28, 28] rfl (.slice none 0 0) (.slice ea (min (x.effs.length : Int) 12).toNat ec) rfl rfl _ w3 hr ?_)
  clear d13 f13 hr c13
  generalize ob.set 13 (.slice va (min (x.effs.length : Int) 12).toNat vc) = obn at SS lO sO lA ol2 ⊢
  generalize (w3.setCell ⟨w.heap.size, 13, none⟩ (.slice va (min (x.effs.length : Int) 12).toNat vc)) = W4 at SS lO sO lA ⊢
  go_wp2
  refine bodyPost_ret (v := .agg obn.toArray) (by simp [results, go_sem, Try.results15, a30, z30, lA]) rfl ?_
  exact ⟨obn, rfl, SS.out⟩
end Go.Proofs.Yticgadnmlbfmfaa.cachePlays
