/-
  Chapter 25: the law CacheState, walked.
-/
import Derived.Deep.CutBlock
import Derived.Test.YticgadnmlbfmfaaTxY
namespace Go.Proofs.Yticgadnmlbfmfaa.cacheState
open Go.Shelf Go.RowKit Go.Lib Go.Sort Go.Maps
/-- The object that the law puts. -/
def oV (k : Nat) (cd pl : Int) (i : Nat) (ea : Option Addr) (en ec : Nat) : Ov := ⟨1 + k, cd, pl, pl, 2, false, false, false, 0, 10 * i, 0, 0, false, ea, en, ec⟩
theorem oV_obR {Z : Nat → Prop} {W : World} {k : Nat} {cd pl : Int} {i : Nat} {ea : Option Addr} {ef : List Ef} {ec : Nat} (h : RowsZ Z W ea 4 (ef.map encE)) (hn : ef.length ≤ 1) : ObR Z W (oV k cd pl i ea ef.length ec).arr.toList cd pl (10 * i) ef :=
  ⟨rfl, Ov.one _, rfl, rfl, rfl, ⟨ea, ec, rfl, h⟩, by omega⟩
theorem oV_ok {k : Nat} {cd pl : Int} {i : Nat} {ea : Option Addr} {ef : List Ef} {ec : Nat} {t : Int × Int × Int} (h0 : 0 ≤ cd) (h5 : cd < 5) (hn : ef.length ≤ 1) (hl : ∀ y ∈ ef, lyr y.1 ≠ 0) : Sl.ok ⟨oV k cd pl i ea ef.length ec, ef, true, t⟩ k :=
  ⟨Int.add_comm _ _, h0, h5, rfl, hn, hl⟩
/-- The object's box, ahead of Put. -/
structure Ob6 (Y : Nat → Prop) (bh bi bt k : Nat) (cd pl : Int) (i b : Nat) (ef : List Ef) (ea : Option Addr) (ec : Nat) (W : World) : Prop where
  b : W.heap[b]? = some (.cells (oV k cd pl i ea ef.length ec).arr.toList.toArray 30)
  r : RowsZ (Fre Y bh bi bt) W ea 4 (ef.map encE)
  n : ef.length ≤ 1
  l : ∀ y ∈ ef, lyr y.1 ≠ 0
theorem ob6_some {Y : Nat → Prop} {bh bi bt k : Nat} {cd pl : Int} {i b be : Nat} {q : Int} {W : World} (hne : b < be) (hb : W.heap[b]? = some (.cells (oV k cd pl i none 0 0).arr.toList.toArray 30)) (he : W.heap[be]? = some (.cells [Value.int .i64 4, .int .i64 q, .int .i64 1, .int .i64 (10 * (i : Int) + 1)].toArray 49)) (hf : Fre Y bh bi bt be) :
    Aside (Ob6 Y bh bi bt k cd pl i b [(4, q, 1, 10 * (i : Int) + 1)] (some ⟨be, 0, none⟩) 1 (W.setCell ⟨b, 13, none⟩ (.slice (some ⟨be, 0, none⟩) 1 1))) := by
  refine (show Ob6 Y bh bi bt k cd pl i b [(4, q, 1, 10 * (i : Int) + 1)] (some ⟨be, 0, none⟩) 1 (W.setCell ⟨b, 13, none⟩ (.slice (some ⟨be, 0, none⟩) 1 1)) from ⟨blk_set hb 13 _, ?_, Nat.le_refl _, fun y hy => ?_⟩)
  · refine blk_rowsZ (t := 49) ?_ (fun x hx => by rw [List.mem_singleton.1 hx]; rfl) hf
    rw [set_other (by omega)]
    exact he
  · rw [List.mem_singleton.1 hy]
    show lyr 4 ≠ 0
    decide
theorem st75_one : ∀ v ∈ st75 (.slice none 0 0) (.slice none 0 0), v.oneCell' = true := by
  intro v hv
  unfold st75 at hv
  simp only [List.mem_cons, List.not_mem_nil, or_false] at hv
  rcases hv with rfl | rfl | rfl | rfl | rfl | rfl | rfl | rfl | rfl | rfl | rfl | rfl | rfl | rfl | rfl | rfl | rfl | rfl | rfl | rfl | rfl | rfl | rfl | rfl | rfl <;> rfl
theorem bld_start {D : Nat → Sl} {W0 : World} {y : List Value} (h : ((W0.alloc (.cells y.toArray 75)).setCells W0.heap.size 0 y).heap[W0.heap.size]? = some (.cells (st75 (.slice none 0 0) (.slice none 0 0)).toArray 75)) : Aside (Bld W0 W0.heap.size (.slice none 0 0) (.slice none 0 0) (rowsO D 0) (rowsI D 0) ((W0.alloc (.cells y.toArray 75)).setCells W0.heap.size 0 y)) :=
  (show Bld W0 W0.heap.size (.slice none 0 0) (.slice none 0 0) (rowsO D 0) (rowsI D 0) ((W0.alloc (.cells y.toArray 75)).setCells W0.heap.size 0 y) from ⟨below_sets (Nat.le_refl _) _ _ (gr_below (.refl _ _) (Nat.le_refl _) ((Gr.refl _).alloc _)), rfl, h, World.ownsRow_nil _ _ _ _, World.ownsRow_nil _ _ _ _⟩)
theorem wp_norm {P : Program} {c : Code} {Q : Exit → Act → World → Prop} {a : Act} {w : World} (h : Code.wp P c (Exit.then (fun a w => Q .normal a w) fun _ _ _ => False) a w) : Code.wp P c Q a w :=
  wp_mono h (by
    intro e a w h
    cases e with
    | normal => exact h
    | exit id => exact h.elim
    | goto l => exact h.elim
    | ret => exact h.elim
    | panic ch => exact h.elim
    | outgrown => exact h.elim)
theorem chk_of {w0 W0 W W6 : World} {bh bi bt cb : Nat} {D : Nat → Sl} {K : Ca} {Y : Nat → Prop} {bs : Nat} {oa fa : Option Addr} {oc fc : Nat} (S : Ls w0 bh bi bt cb D K (tD D) Y W0) (h : Bld W0 bs (.slice oa (rowsO D 16).length oc) (.slice fa (rowsI D 16).length fc) (rowsO D 16) (rowsI D 16) W) {d0 d1 d2 d3 : Int} (hb : Bt d0 d1 d2 d3 K.dt) (hg : Gr W W6) :
    Aside (Chk w0 (W6.alloc (.cells [Value.int .u64 d0, .int .u64 d1, .int .u64 d2, .int .u64 d3].toArray 53)) bh bi bt cb bs W6.heap.size D K Y oa oc fa fc d0 d1 d2 d3) := by
  obtain ⟨z, e1, e2⟩ := h.stZ S
  have l := S.m.lt
  have hbs := h.h
  have hlt := h.lt
  have g2 : Gr W (W6.alloc (.cells [Value.int .u64 d0, .int .u64 d1, .int .u64 d2, .int .u64 d3].toArray 53)) := Gr.trans hg ((Gr.refl _).alloc _)
  have fr : ∀ b, W0.heap.size ≤ b → Fre Y bh bi bt b := fun b hb => ⟨fun hy => by have := S.m.yl b hy; omega, by omega, by omega, by omega⟩
  have hc := blk_gr h.c g2
  rw [e1, e2] at hc
  exact (show Chk w0 (W6.alloc (.cells [Value.int .u64 d0, .int .u64 d1, .int .u64 d2, .int .u64 d3].toArray 53)) bh bi bt cb bs W6.heap.size D K Y oa oc fa fc d0 d1 d2 d3 from ⟨(S.below h.b).gr g2, z.keep (Kz.gr g2), hc, fr bs (by omega), blk_new W6 _, fr _ (by have := Gr.le hg; omega), hb⟩)
def D0 : Nat → Sl := fun _ => ⟨zO, [], false, (0, 0, 0)⟩
theorem ls_start {w w1 w2 : World} {cb : Nat} (hF : FewB w w1) (hH : HoldK (fun b => w.heap.size ≤ b ∧ b < w2.heap.size) (Ca.new fewC) cb w2) (hB : Below w1.heap.size w1 w2) :
    Ls w w2.heap.size (w2.heap.size + 1) (w2.heap.size + 1 + 1) cb D0 (Ca.new fewC) (tD D0) (fun b => w.heap.size ≤ b ∧ b < w2.heap.size) (((w2.alloc (.cells (flatN (fun _ => zO.arr.toList) 16).toArray 63)).alloc (.cells (flatN (fun _ => [Value.bool false]) 16).toArray 64)).alloc (.cells (flatN (fun _ => encV (0, 0, 0)) 16).toArray 65)) := by
  have g1 := Gr.le hF.g
  have g2 := hB.size
  have g3 : Gr w2 (((w2.alloc (.cells (flatN (fun _ => zO.arr.toList) 16).toArray 63)).alloc (.cells (flatN (fun _ => [Value.bool false]) 16).toArray 64)).alloc (.cells (flatN (fun _ => encV (0, 0, 0)) 16).toArray 65)) := (((Gr.refl _).alloc _).alloc _).alloc _
  have b1 : Below w.heap.size w w1 := gr_below (.refl _ _) (Nat.le_refl _) hF.g
  have b2 : Below w.heap.size w w2 := b1.trans (hB.mono g1)
  have n1 := blk_new w2 (.cells (flatN (fun _ => zO.arr.toList) 16).toArray 63)
  have n2 := blk_new (w2.alloc (.cells (flatN (fun _ => zO.arr.toList) 16).toArray 63)) (.cells (flatN (fun _ => [Value.bool false]) 16).toArray 64)
  have n3 := blk_new ((w2.alloc (.cells (flatN (fun _ => zO.arr.toList) 16).toArray 63)).alloc (.cells (flatN (fun _ => [Value.bool false]) 16).toArray 64)) (.cells (flatN (fun _ => encV (0, 0, 0)) 16).toArray 65)
  rw [World.size_alloc] at n2
  rw [World.size_alloc, World.size_alloc] at n3
  refine ⟨⟨gr_below b2 (by omega) g3, ⟨by omega, by omega, by omega⟩, ⟨by omega, by omega, by omega⟩, ⟨fun h => ?_, fun h => ?_, fun h => ?_⟩, fun k hk => hk.1, fun k hk => ?_, blk_old (blk_old n1 _) _, blk_old n2 _, n3, (fun k _ h => by cases h), (fun k _ h => by cases h)⟩, hH.gr g3, ?_, Tld.new _ _⟩
  · have := h.2; omega
  · have := h.2; omega
  · have := h.2; omega
  · have := Gr.le g3
    have := hk.2
    omega
  · funext k
    show none = slS D0 k
    unfold slS
    rw [if_neg]
    rintro ⟨_, _, h⟩
    cases h
/-- What is read of the law's argument. -/
theorem one_cells {w W : World} {la : Option Addr} {l : List On} (hR : RowsZ (fun b => b < w.heap.size) w la 4 (l.map encO)) (h : Below w.heap.size w W) {i : Nat} {x : On} (hx : l[i]? = some x) : ∃ B O, la = some ⟨B, O, none⟩ ∧ W.cell? ⟨B, O + i * 4, none⟩ = some (.int .u8 x.s) ∧ W.cell? ⟨B, O + i * 4 + 1, none⟩ = some (.int .u8 x.c) ∧ W.cell? ⟨B, O + i * 4 + 2, none⟩ = some (.int .u8 x.p) ∧ W.cell? ⟨B, O + i * 4 + 3, none⟩ = some (.int .u8 x.u) := by
  have hm : (l.map encO)[i]? = some (encO x) := by rw [List.getElem?_map, hx]; rfl
  obtain ⟨B, O, rfl, _, hb, hc⟩ := hR.resolve_left (by rintro e; rw [e] at hm; cases hm)
  have k : ∀ (j : Nat) v, (encO x)[j]? = some v → W.cell? ⟨B, O + i * 4 + j, none⟩ = some v := fun j v hv => by
    rw [h.cell (p := ⟨B, O + i * 4 + j, none⟩) hb]
    exact hc i _ hm j v hv
  exact ⟨B, O, rfl, k 0 _ rfl, k 1 _ rfl, k 2 _ rfl, k 3 _ rfl⟩
theorem rem_u8 {c : Int} (h : 0 ≤ c ∧ c < 256) (m : Int) (hm : 0 < m) (hm2 : m ≤ 256) : IntKind.u8.wrap (c.tmod m) = c % m ∧ IntKind.i64.wrap (c.tmod m) = c % m ∧ IntKind.i64.wrap (c % m) = c % m ∧ c.tmod m = c % m ∧ 0 ≤ c % m ∧ c % m < m := by
  have h1 := Int.emod_nonneg c (show m ≠ 0 by omega)
  have h2 := Int.emod_lt_of_pos c hm
  rw [Int.tmod_eq_emod_of_nonneg h.1, IntKind.wrap_u8, IntKind.wrap_i64]
  refine ⟨by omega, by omega, by omega, rfl, h1, h2⟩
set_option maxHeartbeats 40000000 in
set_option maxRecDepth 100000 in
theorem law6_calls {P : Program} {k30 k75 k63 k64 k65 : Nat} {y75 y63 y64 y65 : List Value} (L : LayT P k30 k75 k63 k64 k65 zv30 y75 y63 y64 y65) (C : LawC P) (h30 : k30 = 14) (h63 : y63 = flatN (fun _ => zO.arr.toList) 16) (h64 : y64 = flatN (fun _ => [.bool false]) 16) (h65 : y65 = flatN (fun _ => encV (0, 0, 0)) 16) (h75 : y75 = st75 (.slice none 0 0) (.slice none 0 0)) (hy75 : y75.length = k75) (h7525 : k75 = 25) {l : List On} {la : Option Addr} {lc : Nat} {al : List Int} {aa : Option Addr} {ac : Nat} {w : World} (hR : RowsZ (fun b => b < w.heap.size) w la 4 (l.map encO)) (hok : ∀ (i : Nat) x, l[i]? = some x → x.ok) (hA : RowsZ (fun b => b < w.heap.size) w aa 1 (al.map fun n => [.int .u16 n])) (haok : ∀ n ∈ al, 0 ≤ n ∧ n < 65536) :
    Calls P 6 #[.slice la l.length lc, .slice aa al.length ac] w fun e w' => e = .returned (.bool true) ∧ Below w.heap.size w w' := by
  have mixed := L.mixed; have e7 := L.e7; have e8 := L.e8; have e10 := L.e10; have e11 := L.e11; have e12 := L.e12; have e17 := L.e17; have e20 := L.e20; have e21 := L.e21; have e23 := L.e23; have t3 := L.t3; have qt3 := run_underlying L.t3; have a3 := L.a3; have z3 := L.z3; have v3 := L.v3; have t4 := L.t4; have qt4 := run_underlying L.t4; have a4 := L.a4; have z4 := L.z4; have v4 := L.v4; have t5 := L.t5; have qt5 := run_underlying L.t5; have a5 := L.a5; have z5 := L.z5; have v5 := L.v5; have t22 := L.t22; have qt22 := run_underlying L.t22; have a22 := L.a22; have z22 := L.z22; have v22 := L.v22; have t23 := L.t23; have qt23 := run_underlying L.t23; have a23 := L.a23; have z23 := L.z23; have v23 := L.v23; have t24 := L.t24; have qt24 := run_underlying L.t24; have a24 := L.a24; have z24 := L.z24; have v24 := L.v24; have t26 := L.t26; have qt26 := run_underlying L.t26; have a26 := L.a26; have z26 := L.z26; have v26 := L.v26; have t28 := L.t28; have qt28 := run_underlying L.t28; have a28 := L.a28; have z28 := L.z28; have v28 := L.v28; have t51 := L.t51; have qt51 := run_underlying L.t51; have a51 := L.a51; have z51 := L.z51; have v51 := L.v51; have t62 := L.t62; have qt62 := run_underlying L.t62; have a62 := L.a62; have z62 := L.z62; have v62 := L.v62; have t67 := L.t67; have qt67 := run_underlying L.t67; have a67 := L.a67; have z67 := L.z67; have v67 := L.v67; have t69 := L.t69; have qt69 := run_underlying L.t69; have a69 := L.a69; have z69 := L.z69; have v69 := L.v69; have t30 := L.t30; have qt30 := run_underlying L.t30; have a30 := L.a30; have z30 := L.z30; have v30 := L.v30; have t75 := L.t75; have qt75 := run_underlying L.t75; have a75 := L.a75; have z75 := L.z75; have v75 := L.v75; have t63 := L.t63; have qt63 := run_underlying L.t63; have a63 := L.a63; have z63 := L.z63; have v63 := L.v63; have t64 := L.t64; have qt64 := run_underlying L.t64; have a64 := L.a64; have z64 := L.z64; have v64 := L.v64; have t65 := L.t65; have qt65 := run_underlying L.t65; have a65 := L.a65; have z65 := L.z65; have v65 := L.v65; have t36 := L.t36; have qt36 := run_underlying L.t36; have a36 := L.a36; have z36 := L.z36; have v36 := L.v36; have t49 := L.t49; have qt49 := run_underlying L.t49; have a49 := L.a49; have z49 := L.z49; have v49 := L.v49; have t53 := L.t53; have qt53 := run_underlying L.t53; have a53 := L.a53; have z53 := L.z53; have v53 := L.v53; have t32 := L.t32; have qt32 := run_underlying L.t32; have a32 := L.a32; have z32 := L.z32; have v32 := L.v32; have z66 := L.z66; have z68 := L.z68; have z70 := L.z70; have z73 := L.z73; have eq36 := L.eq36; have g36 := L.g36
  have HR : Aside (RowsZ (fun b => b < w.heap.size) w la 4 (l.map encO)) := hR
  have HO : Aside (∀ (i : Nat) x, l[i]? = some x → x.ok) := hok
  have HA : Aside (RowsZ (fun b => b < w.heap.size) w aa 1 (al.map fun n => [.int .u16 n])) := hA
  have HAO : Aside (∀ n ∈ al, 0 ≤ n ∧ n < 65536) := haok
  have HC : Aside (LawC P) := C
  have H75 : Aside (y75 = st75 (.slice none 0 0) (.slice none 0 0)) := h75
  have HI30 : Aside (∃ i z, P.info? 30 = some i ∧ i.zero = some z ∧ z.cells.size = k30 ∧ i.size = k30 ∧ i.bytes ≤ 1000) := L.i30
  have HI3 : Aside (∃ i z, P.info? 3 = some i ∧ i.zero = some z ∧ z.cells.size = 1 ∧ i.size = 1 ∧ i.bytes ≤ 1000) := L.i3
  have H7525 : Aside (k75 = 25) := h7525
  clear h75 h7525
  have H30 : Aside (k30 = 14) := h30
  clear hR hok hA haok C
  unfold zv30 at v30
  have hf := HC.out.few w
  go_enter L.f6, Try.ntmps6
  go_upto_region 8 with (first | (go_at_fn 8; refine hf.mono ?_; rintro e w1 ⟨rfl, hF⟩; have hn := HC.out.new w w1 hF; have HF : Aside (FewB w w1) := hF; clear hF hf) | (go_at_fn 7; refine hn.mono ?_; rintro e w2 ⟨cb, rfl, hH, hB⟩; have HH : Aside (HoldK _ _ _ _) := hH; have HB : Aside (Below _ _ _) := hB; clear hH hB hn))
  have HS : Aside (Ls w w2.heap.size (w2.heap.size + 1) (w2.heap.size + 1 + 1) cb D0 (Ca.new fewC) (tD D0) _ _) := ls_start HF.out HH.out HB.out
  clear HF HH HB h63 h64 h65
  generalize (((w2.alloc (.cells (flatN (fun _ => zO.arr.toList) 16).toArray 63)).alloc (.cells (flatN (fun _ => [Value.bool false]) 16).toArray 64)).alloc (.cells (flatN (fun _ => encV (0, 0, 0)) 16).toArray 65)) = W3 at HS ⊢
  generalize w2.heap.size = bh at HS ⊢
  generalize hbi : bh + 1 = bi at HS ⊢
  generalize hbt : bi + 1 = bt at HS ⊢
  clear hbi hbt
  go_loopg [9] l.length (fun kx s9 wr => ∃ (i : Nat) (D : Nat → Sl) (K : Ca) (Y : Nat → Prop), s9 = .int .i64 i ∧ i ≤ l.length ∧ i ≤ 40 ∧ l.length - i ≤ kx ∧ Aside (Ls w bh bi bt cb D K (tD D) Y wr))
  case atStart => exact ⟨0, _, _, _, rfl, Nat.zero_le _, Nat.zero_le _, Nat.le_refl _, HS⟩
  case round =>
    clear HS
    obtain ⟨i, D, K, Y, rfl, hi, hi40, hkx, S1⟩ := hrel
    have wj : IntKind.i64.wrap ((i : Int) + 1) = (i : Int) + 1 := by rw [IntKind.wrap_i64]; omega
    by_cases hlt : i < l.length
    · have hltz : (i : Int) < (l.length : Int) := by omega
      by_cases h40 : i < 40
      · have h40z : (i : Int) < 40 := by omega
        obtain ⟨x, hx⟩ : ∃ x, l[i]? = some x := ⟨_, List.getElem?_eq_getElem hlt⟩
        obtain ⟨B, O, rfl, c0, c1, c2, c3⟩ := one_cells HR.out S1.out.m.b hx
        obtain ⟨x0, x1, x2, x3⟩ := HO.out i x hx
        go_upto_region 11 with fail
        have bx := blk_new wr (.cells [Value.int .u8 x.s, .int .u8 x.c, .int .u8 x.p, .int .u8 x.u].toArray 32)
        have S2 : Aside (Ls w bh bi bt cb D K (tD D) Y (wr.alloc (.cells [Value.int .u8 x.s, .int .u8 x.c, .int .u8 x.p, .int .u8 x.u].toArray 32))) := S1.out.gr ((Gr.refl _).alloc _)
        clear S1 c0 c1 c2 c3
        change Code.wp _ _ _ _ (wr.alloc (.cells [Value.int .u8 x.s, .int .u8 x.c, .int .u8 x.p, .int .u8 x.u].toArray 32))
        generalize (wr.alloc (.cells [Value.int .u8 x.s, .int .u8 x.c, .int .u8 x.p, .int .u8 x.u].toArray 32)) = W1 at bx S2 ⊢
        generalize wr.heap.size = bx1 at bx ⊢
        have d0 := hold_cell (blk_hold bx) (j := 0) rfl
        have d1 := hold_cell (blk_hold bx) (j := 1) rfl
        have d2 := hold_cell (blk_hold bx) (j := 2) rfl
        have d3 := hold_cell (blk_hold bx) (j := 3) rfl
        obtain ⟨r1, r2, r3, r4, r5, r6⟩ := rem_u8 x0 16 (by decide) (by decide)
        obtain ⟨k, hk⟩ : ∃ k : Nat, x.s % 16 = (k : Int) := ⟨(x.s % 16).toNat, by omega⟩
        have hk16 : k < 16 := by omega
        rw [hk] at r1 r2 r3 r4
        obtain ⟨s1, s2, s3, s4, s5, s6⟩ := rem_u8 x1 6 (by decide) (by decide)
        obtain ⟨cd, hcd⟩ : ∃ c : Int, x.c % 6 = c := ⟨_, rfl⟩
        rw [hcd] at s1 s2 s3 s4 s5 s6
        have CD0 : Aside (0 ≤ cd) := s5
        have CD6 : Aside (cd < 6) := s6
        have HBX : Aside (bx1 < W1.heap.size) := blk_lt bx
        clear bx hk r5 r6 hcd x0 x1
        go_upto_if 46 with fail
        go_cut [] from 25 to 188 (fun wc => ∃ (D' : Nat → Sl) (K' : Ca) (Y' : Nat → Prop), Aside (Ls w bh bi bt cb D' K' (tD D') Y' wc))
        case first =>
          by_cases h5 : cd = 5
          · subst h5
            have ht := HC.out.take S2.out.h k
            go_upto_region 14 with (go_at_fn 17; refine ht.mono ?_; rintro e w4 ⟨rfl, hh, ho⟩; have H4 : Aside (HoldK _ _ _ _) := hh; have O4 : Aside (OutK _ _ _) := ho; clear hh ho ht)
            obtain ⟨D', K', S5⟩ := ls_take S2.out hk16 H4.out O4.out
            have m4 := S2.out.m.keep O4.out yn_or
            obtain ⟨z1, z2⟩ := flat_cell (k := 1) m4.ci (fun _ _ => rfl) hk16 (j := 0) rfl
            rw [Nat.mul_one, Nat.add_zero] at z1 z2
            have S6 : Aside (Ls w bh bi bt cb D' K' (tD D') _ _) := S5
            clear S2 S5 m4 H4 O4
            go_wp2
            go_meet
            case rel => exact ⟨D', K', _, S6⟩
          · have h5b : (cd == 5) = false := by simpa using h5
            obtain ⟨p1, p2, p3, p4, p5, p6⟩ := rem_u8 x2 2 (by decide) (by decide)
            obtain ⟨pl, hpl⟩ : ∃ c : Int, x.p % 2 = c := ⟨_, rfl⟩
            rw [hpl] at p1 p2 p3 p4
            obtain ⟨u1, u2, u3, u4, u5, u6⟩ := rem_u8 x3 4 (by decide) (by decide)
            obtain ⟨q, hq⟩ : ∃ c : Int, x.u % 4 = c := ⟨_, rfl⟩
            rw [hq] at u1 u2 u3 u4 u5 u6
            have wk : IntKind.i64.wrap (1 + (k : Int)) = 1 + (k : Int) := by rw [IntKind.wrap_i64]; omega
            have wi : IntKind.i64.wrap (10 * (i : Int)) = 10 * (i : Int) := by rw [IntKind.wrap_i64]; omega
            have wi1 : IntKind.i64.wrap (10 * (i : Int) + 1) = 10 * (i : Int) + 1 := by rw [IntKind.wrap_i64]; omega
            clear hpl hq p5 p6
            go_upto_region 16 with fail
            have bo := blk_new W1 (.cells (oV k cd pl i none 0 0).arr.toList.toArray 30)
            have bnY : Hid (Fre Y bh bi bt W1.heap.size) := (show Fre Y bh bi bt W1.heap.size from ⟨(fun hy => by have := S2.out.m.yl _ hy; omega), (by have := S2.out.m.lt; omega), (by have := S2.out.m.lt; omega), (by have := S2.out.m.lt; omega)⟩)
            have d3b : (W1.alloc (.cells (oV k cd pl i none 0 0).arr.toList.toArray 30)).cell? ⟨bx1, 3, none⟩ = some (.int .u8 x.u) := by rw [((Gr.refl W1).alloc (.cells (oV k cd pl i none 0 0).arr.toList.toArray 30)).cell (a := ⟨bx1, 3, none⟩) HBX.out]; exact d3
            have G3 : Aside (Gr W1 (W1.alloc (.cells (oV k cd pl i none 0 0).arr.toList.toArray 30))) := (Gr.refl _).alloc _
            clear d0 d1 d2 d3
            change Code.wp _ _ _ _ (W1.alloc (.cells (oV k cd pl i none 0 0).arr.toList.toArray 30))
            generalize (W1.alloc (.cells (oV k cd pl i none 0 0).arr.toList.toArray 30)) = W2 at bo G3 d3b ⊢
            generalize hb12 : W1.heap.size = b12 at bo bnY ⊢
            have HB12 : Aside (W1.heap.size = b12) := hb12
            clear hb12
            go_upto_if 72 with fail
            go_cut [] from 25 to 188 (fun wc => ∃ (ef : List Ef) (ea : Option Addr) (ec : Nat), Aside (Ob6 Y bh bi bt k cd pl i b12 ef ea ec wc) ∧ Aside (Ls w bh bi bt cb D K (tD D) Y wc))
            case first =>
              by_cases h0 : 0 < q
              · have h0b : decide (q > 0) = true := by simpa using h0
                have ff0 : (W2.alloc (.cells [Value.int .i64 4, .int .i64 q, .int .i64 1, .int .i64 (10 * (i : Int) + 1)].toArray 49)).heap[b12]? = some (.cells (oV k cd pl i none 0 0).arr.toList.toArray 30) := blk_old bo _
                have fc := hold_cell (blk_hold ff0) (j := 13) (v := .slice none 0 0) rfl
                have ff := (blk_hold ff0 13 (show 13 < 14 by decide)).2
                have FF : Aside ((W2.alloc (.cells [Value.int .i64 4, .int .i64 q, .int .i64 1, .int .i64 (10 * (i : Int) + 1)].toArray 49)).heap[b12]? = some (.cells (oV k cd pl i none 0 0).arr.toList.toArray 30)) := ff0
                have B4 : Aside (Below W1.heap.size W1 ((W2.alloc (.cells [Value.int .i64 4, .int .i64 q, .int .i64 1, .int .i64 (10 * (i : Int) + 1)].toArray 49)).setCell ⟨b12, 13, none⟩ (.slice (some ⟨W2.heap.size, 0, none⟩) 1 1))) := (gr_below (.refl _ _) (Nat.le_refl _) (G3.out.alloc _)).setCell (p := ⟨b12, 13, none⟩) (Nat.le_of_eq HB12.out) _
                have EB : Aside ((W2.alloc (.cells [Value.int .i64 4, .int .i64 q, .int .i64 1, .int .i64 (10 * (i : Int) + 1)].toArray 49)).heap[W2.heap.size]? = some (.cells [Value.int .i64 4, .int .i64 q, .int .i64 1, .int .i64 (10 * (i : Int) + 1)].toArray 49)) := blk_new W2 _
                have EF : Aside (Fre Y bh bi bt W2.heap.size) := (show Fre Y bh bi bt W2.heap.size from ⟨(fun hy => by have := S2.out.m.yl _ hy; have := Gr.le G3.out; omega), (by have := S2.out.m.lt; have := Gr.le G3.out; omega), (by have := S2.out.m.lt; have := Gr.le G3.out; omega), (by have := S2.out.m.lt; have := Gr.le G3.out; omega)⟩)
                have EN : Aside (b12 < W2.heap.size) := blk_lt bo
                clear bo ff0
                go_wp2
                go_meet
                case rel => exact ⟨[(4, q, 1, 10 * (i : Int) + 1)], some ⟨W2.heap.size, 0, none⟩, 1, ob6_some EN.out FF.out EB.out EF.out, S2.out.below B4.out⟩
              · have h0b : decide (q > 0) = false := by simpa using h0
                go_wp2
                go_meet
                case rel => exact ⟨[], none, 0, (show Ob6 Y bh bi bt k cd pl i b12 [] none 0 W2 from ⟨bo, .inl rfl, by decide, (fun y hy => by cases hy)⟩), S2.out.gr G3.out⟩
            case rest =>
              clear bo d3b G3 S2 h30
              obtain ⟨ef, ea, ec, O6, S6⟩ := hcut
              have ORr : ObR (Fre Y bh bi bt) wc (oV k cd pl i ea ef.length ec).arr.toList cd pl (10 * i) ef := oV_obR O6.out.r O6.out.n
              have hput := HC.out.put S6.out.h hk16 ORr
              have ol1 : (oV k cd pl i ea ef.length ec).arr.toList.length = k30 := by rw [H30.out]; rfl
              have ob := O6.out.b
              have NB : Aside (b12 < wc.heap.size) := blk_lt ob
              generalize hol : (oV k cd pl i ea ef.length ec).arr.toList = ol at ORr hput ol1 ob
              have HOL : Aside ((oV k cd pl i ea ef.length ec).arr.toList = ol) := hol
              have lo := hold_ld P (blk_hold ob) ol1
              have ORR : Aside (∀ v ∈ ol, v.oneCell' = true) := ORr.one
              have ob4 : Aside (∀ w', OutK Y wc w' → w'.heap[b12]? = some (.cells ol.toArray 30)) := fun w' o => (o.k b12 NB.out bnY.out.1).trans ob
              have OL1 : Hid (ol.length = k30) := ol1
              clear hol ORr ob ol1
              go_upto_region 19 with (go_at_fn 10; refine hput.mono ?_; rintro e w4 ⟨rfl, hh, ho⟩; have H4 : Aside (HoldK _ _ _ _) := hh; have O4 : Aside (OutK _ _ _) := ho; clear hh ho hput lo)
              have m4 := S6.out.m.keep O4.out yn_or
              have lo4 := hold_ld P (blk_hold (ob4.out w4 O4.out)) OL1.out
              have sT := flat_st P m4.ch (k := k30) (fun _ _ => by rw [H30.out]; rfl) hk16 OL1.out ORR.out
              have mi : (w4.setCells bh (k * k30) ol).heap[bi]? = some (.cells (flatN (fun j => [Value.bool (D j).is]) 16).toArray 64) := by rw [sets_other m4.d.1.symm]; exact m4.ci
              obtain ⟨z1, z2⟩ := flat_cell (k := 1) mi (fun _ _ => rfl) hk16 (j := 0) rfl
              rw [Nat.mul_one, Nat.add_zero] at z1 z2
              have hxo : Sl.ok ⟨oV k cd pl i ea ef.length ec, ef, true, (D k).t⟩ k := oV_ok CD0.out (by have := CD6.out; omega) O6.out.n O6.out.l
              have S7 := ls_put S6.out hk16 hxo rfl rfl O6.out.r H4.out O4.out
              rw [show (Sl.mk (oV k cd pl i ea ef.length ec) ef true (D k).t).o.arr.toList = ol from HOL.out, ← H30.out] at S7
              have S8 : Aside (Ls _ _ _ _ _ _ _ _ _ _) := S7
              clear m4 mi S7 hxo H4 O4 S6 ob4 O6
              go_wp2
              go_meet
              case rel => exact ⟨_, _, _, S8⟩
        case rest =>
          rename World => W9
          clear h30 S2 d0 d1 d2 d3 r1 r2 r3 r4 s1 s2 s3 s4 s5 s6 CD0 CD6 HBX
          obtain ⟨D1, K1, Y1, S9⟩ := hcut
          have o75 : ∀ v ∈ y75, v.oneCell' = true := by rw [H75.out]; exact st75_one
          have sT := hold_st P (hold_new W9 y75 75) y75 rfl o75
          have bl := blk_put (blk_new W9 (.cells y75.toArray 75)) y75 rfl
          have BL : Aside (Bld W9 W9.heap.size (.slice none 0 0) (.slice none 0 0) (rowsO D1 0) (rowsI D1 0) ((W9.alloc (.cells y75.toArray 75)).setCells W9.heap.size 0 y75)) := by
            rw [H75.out] at bl ⊢
            exact bld_start bl
          clear bl o75
          go_upto_region 22 with fail
          clear sT
          generalize ((W9.alloc (.cells y75.toArray 75)).setCells W9.heap.size 0 y75) = W21 at BL ⊢
          generalize W9.heap.size = bs at BL ⊢
          go_upto_block 2 with fail
          rename_i hKK
          have HK2 : Aside _ := hKK
          clear hKK hy75
          refine bld_ok (by kernel_rfl) L H30.out S9 BL ?_
          intro x14 x93 x94 x95 x96 x97 x98 x99 x100 x101 x102 x103 x104 x105 x106 x107 x108 x109 x110 x111 x112 x113 x114 x115 x116 lo lf W22 B16
          refine HK2.out _ _ ?_
          clear HK2 BL
          dsimp only
          obtain ⟨oa, oc, hlo⟩ := own_formk B16.out.o
          obtain ⟨fa, fc, hlf⟩ := own_formk B16.out.f
          subst hlo hlf
          have S10 := S9.out.below B16.out.b
          have hd : Calls P 20 #[.pointer (some ⟨cb, 0, none⟩)] W22 fun e w' => ∃ d0 d1 d2 d3 : Int, e = .returned (.agg #[.int .u64 d0, .int .u64 d1, .int .u64 d2, .int .u64 d3]) ∧ Bt d0 d1 d2 d3 K1.dt ∧ Gr W22 w' := HC.out.dirty S10.h
          clear S10
          go_upto_region 29 with (go_at_fn 20; refine hd.mono ?_; rintro e w6 ⟨d0, d1, d2, d3, rfl, hb, hg⟩; have CK : Aside (Chk w (w6.alloc (.cells [Value.int .u64 d0, .int .u64 d1, .int .u64 d2, .int .u64 d3].toArray 53)) bh bi bt cb bs w6.heap.size D1 K1 Y1 oa oc fa fc d0 d1 d2 d3) := chk_of S9.out B16.out hb hg; clear hb hg hd)
          change Code.wp _ _ _ _ (w6.alloc (.cells [Value.int .u64 d0, .int .u64 d1, .int .u64 d2, .int .u64 d3].toArray 53))
          generalize (w6.alloc (.cells [Value.int .u64 d0, .int .u64 d1, .int .u64 d2, .int .u64 d3].toArray 53)) = W5 at CK ⊢
          generalize w6.heap.size = bd at CK ⊢
          clear B16 S9
          rename_i hKK
          have HK3 : Aside _ := hKK
          clear hKK
          go_wp2
          refine HK3.out _ _ ?_
          clear HK3
          refine wp_norm ?_
          refine chk_ok (by kernel_rfl) L HC.out H7525.out CK HA HAO ?_
          intro z4 z16 z17 z18 z19 z20 z119 z120 z121 z122 z123 z124 z125 z126 z127 z128 z129 z130 z131 z132 z133 z134 z135 z136 z137 z138 z139 z140 z141 z142 z143 z144 z145 z146 z147 z148 z149 z150 z151 z152 z153 z154 z155 z156 z157 z158 z159 z160 z161 z162 z163 z164 z165 z166 z167 z168 z169 z170 z171 z172 z173 z174 z175 z176 z177 z178 z179 z180 z181 z182 z183 z184 z185 z186 z187 z188 D' K' Y' W S'
          dsimp only [Exit.inBlock, Exit.then]
          go_wp2
          go_roundg (l.length - (i + 1))
          case measure => omega
          case rel => exact ⟨i + 1, D', K', Y', by first | rfl | go_num, by omega, by omega, Nat.le_refl _, S'⟩
      · obtain rfl : i = 40 := by omega
        have h40z : ¬ ((40 : Int) < 40) := by decide
        have hw := HC.out.works wr
        go_wp2_with (go_at_fn 12; refine hw.mono ?_; rintro e w9 ⟨rfl, h9⟩; have H9 : Aside (Below _ _ _) := h9; clear h9 hw)
        go_returns
        exact ⟨rfl, S1.out.m.b.trans (H9.out.mono S1.out.m.b.size)⟩
    · obtain rfl : i = l.length := by omega
      have hltz : ¬ ((l.length : Int) < (l.length : Int)) := by omega
      have hw := HC.out.works wr
      go_wp2_with (go_at_fn 12; refine hw.mono ?_; rintro e w9 ⟨rfl, h9⟩; have H9 : Aside (Below _ _ _) := h9; clear h9 hw)
      go_returns
      exact ⟨rfl, S1.out.m.b.trans (H9.out.mono S1.out.m.b.size)⟩
end Go.Proofs.Yticgadnmlbfmfaa.cacheState
