/-
  Chapter 14: Effects, walked with its aggregates unopened.
(r25)
-/
import Derived.Deep.RegionHeld
import Derived.Test.YticgadnmlbfmfaaTxS
namespace Go.Proofs.Yticgadnmlbfmfaa.cachePlays
open Go.Shelf Go.RowKit Go.Lib Go.Sort
/-- What is held while effects are gathered. -/
structure Ei (w : World) (b3 b4 b7 bl : Nat) (cv : Value) (SL Ob : List Value) (lv : Value) (l : List Ef) (W : World) : Prop where
  b : Below w.heap.size w W
  c3 : W.heap[b3]? = some (.cells #[cv] 26)
  c4 : W.heap[b4]? = some (.cells SL.toArray 75)
  c7 : W.heap[b7]? = some (.cells Ob.toArray 30)
  cl : W.heap[bl]? = some (.cells #[lv] 128)
  o : W.ownsRow (bl + 1) 49 4 lv l.length (flatE l)
  h3 : b3 < bl
  h4 : b4 < bl
  h7 : b7 < bl
  hN : w.heap.size ≤ bl
theorem Ei.gr {w : World} {b3 b4 b7 bl : Nat} {cv : Value} {SL Ob : List Value} {lv : Value} {l : List Ef} {W W' : World} (h : Ei w b3 b4 b7 bl cv SL Ob lv l W) (g : Gr W W') : Ei w b3 b4 b7 bl cv SL Ob lv l W' :=
  ⟨gr_below h.b (by have := blk_lt h.cl; have := h.hN; omega) g, blk_gr h.c3 g, blk_gr h.c4 g, blk_gr h.c7 g, blk_gr h.cl g, h.o.kept (gr_grown g) (by cases hv : lv.ownBlock <;> simp), h.h3, h.h4, h.h7, h.hN⟩
theorem Ei.call {w : World} {b3 b4 b7 bl : Nat} {cv : Value} {SL Ob : List Value} {lv lv' : Value} {l l' : List Ef} {W W' : World} (h : Ei w b3 b4 b7 bl cv SL Ob lv l W) (hb : Below bl W W') (hl : W'.heap[bl]? = some (.cells #[lv'] 128)) (ho : W'.ownsRow (bl + 1) 49 4 lv' l'.length (flatE l')) : Ei w b3 b4 b7 bl cv SL Ob lv' l' W' :=
  ⟨h.b.trans (hb.mono h.hN), by rw [hb.block _ h.h3]; exact h.c3, by rw [hb.block _ h.h4]; exact h.c4, by rw [hb.block _ h.h7]; exact h.c7, hl, ho, h.h3, h.h4, h.h7, h.hN⟩
theorem Ei.set {w : World} {b3 b4 b7 bl : Nat} {cv : Value} {SL Ob : List Value} {lv lv' : Value} {l l' : List Ef} {W W' : World} (h : Ei w b3 b4 b7 bl cv SL Ob lv l W) (g : W.grownBy W' lv.ownBlock) (ho : W'.ownsRow (bl + 1) 49 4 lv' l'.length (flatE l')) : Ei w b3 b4 b7 bl cv SL Ob lv' l' (W'.setCell ⟨bl, 0, none⟩ lv') ∧ W'.cell? ⟨bl, 0, none⟩ = some lv ∧ W'.frozen? ⟨bl, 0, none⟩ = false := by
  have hl := h.o.lt
  have nb : ∀ k, k ≤ bl → some k ≠ lv.ownBlock := fun k hk e => by have := (hl k e.symm).1; omega
  have k1 : ∀ k o, k ≤ bl → W.heap[k]? = some o → W'.heap[k]? = some o := fun k o hk ho => by rw [g.block k (blk_lt ho) (nb k hk)]; exact ho
  have l1 := k1 bl _ (Nat.le_refl _) h.cl
  have gs : W'.grownBy (W'.setCell ⟨bl, 0, none⟩ lv') (some bl) := ⟨rfl, rfl, rfl, by simp, fun k hk hn => Below.heap_setCell _ _ _ _ (fun e => hn (by rw [e]))⟩
  have k2 : ∀ k o, k < bl → W.heap[k]? = some o → (W'.setCell ⟨bl, 0, none⟩ lv').heap[k]? = some o := fun k o hk ho => by
    rw [gs.block k (blk_lt (k1 k o (by omega) ho)) (by simp; omega)]
    exact k1 k o (by omega) ho
  refine ⟨⟨?_, k2 _ _ h.h3 h.c3, k2 _ _ h.h4 h.c4, k2 _ _ h.h7 h.c7, ?_, ?_, h.h3, h.h4, h.h7, h.hN⟩, ?_⟩
  · exact (h.b.grown g (by have := blk_lt h.cl; have := h.hN; omega) fun k hk => by have := (hl k hk).1; have := h.hN; omega).setCell (p := ⟨bl, 0, none⟩) h.hN _
  · simp only [World.setCell, Array.getElem?_modify, l1]
    simp
  · exact ho.kept gs (by
      cases hv : lv'.ownBlock with
      | none => exact .inl rfl
      | some k => exact .inr fun e => by have := (ho.lt k hv).1; injection e with e; omega)
  · exact blk_hold (l := [lv]) l1 0 (by simp)
/-- The beast's and the card's boxes. -/
theorem start3 (P : Program) (W : World) {A B X Y : List Value} (t u : TypeId) (hX : X.length = A.length) (hY : Y.length = B.length) (oX : ∀ v ∈ X, v.oneCell' = true) (oY : ∀ v ∈ Y, v.oneCell' = true) :
    Sem.run P (storeCells ⟨W.heap.size, 0, none⟩ X 0) ((W.alloc (.cells A.toArray t)).alloc (.cells B.toArray u)) = .ok () (((W.alloc (.cells A.toArray t)).alloc (.cells B.toArray u)).setCells W.heap.size 0 X) ∧
    Sem.run P (storeCells ⟨W.heap.size + 1, 0, none⟩ Y 0) (((W.alloc (.cells A.toArray t)).alloc (.cells B.toArray u)).setCells W.heap.size 0 X) = .ok () ((((W.alloc (.cells A.toArray t)).alloc (.cells B.toArray u)).setCells W.heap.size 0 X).setCells (W.heap.size + 1) 0 Y) ∧
    Gr W ((((W.alloc (.cells A.toArray t)).alloc (.cells B.toArray u)).setCells W.heap.size 0 X).setCells (W.heap.size + 1) 0 Y) ∧
    ((((W.alloc (.cells A.toArray t)).alloc (.cells B.toArray u)).setCells W.heap.size 0 X).setCells (W.heap.size + 1) 0 Y).heap[W.heap.size]? = some (.cells X.toArray t) ∧
    ((((W.alloc (.cells A.toArray t)).alloc (.cells B.toArray u)).setCells W.heap.size 0 X).setCells (W.heap.size + 1) 0 Y).heap.size = W.heap.size + 2 := by
  have h1 : ((W.alloc (.cells A.toArray t)).alloc (.cells B.toArray u)).heap[W.heap.size]? = some (.cells A.toArray t) := blk_old (blk_new W _) _
  have h2 : ((W.alloc (.cells A.toArray t)).alloc (.cells B.toArray u)).heap[W.heap.size + 1]? = some (.cells B.toArray u) := by
    have := blk_new (W.alloc (.cells A.toArray t)) (.cells B.toArray u)
    simpa using this
  have h3 := blk_put h1 X hX
  have h4 : (((W.alloc (.cells A.toArray t)).alloc (.cells B.toArray u)).setCells W.heap.size 0 X).heap[W.heap.size + 1]? = some (.cells B.toArray u) := by
    rw [sets_other (by omega)]
    exact h2
  refine ⟨hold_st P (blk_hold h1) X hX oX, hold_st P (blk_hold h4) Y hY oY, ?_, ?_, ?_⟩
  · exact Gr.sets (W := (((W.alloc (.cells A.toArray t)).alloc (.cells B.toArray u)).setCells W.heap.size 0 X)) _ (by omega) _ 0 (Gr.sets (W := ((W.alloc (.cells A.toArray t)).alloc (.cells B.toArray u))) _ (Nat.le_refl _) _ 0 ((Gr.refl W).alloc _ |>.alloc _))
  · rw [sets_other (by omega)]
    exact h3
  · rw [size_setCells, size_setCells]
    simp
/-- What is asked of Effects' callees, and of its data. -/
structure EfIn (P : Program) (k56 : Nat) (w : World) (ca : Option Addr) (cn cc : Nat) (SL Ob : List Value) (fi : Int → Int) (on : Nat) (Xo : Nat → List Value) (con : Nat → List Ef) : Prop where
  e64 : ∀ args w, (callFunc 64 args).run P w = .ok (.enter 64 args) w
  e66 : ∀ args w, (callFunc 66 args).run P w = .ok (.enter 66 args) w
  e68 : ∀ args w, (callFunc 68 args).run P w = .ok (.enter 68 args) w
  f62 : ∀ n W, Below w.heap.size w W → Calls P 62 #[.agg SL.toArray, .int .i64 n] W fun e w' => e = .returned (.int .i64 (fi n)) ∧ Gr W w'
  lt : ∀ n, fi n < on
  act : ∀ p, p < on → ∀ b3 b7 bl W lv l, b3 < bl → b7 < bl → w.heap.size ≤ bl → Below w.heap.size w W → W.heap[b3]? = some (.cells #[.slice ca cn cc] 26) → W.heap[b7]? = some (.cells Ob.toArray 30) → W.heap[bl]? = some (.cells #[lv] 128) → W.ownsRow (bl + 1) 49 4 lv l.length (flatE l) → l.length ≤ 999000 →
    Calls P 64 #[.agg (Xo p).toArray, .pointer (some ⟨b3, 0, none⟩), .pointer (some ⟨b7, 0, none⟩), .pointer (some ⟨bl, 0, none⟩)] W fun e w' => e = .returned (.tuple #[]) ∧ ∃ lv', Below bl W w' ∧ w'.heap[bl]? = some (.cells #[lv'] 128) ∧ w'.ownsRow (bl + 1) 49 4 lv' (l ++ con p).length (flatE (l ++ con p))
  con : ∀ p, (con p).length ≤ 1000
  hX : ∀ p, p < on → (Xo p).length = k56
set_option maxHeartbeats 8000000 in
set_option maxRecDepth 100000 in
theorem ef_none {P : Program} {k32 k56 k54 k74 : Nat} {y56 y54 y74 : List Value} (L : LayD P k32 k56 k54 k74 y56 y54 y74) (hy6 : y56.length = k56) (hy4 : y54.length = k54) (ca : Option Addr) (cn cc : Nat) (SL : List Value) (hS : SL.length = k32) (id : Int) (w : World) (Ob Cd : List Value) (hO : Ob.length = k56) (hC : Cd.length = k54) (oO : ∀ v ∈ Ob, v.oneCell' = true) (oC : ∀ v ∈ Cd, v.oneCell' = true)
    (h21 : ∀ W, Gr w W → Calls P 46 #[.slice ca cn cc, .agg SL.toArray, .int .i64 id] W fun e w' => e = .returned (.tuple #[.agg Ob.toArray, .agg Cd.toArray, .bool false]) ∧ Gr W w') :
    Calls P 47 #[.slice ca cn cc, .agg SL.toArray, .int .i64 id] w fun e w' => e = .returned (.slice none 0 0) ∧ Below w.heap.size w w' := by
  have mixed := L.c.mixed; have t3 := L.c.t3; have a3 := L.c.a3; have z3 := L.c.z3; have t4 := L.c.t4; have a4 := L.c.a4; have z4 := L.c.z4; have a30 := L.c.a30; have z30 := L.c.z30; have u30 := run_underlying L.c.t30; have u82 := run_underlying L.c.t82; have t26 := L.c.t26; have a26 := L.c.a26; have z26 := L.c.z26; have a82 := L.c.a82; have z82 := L.c.z82; have e65 := L.e65; have u89 := run_underlying L.t89; have a89 := L.a89; have z89 := L.z89; have v89 := L.v89; have t80 := L.t80; have a80 := L.a80; have z80 := L.z80; have t128 := L.t128; have a128 := L.a128; have z128 := L.z128; have u128 := run_underlying L.t128; have u49 := run_underlying L.t49; have a49 := L.a49; have z49 := L.z49; have v49 := L.v49; have t67 := L.c.t67; have a67 := L.c.a67; have z67 := L.c.z67; have t69 := L.c.t69; have a69 := L.c.a69; have z69 := L.c.z69; have u75 := run_underlying L.c.t75; have a75 := L.c.a75; have z75 := L.c.z75; have v30 := L.c.v30; have v82 := L.c.v82; have e62 := L.c.e62; have e46 := L.c.e46; have t28 := L.c.t28; have a28 := L.c.a28; have z28 := L.c.z28; have v128 := L.v128; have t107 := L.c.t107
  have g0 : Gr w ((w.alloc (.cells #[.slice ca cn cc] 26)).alloc (.cells SL.toArray 75)) := (Gr.refl _).alloc _ |>.alloc _
  have l4 := hold_ld P (hold_new (w.alloc (.cells #[.slice ca cn cc] 26)) SL 75) hS
  simp only [World.size_alloc] at l4
  have G0 : Aside _ := g0
  have H21 : Aside _ := h21
  clear h21 g0
  go_enter L.c.f47, Try.ntmps47
  go_wp2_with (first | (go_at_fn 46; refine (H21.out _ G0.out).mono ?_; rintro e w1 ⟨rfl, hG⟩; obtain ⟨s7, s8, g7, b7, z7⟩ := start3 P w1 30 82 (hO.trans hy6.symm) (hC.trans hy4.symm) oO oC; have GG : Aside _ := Gr.trans (Gr.trans G0.out hG) g7; clear hG g7 b7 z7))
  go_returns
  exact ⟨rfl, gr_below (.refl _ _) (Nat.le_refl _) GG.out⟩
end Go.Proofs.Yticgadnmlbfmfaa.cachePlays
/-
  Chapter 14: Effects of a beast, gathered.
(r25)
-/
namespace Go.Proofs.Yticgadnmlbfmfaa.cachePlays
open Go.Shelf Go.RowKit Go.Lib Go.Sort
/-- What the objects of these ids add. -/
def gath (fi : Int → Int) (con : Nat → List Ef) (fs : List Int) : List Ef := fs.flatMap fun n => if 0 ≤ fi n then con (fi n).toNat else []
theorem gath_snoc (fi : Int → Int) (con : Nat → List Ef) (fs : List Int) (n : Int) : gath fi con (fs ++ [n]) = gath fi con fs ++ (if 0 ≤ fi n then con (fi n).toNat else []) := by
  unfold gath
  rw [List.flatMap_append]
  simp
theorem gath_len {fi : Int → Int} {con : Nat → List Ef} (h : ∀ p, (con p).length ≤ 1000) (fs : List Int) : (gath fi con fs).length ≤ fs.length * 1000 := by
  induction fs with
  | nil => simp [gath]
  | cons n fs ih =>
    unfold gath at ih ⊢
    rw [List.flatMap_cons, List.length_append, List.length_cons]
    have : (if 0 ≤ fi n then con (fi n).toNat else []).length ≤ 1000 := by
      split
      · exact h _
      · simp
    omega
/-- What DeleteFunc and SortStableFunc do. -/
structure Tail (P : Program) : Prop where
  d0 : ∀ W, Calls P 66 #[.slice none 0 0, .func (.func 67) #[] #[]] W fun e w' => e = .returned (.slice none 0 0) ∧ w' = W
  d : ∀ g cap d W, HoldsK encE 4 W g 0 d → g < W.heap.size → d.size < 2305843009213693952 → d.size ≤ cap → Calls P 66 #[.slice (some ⟨g, 0, none⟩) d.size cap, .func (.func 67) #[] #[]] W fun e w' => ∃ k : Array Ef, k.toList = d.toList.filter hasL ∧ e = .returned (.slice (some ⟨g, 0, none⟩) k.size cap) ∧ Below g W w' ∧ HoldsK encE 4 w' g 0 k
  s0 : ∀ rv W, Calls P 68 #[.slice none 0 0, .func (.func 69) #[rv] #[]] W fun e w' => e = .returned (.tuple #[]) ∧ w' = W
  s : ∀ rv g cap d W, HoldsK encE 4 W g 0 d → g < W.heap.size → d.size < 2305843009213693952 → Calls P 68 #[.slice (some ⟨g, 0, none⟩) d.size cap, .func (.func 69) #[rv] #[]] W fun e w' => e = .returned (.tuple #[]) ∧ ∃ d' : Array Ef, d'.size = d.size ∧ Stb (ltOf cmpE) d.toList d'.toList ∧ Srt (ltOf cmpE) d'.toList ∧ Below g W w' ∧ HoldsK encE 4 w' g 0 d'
set_option maxHeartbeats 16000000 in
set_option maxRecDepth 100000 in
theorem ef_beast {P : Program} {k32 k56 k54 k74 : Nat} {y56 y54 y74 : List Value} (L : LayD P k32 k56 k54 k74 y56 y54 y74) (hy6 : y56.length = k56) (hy4 : y54.length = k54) (ca : Option Addr) (cn cc : Nat) (SL : List Value) (hS : SL.length = k32) (oB oO on oc : Nat) (q1 : SL[1]? = some (.slice (some ⟨oB, oO, none⟩) on oc)) (fa : Option Addr) (fs : List Int) (fc : Nat) (q6 : SL[6]? = some (.slice fa fs.length fc)) (id : Int) (w : World)
    (Ob Cd : List Value) (hO : Ob.length = k56) (hC : Cd.length = k54) (oO' : ∀ v ∈ Ob, v.oneCell' = true) (oC : ∀ v ∈ Cd, v.oneCell' = true)
    (h21 : ∀ W, Gr w W → Calls P 46 #[.slice ca cn cc, .agg SL.toArray, .int .i64 id] W fun e w' => e = .returned (.tuple #[.agg Ob.toArray, .agg Cd.toArray, .bool true]) ∧ Gr W w')
    (fi : Int → Int) (Xo : Nat → List Value) (con : Nat → List Ef) (I : EfIn P k56 w ca cn cc SL Ob fi on Xo con) (hfn : fs.length ≤ 900)
    (hfs : ∀ i, i < fs.length → ∃ B O, fa = some ⟨B, O, none⟩ ∧ ∀ W, Below w.heap.size w W → W.cell? ⟨B, O + i, none⟩ = some (.int .i64 fs[i]!))
    (hXo : ∀ p, p < on → ∀ W, Below w.heap.size w W → Sem.run P (loadCellsFrom ⟨oB, oO + p * k56, none⟩ 0 k56 #[]) W = .ok (Xo p).toArray W)
    (ea : Option Addr) (effs : List Ef) (ec : Nat) (q13 : Ob[13]? = some (.slice ea effs.length ec)) (hen : effs.length ≤ 1000) (hea : ea = none → effs = [])
    (hef : ∀ ad, ea = some ad → ∀ W, Below w.heap.size w W → ∀ j u, (flatE effs)[j]? = some u → W.cell? (ad.add j) = some u) (D : Tail P) :
    Calls P 47 #[.slice ca cn cc, .agg SL.toArray, .int .i64 id] w fun e w' => ∃ a c R, e = .returned (.slice a (List.length R) c) ∧ Stb (ltOf cmpE) ((gath fi con fs ++ effs).filter hasL) R ∧ Srt (ltOf cmpE) R ∧ Below w.heap.size w w' ∧ (R = [] ∨ ∃ g, a = some ⟨g, 0, none⟩ ∧ g < w'.heap.size ∧ HoldsK encE 4 w' g 0 R.toArray) := by
  have mixed := L.c.mixed; have t3 := L.c.t3; have a3 := L.c.a3; have z3 := L.c.z3; have t4 := L.c.t4; have a4 := L.c.a4; have z4 := L.c.z4; have a30 := L.c.a30; have z30 := L.c.z30; have u30 := run_underlying L.c.t30; have u82 := run_underlying L.c.t82; have t26 := L.c.t26; have a26 := L.c.a26; have z26 := L.c.z26; have a82 := L.c.a82; have z82 := L.c.z82; have e65 := L.e65; have u89 := run_underlying L.t89; have a89 := L.a89; have z89 := L.z89; have v89 := L.v89; have t80 := L.t80; have a80 := L.a80; have z80 := L.z80; have t128 := L.t128; have a128 := L.a128; have z128 := L.z128; have u128 := run_underlying L.t128; have u49 := run_underlying L.t49; have a49 := L.a49; have z49 := L.z49; have v49 := L.v49; have t67 := L.c.t67; have a67 := L.c.a67; have z67 := L.c.z67; have t69 := L.c.t69; have a69 := L.c.a69; have z69 := L.c.z69; have u75 := run_underlying L.c.t75; have a75 := L.c.a75; have z75 := L.c.z75; have v30 := L.c.v30; have v82 := L.c.v82; have e62 := L.c.e62; have e46 := L.c.e46; have t28 := L.c.t28; have a28 := L.c.a28; have z28 := L.c.z28; have v128 := L.v128; have t107 := L.c.t107
  have e64 := I.e64; have e66 := I.e66; have e68 := I.e68
  have g0 : Gr w ((w.alloc (.cells #[.slice ca cn cc] 26)).alloc (.cells SL.toArray 75)) := (Gr.refl _).alloc _ |>.alloc _
  have l4 := hold_ld P (hold_new (w.alloc (.cells #[.slice ca cn cc] 26)) SL 75) hS
  simp only [World.size_alloc] at l4
  have G0 : Aside _ := g0
  have H21 : Aside _ := h21
  have II : Aside _ := I
  have HFS : Aside _ := hfs
  have HXO : Aside _ := hXo
  have HEF : Aside _ := hef
  have HEA : Aside _ := hea
  have DD : Aside _ := D
  clear h21 g0 I hfs hXo hef hea D
  go_enter L.c.f47, Try.ntmps47
  go_upto_region 6 with (first | (go_at_fn 46; refine (H21.out _ G0.out).mono ?_; rintro e w1 ⟨rfl, hG⟩; obtain ⟨s7, s8, g7, b7, z7⟩ := start3 P w1 30 82 (hO.trans hy6.symm) (hC.trans hy4.symm) oO' oC; have n7 : w.heap.size + 1 < w1.heap.size := (by have := Gr.le hG; simp at this; omega); have b3 := blk_gr (blk_gr (blk_old (blk_new w (.cells #[.slice ca cn cc] 26)) (.cells SL.toArray 75)) hG) g7; have b4' := blk_new (w.alloc (.cells #[.slice ca cn cc] 26)) (.cells SL.toArray 75); rw [World.size_alloc] at b4'; have b4 := blk_gr (blk_gr b4' hG) g7; have GG : Aside _ := Gr.trans (Gr.trans G0.out hG) g7; have B347 : Aside _ := (And.intro b3 (And.intro b4 (And.intro b7 (And.intro z7 n7)))); clear hG g7 b7 z7 b3 b4 b4'))
  obtain ⟨b3, b4, b7, z7, n7'⟩ := B347.out
  have E0 : Ei w w.heap.size (w.heap.size + 1) w1.heap.size (w1.heap.size + 2) (.slice ca cn cc) SL Ob (.slice none 0 0) [] (((((w1.alloc (Obj.cells y56.toArray 30)).alloc (Obj.cells y54.toArray 82)).setCells w1.heap.size 0 Ob).setCells (w1.heap.size + 1) 0 Cd).alloc (Obj.cells #[Value.slice none 0 0] 128)) := by
    refine ⟨gr_below (.refl _ _) (Nat.le_refl _) (Gr.alloc GG.out _), blk_old b3 _, blk_old b4 _, blk_old b7 _, ?_, World.ownsRow_nil _ _ _ _, by omega, by omega, by omega, by omega⟩
    have := blk_new ((((w1.alloc (Obj.cells y56.toArray 30)).alloc (Obj.cells y54.toArray 82)).setCells w1.heap.size 0 Ob).setCells (w1.heap.size + 1) 0 Cd) (Obj.cells #[Value.slice none 0 0] 128)
    rw [z7] at this
    exact this
  clear b3 b4 b7 z7 n7' B347 GG s7 s8 l4 H21 G0
  generalize (((((w1.alloc (Obj.cells y56.toArray 30)).alloc (Obj.cells y54.toArray 82)).setCells w1.heap.size 0 Ob).setCells (w1.heap.size + 1) 0 Cd).alloc (Obj.cells #[Value.slice none 0 0] 128)) = W at E0 ⊢
  have c6 := hold_cell (blk_hold E0.c4) q6
  have EE : Aside _ := E0
  clear E0
  go_wp2
  go_loopg [29] fs.length (fun kx s29 wr => ∃ (i : Nat) (lv : Value), s29 = .int .i64 i ∧ i ≤ fs.length ∧ fs.length - i ≤ kx ∧ Aside (Ei w w.heap.size (w.heap.size + 1) w1.heap.size (w1.heap.size + 2) (.slice ca cn cc) SL Ob lv (gath fi con (fs.take i)) wr))
  case atStart => exact ⟨0, _, rfl, Nat.zero_le _, Nat.le_refl _, EE⟩
  case round =>
    clear EE c6
    obtain ⟨i, lv, rfl, hid, hkx, A1⟩ := hrel
    have wj : IntKind.i64.wrap ((i : Int) + 1) = (i : Int) + 1 := by rw [IntKind.wrap_i64]; omega
    by_cases hlt : i < fs.length
    · have hltz : (i : Int) < (fs.length : Int) := by omega
      obtain ⟨fB, fO, rfl, hfc⟩ := HFS.out i hlt
      have cF := hfc wr A1.out.b
      clear hfc
      have hT : fs.take (i + 1) = fs.take i ++ [fs[i]!] := by rw [List.take_succ_eq_append_getElem hlt, getElem!_pos fs i hlt]
      have hGs := gath_snoc fi con (fs.take i) fs[i]!
      rw [← hT] at hGs
      have hLn : (gath fi con (fs.take i)).length ≤ 999000 := Nat.le_trans (gath_len II.out.con _) (by rw [List.length_take]; omega)
      obtain ⟨n, hn⟩ : ∃ n, n = fs[i]! := ⟨_, rfl⟩
      rw [← hn] at cF hGs
      have HGS : Hid _ := hGs
      have HLN : Aside _ := hLn
      clear hn hT hGs hLn
      have l4 := hold_ld P (blk_hold A1.out.c4) hS
      have h26 := II.out.f62 n wr A1.out.b
      have hfl := II.out.lt n
      obtain ⟨f, hf⟩ : ∃ f, f = fi n := ⟨_, rfl⟩
      rw [← hf] at h26 hfl
      have HFI : Hid (f = fi n) := hf
      clear hf
      by_cases hf0 : 0 ≤ f
      · obtain ⟨p, rfl⟩ : ∃ p : Nat, f = p := ⟨f.toNat, by omega⟩
        have hfd : decide ((p : Int) ≥ 0) = true := decide_eq_true hf0
        have hpz : (p : Int) < (on : Int) := hfl
        have hpn : p < on := by omega
        have hlX := II.out.hX p hpn
        have hG2 : Hid (gath fi con (fs.take (i + 1)) = gath fi con (fs.take i) ++ con p) := by
          show _ = _
          rw [HGS.out, ← HFI.out, if_pos hf0, Int.toNat_natCast]
        clear HFI HGS
        go_wp2_with (first
          | (go_at_fn 62; refine h26.mono ?_; rintro e w2 ⟨rfl, hG⟩; have A2 := A1.out.gr hG; have c1 := hold_cell (blk_hold A2.c4) q1; have lX := HXO.out p hpn w2 A2.b; have AA2 : Aside _ := A2; clear A2 hG l4 cF)
          | (go_at_fn 64; refine (II.out.act p hpn _ _ _ _ _ _ AA2.out.h3 AA2.out.h7 AA2.out.hN AA2.out.b AA2.out.c3 AA2.out.c7 AA2.out.cl AA2.out.o HLN.out).mono ?_; rintro e w3 ⟨rfl, lv', k1, k2, k3⟩; have A3 : Aside _ := AA2.out.call k1 k2 k3; clear k1 k2 k3 lX c1))
        go_roundg (fs.length - (i + 1))
        case measure => omega
        case rel => exact ⟨i + 1, lv', by first | rfl | go_num, by omega, Nat.le_refl _, by rw [hG2.out]; exact A3⟩
      · have hfd : decide (f ≥ 0) = false := decide_eq_false (by omega)
        have hG2 : Hid (gath fi con (fs.take (i + 1)) = gath fi con (fs.take i)) := by
          show _ = _
          rw [HGS.out, ← HFI.out, if_neg hf0, List.append_nil]
        clear HFI HGS
        go_wp2_with (first | (go_at_fn 62; refine h26.mono ?_; rintro e w2 ⟨rfl, hG⟩; have A2 : Aside _ := A1.out.gr hG; clear hG l4 cF))
        go_roundg (fs.length - (i + 1))
        case measure => omega
        case rel => exact ⟨i + 1, lv, by first | rfl | go_num, by omega, Nat.le_refl _, by rw [hG2.out]; exact A2⟩
    · have hltz : ¬ (i : Int) < (fs.length : Int) := by omega
      obtain rfl : i = fs.length := by omega
      have hT := A1.out
      rw [List.take_length] at hT
      clear A1
      have cl := hold_cell (blk_hold (l := [lv]) hT.cl) (j := 0) rfl
      have c13 := hold_cell (blk_hold hT.c7) q13
      obtain ⟨i49, hi1, hi2, hi3, hi4⟩ := L.i49
      have hgl := gath_len (fi := fi) II.out.con fs
      have hb1 : (gath fi con fs).length + effs.length ≤ 1000000 := by omega
      obtain ⟨v', w3, hr, ho', hg'⟩ := run_app_any (P := P) (ty := 128) (t := 128) (tx := 28) L.t128 L.c.t28 hi1 hi2 (by rw [hi3]; rfl) (by rw [hi3]; decide) (by rw [hi3]; exact hT.o) ea effs.length ec (flatE effs) (by rw [hi3, flatE_len]) (fun h => by rw [HEA.out h]; rfl) (fun ad h => HEF.out ad h wr hT.b) (by
        intro u hu
        unfold flatE at hu
        obtain ⟨x, _, hx⟩ := List.mem_flatMap.1 hu
        exact encE_one x u hx) (Nat.le_trans hb1 (by decide)) (by rw [hi4]; exact Nat.le_trans (Nat.mul_le_mul_right 32 hb1) (by decide)) (by have := blk_lt hT.cl; omega)
      rw [hi3, ← flatE_app, ← List.length_append] at ho'
      obtain ⟨A4, sl, sf⟩ := hT.set hg' ho'
      have A4 : Aside _ := A4
      have HO' : Aside _ := ho'
      have hv' : (v' = .slice none 0 0 ∧ gath fi con fs ++ effs = []) ∨ ∃ g c, v' = .slice (some ⟨g, 0, none⟩) (gath fi con fs ++ effs).length c := by
        rcases ho'.2 with ⟨e, h0⟩ | ⟨g, cap, cur, e, _⟩
        · exact .inl ⟨e, List.eq_nil_of_length_eq_zero h0⟩
        · exact .inr ⟨g, cap, e⟩
      clear hT hg' ho' hi1 hi2 hi3 hi4 hltz hid hkx wj
      rcases hv' with ⟨rfl, hnil⟩ | ⟨g, c, rfl⟩
      · have c5 := hold_cell (blk_hold (l := [.slice none 0 0]) A4.out.cl) (j := 0) rfl
        have f5 := (blk_hold (l := [.slice none 0 0]) A4.out.cl 0 (by simp)).2
        have HN : Hid (gath fi con fs ++ effs = []) := hnil
        clear hnil
        have d0 := DD.out.d0
        have s0 := DD.out.s0
        go_wp2_with (first
          | (at_builtin; refine wpList_app_run rfl _ _ #[128, 28] rfl lv (.slice ea effs.length ec) rfl rfl _ w3 hr ?_)
          | (go_at_fn 66; refine (d0 _).mono ?_; rintro e w4 ⟨rfl, rfl⟩)
          | (go_at_fn 68; refine (s0 _ _).mono ?_; rintro e w5 ⟨rfl, rfl⟩))
        go_returns
        refine ⟨none, 0, [], rfl, by rw [HN.out]; exact .refl _, .nil, ?_, .inl rfl⟩
        exact A4.out.b.setCell (p := ⟨w1.heap.size + 1 + 1, 0, none⟩) A4.out.hN _
      · obtain ⟨_, hcap, hH, hg1, hg2⟩ := own_holds A4.out.o
        have c5 := hold_cell (blk_hold (l := [.slice (some ⟨g, 0, none⟩) (gath fi con fs ++ effs).length c]) A4.out.cl) (j := 0) rfl
        have hd := DD.out.d g c (gath fi con fs ++ effs).toArray _ hH hg1 (by simp only [List.size_toArray, List.length_append]; omega) (by simpa using hcap)
        rw [List.size_toArray] at hd
        have HD : Aside _ := hd
        have HG2 : Aside _ := hg2
        have HG1 : Aside _ := hg1
        have hbig : (gath fi con fs ++ effs).length ≤ 1000000 := by rw [List.length_append]; exact hb1
        have HBIG : Aside _ := hbig
        clear HD hH hcap hg2 hg1 hbig hb1 hgl
        generalize hTq : gath fi con fs ++ effs = T at A4 sl sf hr HO' hd HBIG c5 ⊢
        have HTQ : Hid _ := hTq
        clear hTq
        go_wp2_with (first
          | (at_builtin; refine wpList_app_run rfl _ _ #[128, 28] rfl lv (.slice ea effs.length ec) rfl rfl _ w3 hr ?_)
          | (go_at_fn 66; refine hd.mono ?_; rintro e w4 ⟨k, hk, rfl, hB, hK⟩; have c6 := (hB.cell (p := ⟨w1.heap.size + 1 + 1, 0, none⟩) (by exact HG2.out)).trans c5; have f6 := (hB.frozen (p := ⟨w1.heap.size + 1 + 1, 0, none⟩) (by exact HG2.out)).trans (blk_hold (l := [.slice (some ⟨g, 0, none⟩) T.length c]) A4.out.cl 0 (by simp)).2; have K1 : Aside _ := (And.intro hk (And.intro hB hK)); have KSZ : k.size < 2305843009213693952 := (by have h1 := List.length_filter_le hasL T; rw [← show k.toList = T.filter hasL from hk, Array.length_toList] at h1; have := HBIG.out; omega); clear hk hB hK c5)
          | (go_at_fn 68; refine (DD.out.s (.slice (some ⟨g, 0, none⟩) k.size c) g c k (w4.setCell ⟨w1.heap.size + 1 + 1, 0, none⟩ (.slice (some ⟨g, 0, none⟩) k.size c)) (hold_other K1.out.2.2 (by have := HG2.out; omega) 0 [.slice (some ⟨g, 0, none⟩) k.size c]) (by have a1 := K1.out.2.1.size; have a2 := HG1.out; simp only [World.size_setCell] at a1 a2 ⊢; omega) KSZ).mono ?_; rintro e w5 ⟨rfl, d', hz, hst, hsr, hB2, hK2⟩; have c7 := (hB2.cell (p := ⟨w1.heap.size + 1 + 1, 0, none⟩) (by exact HG2.out)).trans (World.cell?_setCell_same' w4 ⟨w1.heap.size + 1 + 1, 0, none⟩ (.slice (some ⟨g, 0, none⟩) k.size c) (by rw [c6]; rfl)); have K2 : Aside _ := (And.intro hz (And.intro hst (And.intro hsr (And.intro hB2 hK2)))); clear hz hst hsr hB2 hK2))
        go_returns
        obtain ⟨k1, k2, k3⟩ := K1.out
        obtain ⟨z1, z2, z3, z4, z5⟩ := K2.out
        refine ⟨some ⟨g, 0, none⟩, c, d'.toList, ?_, ?_, z3, ?_, .inr ⟨g, rfl, ?_, by simpa using z5⟩⟩
        · show Ending.returned (Value.slice (some ⟨g, 0, none⟩) k.size c) = _
          rw [Array.length_toList, z1]
        · rw [HTQ.out, ← show k.toList = T.filter hasL from k1]
          exact z2
        · refine (A4.out.b.trans (k2.mono (by have := HG2.out; have := A4.out.hN; omega))).trans ?_
          refine Below.trans ((Below.refl _ _).setCell (p := ⟨w1.heap.size + 1 + 1, 0, none⟩) A4.out.hN (.slice (some ⟨g, 0, none⟩) k.size c)) ?_
          refine Below.trans (z4.mono (by have := HG2.out; have := A4.out.hN; omega)) ?_
          exact Below.refl _ _
        · have a1 := k2.size
          have a2 := HG1.out
          have a3 := z4.size
          simp only [World.size_setCell] at a1 a2 a3 ⊢
          omega
end Go.Proofs.Yticgadnmlbfmfaa.cachePlays
/-
  Chapter 14: Of, walked.
(r25)
-/
namespace Go.Proofs.Yticgadnmlbfmfaa.cachePlays
open Go.Shelf Go.RowKit Go.Lib Go.Sort
/-- What Of needs of the program besides. -/
structure LayE (P : Program) : Prop where
  e47 : ∀ args w, (callFunc 47 args).run P w = .ok (.enter 47 args) w
  e37 : ∀ args w, (callFunc 37 args).run P w = .ok (.enter 37 args) w
  t36 : P.underlying 36 = some (.struct #[{ name := "Power", type := 3, offset := 0, embedded := false, tag := "", pkgPath := "", byteOffset := 0 }, { name := "Tough", type := 3, offset := 1, embedded := false, tag := "", pkgPath := "", byteOffset := 8 }, { name := "Keys", type := 3, offset := 2, embedded := false, tag := "", pkgPath := "", byteOffset := 16 }])
  a36 : ∀ w, (isAgg 36).run P w = .ok true w
  z36 : ∀ w, (Go.sizeOf 36).run P w = .ok 3 w
  v36 : ∀ w, (zeroValue 36).run P w = .ok (.agg #[.int .i64 0, .int .i64 0, .int .i64 0]) w
/-- What is held ahead of Of's last statement. -/
structure Oi (w : World) (b4 b6 b9 : Nat) (SL Cd : List Value) (W : World) : Prop where
  b : Below w.heap.size w W
  c4 : W.heap[b4]? = some (.cells SL.toArray 75)
  c6 : ∃ v, W.heap[b6]? = some (.cells (encV v).toArray 36)
  c9 : W.heap[b9]? = some (.cells Cd.toArray 82)
theorem Oi.below {w : World} {b4 b6 b9 : Nat} {SL Cd : List Value} {W W' : World} (h : Oi w b4 b6 b9 SL Cd W) (hB : Below W.heap.size W W') : Oi w b4 b6 b9 SL Cd W' :=
  ⟨h.b.trans (hB.mono h.b.size), by rw [hB.block _ (blk_lt h.c4)]; exact h.c4, h.c6.imp fun _ k => by rw [hB.block _ (blk_lt k)]; exact k, by rw [hB.block _ (blk_lt h.c9)]; exact h.c9⟩
set_option maxHeartbeats 4000000 in
set_option maxRecDepth 100000 in
theorem chof_some {P : Program} {k32 k56 k54 : Nat} {y56 y54 : List Value} (L : LayC P k32 k56 k54 y56 y54) (E : LayE P) (hy6 : y56.length = k56) (hy4 : y54.length = k54) (SL Ob Cd : List Value) (hS : SL.length = k32) (hO : Ob.length = k56) (hC : Cd.length = k54) (oO : ∀ v ∈ Ob, v.oneCell' = true) (oC : ∀ v ∈ Cd, v.oneCell' = true) (ca : Option Addr) (cn cc : Nat) (id : Int) (w : World)
    (h21 : ∀ W, Gr w W → Calls P 46 #[.slice ca cn cc, .agg SL.toArray, .int .i64 id] W fun e w' => e = .returned (.tuple #[.agg Ob.toArray, .agg Cd.toArray, .bool true]) ∧ Gr W w')
    (p t k : Int) (q4 : Cd[7]? = some (.int .i64 p)) (q5 : Cd[8]? = some (.int .i64 t)) (q6 : Cd[9]? = some (.int .i64 k)) (Q : List Ef → Prop) (hQ : ∀ R, Q R → R.length ≤ 1000000)
    (h13 : ∀ W, Below w.heap.size w W → Calls P 47 #[.slice ca cn cc, .agg SL.toArray, .int .i64 id] W fun e w' => ∃ a c R, e = .returned (.slice a (List.length R) c) ∧ Q R ∧ Below W.heap.size W w' ∧ (R = [] ∨ ∃ g o, a = some ⟨g, o, none⟩ ∧ g < w'.heap.size ∧ HoldsK encE 4 w' g o R.toArray))
    (h18 : ∀ (v : Int × Int × Int) (R : List Ef) (a : Option Addr) (c : Nat) (W : World), R.length ≤ 1000000 → (R = [] ∨ ∃ g o, a = some ⟨g, o, none⟩ ∧ g < W.heap.size ∧ HoldsK encE 4 W g o R.toArray) → Calls P 37 #[.agg (encV v).toArray, .slice a R.length c] W fun e w' => e = .returned (.agg (encV (foldE R v)).toArray) ∧ Below W.heap.size W w') :
    Calls P 23 #[.slice ca cn cc, .agg SL.toArray, .int .i64 id] w fun e w' => ∃ R, Q R ∧ e = .returned (.tuple #[.agg (encV (foldE R (p, t, k))).toArray, .bool true]) ∧ Below w.heap.size w w' := by
  have mixed := L.mixed; have t3 := L.t3; have a3 := L.a3; have z3 := L.z3; have t4 := L.t4; have a4 := L.a4; have z4 := L.z4; have a30 := L.a30; have z30 := L.z30; have u30 := run_underlying L.t30; have u82 := run_underlying L.t82; have t26 := L.t26; have a26 := L.a26; have z26 := L.z26; have a82 := L.a82; have z82 := L.z82; have u75 := run_underlying L.t75; have a75 := L.a75; have z75 := L.z75; have v30 := L.v30; have v82 := L.v82; have e46 := L.e46; have t28 := L.t28; have a28 := L.a28; have z28 := L.z28; have t107 := L.t107
  have e47 := E.e47; have e37 := E.e37; have u36 := run_underlying E.t36; have a36 := E.a36; have z36 := E.z36; have v36 := E.v36
  have g0 : Gr w ((w.alloc (.cells SL.toArray 75)).alloc (.cells #[.int .i64 0, .int .i64 0, .int .i64 0] 36)) := (Gr.refl _).alloc _ |>.alloc _
  have l4 := hold_ld P (blk_hold (blk_old (blk_new w (.cells SL.toArray 75)) (.cells #[.int .i64 0, .int .i64 0, .int .i64 0] 36))) hS
  have G0 : Aside _ := g0
  have H21 : Aside _ := h21
  have H13 : Aside _ := h13
  have H18 : Aside _ := h18
  clear h21 h13 h18 g0
  go_enter L.f23, Try.ntmps23
  go_upto_region 4 with (first | (go_at_fn 46; refine (H21.out _ G0.out).mono ?_; rintro e w1 ⟨rfl, hG⟩; obtain ⟨s7, s8, g7, b7, z7⟩ := start3 P w1 30 82 (hO.trans hy6.symm) (hC.trans hy4.symm) oO oC; have b4 := blk_gr (blk_gr (blk_old (blk_new w (.cells SL.toArray 75)) (.cells #[.int .i64 0, .int .i64 0, .int .i64 0] 36)) hG) g7; have b6' := blk_new (w.alloc (.cells SL.toArray 75)) (.cells #[.int .i64 0, .int .i64 0, .int .i64 0] 36); rw [World.size_alloc] at b6'; have b6 := blk_gr (blk_gr b6' hG) g7; have GG : Aside _ := Gr.trans (Gr.trans G0.out hG) g7; have n7 : w.heap.size < w1.heap.size := (by have := Gr.le hG; simp at this; omega); have B : Aside _ := (And.intro b4 (And.intro b6 (And.intro n7 z7))); clear n7 hG g7 b7 z7 b4 b6 b6'))
  obtain ⟨b4, b6, b7, z7⟩ := B.out
  have b9 : ((((w1.alloc (Obj.cells y56.toArray 30)).alloc (Obj.cells y54.toArray 82)).setCells w1.heap.size 0 Ob).setCells (w1.heap.size + 1) 0 Cd).heap[w1.heap.size + 1]? = some (.cells Cd.toArray 82) := by
    have h1 := blk_new (w1.alloc (Obj.cells y56.toArray 30)) (Obj.cells y54.toArray 82)
    rw [World.size_alloc] at h1
    exact blk_put (by rw [sets_other (by omega)]; exact h1) Cd (hC.trans hy4.symm)
  have hb6 : w.heap.size + 1 < w1.heap.size + 1 := by omega
  have O0 : Oi w w.heap.size (w.heap.size + 1) (w1.heap.size + 1) SL Cd ((((w1.alloc (Obj.cells y56.toArray 30)).alloc (Obj.cells y54.toArray 82)).setCells w1.heap.size 0 Ob).setCells (w1.heap.size + 1) 0 Cd) := ⟨gr_below (.refl _ _) (Nat.le_refl _) GG.out, b4, ⟨(0, 0, 0), b6⟩, b9⟩
  clear b4 b6 b7 z7 b9 s7 s8 l4 B GG H21 G0
  generalize ((((w1.alloc (Obj.cells y56.toArray 30)).alloc (Obj.cells y54.toArray 82)).setCells w1.heap.size 0 Ob).setCells (w1.heap.size + 1) 0 Cd) = W0 at O0 ⊢
  generalize w1.heap.size + 1 = b9 at O0 hb6 ⊢
  have O1 : Oi w w.heap.size (w.heap.size + 1) b9 SL Cd W0.drew := O0.below ⟨rfl, rfl, rfl, Nat.le_refl _, fun _ _ => rfl⟩
  clear O0
  refine wp_region_held_drew (S := Oi w w.heap.size (w.heap.size + 1) b9 SL Cd) mixed O1 (fun hHeld => ?_)

  refine wpAnyH_take (i := 0) (v := .pointer (some ⟨b9, 7, none⟩)) rfl (by kernel_rfl) (by kernel_rfl) (by kernel_rfl) (fun _ _ _ h => h) (Or.inl ⟨by rfl, ?_⟩) hHeld ?_
  · intro W hW
    clear hW hHeld O1
    go_simp
  simp only [Act.put, List.setIfInBounds_toArray]
  refine wpAnyH_take (i := 2) (v := .pointer (some ⟨b9, 8, none⟩)) rfl (by kernel_rfl) (by kernel_rfl) (by kernel_rfl) (fun _ _ _ h => h) (Or.inl ⟨by rfl, ?_⟩) hHeld ?_
  · intro W hW
    clear hW hHeld O1
    go_simp
  simp only [Act.put]
  refine wpAnyH_take (i := 4) (v := .pointer (some ⟨b9, 9, none⟩)) rfl (by kernel_rfl) (by kernel_rfl) (by kernel_rfl) (fun _ _ _ h => h) (Or.inl ⟨by rfl, ?_⟩) hHeld ?_
  · intro W hW
    clear hW hHeld O1
    go_simp
  simp only [Act.put]
  refine wpAnyH_take (i := 7) (v := .slice ca cn cc) rfl (by kernel_rfl) (by kernel_rfl) (by kernel_rfl) (fun _ _ _ h => h) (Or.inl ⟨by rfl, ?_⟩) hHeld ?_
  · intro W hW
    clear hW hHeld O1
    go_simp
  simp only [Act.put]
  refine wpAnyH_take (i := 9) (v := .int .i64 id) rfl (by kernel_rfl) (by kernel_rfl) (by kernel_rfl) (fun _ _ _ h => h) (Or.inl ⟨by rfl, ?_⟩) hHeld ?_
  · intro W hW
    clear hW hHeld O1
    go_simp
  simp only [Act.put]
  refine wpAnyH_take (i := 1) (v := .int .i64 p) rfl (by kernel_rfl) (by kernel_rfl) (by kernel_rfl) (fun _ _ _ h => h) (Or.inl ⟨by rfl, ?_⟩) hHeld ?_
  · intro W hW
    have c := hold_cell (blk_hold hW.c9) q4
    clear hW hHeld O1
    go_simp
  simp only [Act.put]
  refine wpAnyH_take (i := 3) (v := .int .i64 t) rfl (by kernel_rfl) (by kernel_rfl) (by kernel_rfl) (fun _ _ _ h => h) (Or.inl ⟨by rfl, ?_⟩) hHeld ?_
  · intro W hW
    have c := hold_cell (blk_hold hW.c9) q5
    clear hW hHeld O1
    go_simp
  simp only [Act.put]
  refine wpAnyH_take (i := 5) (v := .int .i64 k) rfl (by kernel_rfl) (by kernel_rfl) (by kernel_rfl) (fun _ _ _ h => h) (Or.inl ⟨by rfl, ?_⟩) hHeld ?_
  · intro W hW
    have c := hold_cell (blk_hold hW.c9) q6
    clear hW hHeld O1
    go_simp
  simp only [Act.put]
  refine wpAnyH_take (i := 6) (v := .agg #[.int .i64 p, .int .i64 t, .int .i64 k]) rfl (by kernel_rfl) (by kernel_rfl) (by kernel_rfl) (fun _ _ _ h => h) (Or.inl ⟨by rfl, ?_⟩) hHeld ?_
  · intro W hW
    clear hW hHeld O1
    go_simp
  simp only [Act.put]
  refine wpAnyH_take (i := 8) (v := .agg SL.toArray) rfl (by kernel_rfl) (by kernel_rfl) (by kernel_rfl) (fun _ _ _ h => h) (Or.inl ⟨by rfl, ?_⟩) hHeld ?_
  · intro W hW
    have l4 := hold_ld P (blk_hold hW.c4) hS
    clear hW hHeld O1
    go_simp
  simp only [Act.put]
  refine wpAnyH_ready (rs := [10]) (by kernel_rfl) (by simp) ?_
  refine AllReadyH.cons rfl (fun K hK => ?_) AllReadyH.nil
  go_simp
  refine (H13.out _ hHeld.b).mono ?_
  rintro e w2 ⟨a, c, R, rfl, hq, hB, hh⟩
  have O2 := hHeld.below hB
  refine hK.out _ _ O2 (fun hHeld => ?_)
  clear hK K O1 hB
  refine wpAnyH_ready (rs := [11]) (by kernel_rfl) (by simp) ?_
  refine AllReadyH.cons rfl (fun K hK => ?_) AllReadyH.nil
  go_simp
  refine (H18.out (p, t, k) R a c w2 (hQ R hq) hh).mono ?_
  rintro e w3 ⟨rfl, hB⟩
  have O3 := hHeld.below hB
  refine hK.out _ _ O3 (fun hHeld => ?_)
  clear hK K hB hh O2 H13 H18
  obtain ⟨v0, h6⟩ := O3.c6
  have o1 : ∀ v ∈ encV (foldE R (p, t, k)), v.oneCell' = true := by
    intro v hv
    simp only [encV, List.mem_cons, List.not_mem_nil, or_false] at hv
    rcases hv with rfl | rfl | rfl <;> rfl
  have hVl : (encV (foldE R (p, t, k))).length = 3 := rfl
  obtain ⟨V, hV⟩ : ∃ V, encV (foldE R (p, t, k)) = V := ⟨_, rfl⟩
  rw [hV] at o1 hVl ⊢
  have HV : Hid _ := hV
  clear hV
  have sA := hold_st P (blk_hold h6) V hVl o1
  have O4 : Oi w w.heap.size (w.heap.size + 1) b9 SL Cd (w3.setCells (w.heap.size + 1) 0 V) := by
    refine ⟨?_, ?_, ⟨foldE R (p, t, k), by rw [HV.out]; exact blk_put h6 V hVl⟩, ?_⟩
    · exact below_sets (Nat.le_succ _) _ _ O3.b
    · rw [sets_other (by omega)]
      exact O3.c4
    · rw [sets_other (by omega)]
      exact O3.c9
  refine wpAnyH_ready (rs := [12]) (by kernel_rfl) (by simp) ?_
  refine AllReadyH.cons rfl (fun K hK => ?_) AllReadyH.nil
  go_simp
  refine hK.out _ _ O4 (fun hHeld => ?_)
  clear hK K sA hHeld
  have qA := hold_put (blk_hold h6) V hVl
  have Q4 : Aside _ := O4.b
  have HQ : Aside (Q R) := hq
  clear h6 O3 hq o1
  generalize w3.setCells (w.heap.size + 1) 0 V = w4 at O4 qA Q4 ⊢
  refine wpAnyH_ready (rs := [13]) (by kernel_rfl) (by simp) ?_
  refine AllReadyH.cons rfl (fun K hK => ?_) AllReadyH.nil
  go_simp
  refine hK.out _ _ O4 (fun hHeld => ?_)
  clear hK K hHeld O4
  refine wpAnyH_done (by kernel_rfl) ?_ _
  go_wp2
  obtain ⟨x, y, z, rfl⟩ : ∃ x y z, V = [x, y, z] := by
    match V, hVl with
    | [x, y, z], _ => exact ⟨x, y, z, rfl⟩
  have c0 : w4.cell? ⟨w.heap.size + 1, 0, none⟩ = some x := hold_cell qA rfl
  have c1 : w4.cell? ⟨w.heap.size + 1, 1, none⟩ = some y := hold_cell qA rfl
  have c2 : w4.cell? ⟨w.heap.size + 1, 2, none⟩ = some z := hold_cell qA rfl
  refine bodyPost_ret (v := .tuple #[.agg [x, y, z].toArray, .bool true]) (by simp [results, go_sem, Try.results23, a36, z36, c0, c1, c2]) rfl ?_
  exact ⟨R, HQ.out, by rw [HV.out], Q4.out⟩
end Go.Proofs.Yticgadnmlbfmfaa.cachePlays
/-
  Chapter 14: Of, walked, where no beast is found.
(r25)
-/
namespace Go.Proofs.Yticgadnmlbfmfaa.cachePlays
open Go.Shelf Go.RowKit Go.Lib Go.Sort
set_option maxHeartbeats 4000000 in
set_option maxRecDepth 100000 in
theorem chof_none {P : Program} {k32 k56 k54 : Nat} {y56 y54 : List Value} (L : LayC P k32 k56 k54 y56 y54) (E : LayE P) (hy6 : y56.length = k56) (hy4 : y54.length = k54) (SL Ob Cd : List Value) (hS : SL.length = k32) (hO : Ob.length = k56) (hC : Cd.length = k54) (oO : ∀ v ∈ Ob, v.oneCell' = true) (oC : ∀ v ∈ Cd, v.oneCell' = true) (ca : Option Addr) (cn cc : Nat) (id : Int) (w : World)
    (h21 : ∀ W, Gr w W → Calls P 46 #[.slice ca cn cc, .agg SL.toArray, .int .i64 id] W fun e w' => e = .returned (.tuple #[.agg Ob.toArray, .agg Cd.toArray, .bool false]) ∧ Gr W w') :
    Calls P 23 #[.slice ca cn cc, .agg SL.toArray, .int .i64 id] w fun e w' => e = .returned (.tuple #[.agg (encV (0, 0, 0)).toArray, .bool false]) ∧ Below w.heap.size w w' := by
  have mixed := L.mixed; have t3 := L.t3; have a3 := L.a3; have z3 := L.z3; have t4 := L.t4; have a4 := L.a4; have z4 := L.z4; have a30 := L.a30; have z30 := L.z30; have u30 := run_underlying L.t30; have u82 := run_underlying L.t82; have t26 := L.t26; have a26 := L.a26; have z26 := L.z26; have a82 := L.a82; have z82 := L.z82; have u75 := run_underlying L.t75; have a75 := L.a75; have z75 := L.z75; have v30 := L.v30; have v82 := L.v82; have e46 := L.e46; have t28 := L.t28; have a28 := L.a28; have z28 := L.z28; have t107 := L.t107
  have e47 := E.e47; have e37 := E.e37; have u36 := run_underlying E.t36; have a36 := E.a36; have z36 := E.z36; have v36 := E.v36
  have g0 : Gr w ((w.alloc (.cells SL.toArray 75)).alloc (.cells #[.int .i64 0, .int .i64 0, .int .i64 0] 36)) := (Gr.refl _).alloc _ |>.alloc _
  have l4 := hold_ld P (blk_hold (blk_old (blk_new w (.cells SL.toArray 75)) (.cells #[.int .i64 0, .int .i64 0, .int .i64 0] 36))) hS
  have G0 : Aside _ := g0
  have H21 : Aside _ := h21
  clear h21 g0
  go_enter L.f23, Try.ntmps23
  go_upto_region 3 with (first | (go_at_fn 46; refine (H21.out _ G0.out).mono ?_; rintro e w1 ⟨rfl, hG⟩; obtain ⟨s7, s8, g7, b7, z7⟩ := start3 P w1 30 82 (hO.trans hy6.symm) (hC.trans hy4.symm) oO oC; have b4 := blk_gr (blk_gr (blk_old (blk_new w (.cells SL.toArray 75)) (.cells #[.int .i64 0, .int .i64 0, .int .i64 0] 36)) hG) g7; have b6' := blk_new (w.alloc (.cells SL.toArray 75)) (.cells #[.int .i64 0, .int .i64 0, .int .i64 0] 36); rw [World.size_alloc] at b6'; have b6 := blk_gr (blk_gr b6' hG) g7; have GG : Aside _ := Gr.trans (Gr.trans G0.out hG) g7; have n7 : w.heap.size < w1.heap.size := (by have := Gr.le hG; simp at this; omega); have B : Aside _ := (And.intro b4 (And.intro b6 (And.intro n7 z7))); clear n7 hG g7 b7 z7 b4 b6 b6'))
  obtain ⟨_, b6, _, _⟩ := B.out
  have O0 : Below w.heap.size w ((((w1.alloc (Obj.cells y56.toArray 30)).alloc (Obj.cells y54.toArray 82)).setCells w1.heap.size 0 Ob).setCells (w1.heap.size + 1) 0 Cd) := gr_below (.refl _ _) (Nat.le_refl _) GG.out
  clear s7 s8 l4 B GG H21 G0
  generalize ((((w1.alloc (Obj.cells y56.toArray 30)).alloc (Obj.cells y54.toArray 82)).setCells w1.heap.size 0 Ob).setCells (w1.heap.size + 1) 0 Cd) = W2 at O0 b6 ⊢
  have h6 := blk_hold (l := encV (0, 0, 0)) b6
  obtain ⟨r0, s0⟩ := h6 0 (by simp [encV])
  obtain ⟨r1, s1⟩ := h6 1 (by simp [encV])
  obtain ⟨r2, s2⟩ := h6 2 (by simp [encV])
  change W2.cell? ⟨w.heap.size + 1, 0, none⟩ = some (.int .i64 0) at r0
  change W2.cell? ⟨w.heap.size + 1, 1, none⟩ = some (.int .i64 0) at r1
  change W2.cell? ⟨w.heap.size + 1, 2, none⟩ = some (.int .i64 0) at r2
  change W2.frozen? ⟨w.heap.size + 1, 0, none⟩ = false at s0
  change W2.frozen? ⟨w.heap.size + 1, 1, none⟩ = false at s1
  change W2.frozen? ⟨w.heap.size + 1, 2, none⟩ = false at s2
  have OO : Aside _ := O0
  clear O0 h6 b6
  go_wp2
  refine bodyPost_ret (v := .tuple #[.agg #[.int .i64 0, .int .i64 0, .int .i64 0], .bool false]) (by simp [results, go_sem, Try.results23, a36, z36, r0, r1, r2]) rfl ?_
  refine ⟨rfl, ?_⟩
  exact ((OO.out.setCell (p := ⟨w.heap.size + 1, 0, none⟩) (Nat.le_succ _) _).setCell (p := ⟨w.heap.size + 1, 1, none⟩) (Nat.le_succ _) _).setCell (p := ⟨w.heap.size + 1, 2, none⟩) (Nat.le_succ _) _
end Go.Proofs.Yticgadnmlbfmfaa.cachePlays
