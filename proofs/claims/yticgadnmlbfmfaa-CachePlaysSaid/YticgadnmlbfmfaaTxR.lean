/-
  Chapter 14: find, walked with its aggregates unopened: none is found.
(r25)
-/
import Derived.Shelf.RegionOpenPlain
import Derived.Test.YticgadnmlbfmfaaTxQ
namespace Go.Proofs.Yticgadnmlbfmfaa.cachePlays
open Go.Shelf Go.RowKit Go.Lib Go.Sort
/-- The boxes of find. -/
structure Bx (w W : World) (S A B : List Value) : Prop where
  g : Gr w W
  sz : w.heap.size + 3 ≤ W.heap.size
  s4 : Holds id W w.heap.size 0 S.toArray
  s6 : Holds id W (w.heap.size + 1) 0 A.toArray
  s7 : Holds id W (w.heap.size + 1 + 1) 0 B.toArray
theorem Bx.new (w : World) (S A B : List Value) (t u v : TypeId) : Bx w (((w.alloc (.cells S.toArray t)).alloc (.cells A.toArray u)).alloc (.cells B.toArray v)) S A B := by
  have h1 := hold_new w S t
  have h2 := hold_new (w.alloc (.cells S.toArray t)) A u
  have h3 := hold_new ((w.alloc (.cells S.toArray t)).alloc (.cells A.toArray u)) B v
  have g : ∀ (X : World) o, Gr X (X.alloc o) := fun X o => (Gr.refl X).alloc o
  refine ⟨((Gr.refl w).alloc _ |>.alloc _).alloc _, by simp, hold_gr (hold_gr h1 (g _ _) (by simp)) (g _ _) (by simp; omega), ?_, ?_⟩
  · have := hold_gr h2 (g _ (.cells B.toArray v)) (by simp)
    simpa using this
  · simpa using h3
theorem Bx.gr {w W X : World} {S A B : List Value} (h : Bx w W S A B) (g : Gr W X) : Bx w X S A B :=
  ⟨h.g.trans g, by have := g.le; have := h.sz; omega, hold_gr h.s4 g (by have := h.sz; omega), hold_gr h.s6 g (by have := h.sz; omega), hold_gr h.s7 g (by have := h.sz; omega)⟩
theorem Bx.set6 {w W : World} {S A B : List Value} (h : Bx w W S A B) (m : List Value) (hm : m.length = A.length) : Bx w (W.setCells (w.heap.size + 1) 0 m) S m B :=
  ⟨Gr.sets (W := W) _ (by omega) m 0 h.g, by rw [size_setCells]; exact h.sz, hold_other h.s4 (by omega) _ _, hold_put h.s6 m hm, hold_other h.s7 (by omega) _ _⟩
theorem Bx.set7 {w W : World} {S A B : List Value} (h : Bx w W S A B) (m : List Value) (hm : m.length = B.length) : Bx w (W.setCells (w.heap.size + 1 + 1) 0 m) S A m :=
  ⟨Gr.sets (W := W) _ (by omega) m 0 h.g, by rw [size_setCells]; exact h.sz, hold_other h.s4 (by omega) _ _, hold_other h.s6 (by omega) _ _, hold_put h.s7 m hm⟩
set_option maxHeartbeats 4000000 in
set_option maxRecDepth 100000 in
theorem findg_none {P : Program} {k32 k56 k54 : Nat} {y56 y54 : List Value} (L : LayC P k32 k56 k54 y56 y54) (hy6 : y56.length = k56) (hy4 : y54.length = k54) (o6 : ∀ v ∈ y56, v.oneCell' = true) (o4 : ∀ v ∈ y54, v.oneCell' = true)
    (SL : List Value) (hS : SL.length = k32) (fa : Option Addr) (fn fc : Nat) (h6 : SL[6]? = some (.slice fa fn fc)) (ca : Option Addr) (cn cc : Nat) (id ix kx : Int) (w : World)
    (hf : ∀ W, Gr w W → Calls P 62 #[.agg SL.toArray, .int .i64 id] W fun e w' => e = .returned (.int .i64 ix) ∧ Gr W w')
    (hk : ∀ W, Gr w W → Calls P 63 #[.slice fa fn fc, .int .i64 id] W fun e w' => e = .returned (.bool (decide (0 ≤ kx))) ∧ w' = W) (h : ix < 0 ∨ kx < 0) :
    Calls P 46 #[.slice ca cn cc, .agg SL.toArray, .int .i64 id] w fun e w' => e = .returned (.tuple #[.agg y56.toArray, .agg y54.toArray, .bool false]) ∧ Gr w w' := by
  have mixed := L.mixed; have t3 := L.t3; have a3 := L.a3; have z3 := L.z3; have t4 := L.t4; have a4 := L.a4; have z4 := L.z4; have t69 := L.t69; have a69 := L.a69; have z69 := L.z69; have t75 := L.t75; have a75 := L.a75; have z75 := L.z75; have a30 := L.a30; have z30 := L.z30; have v30 := L.v30; have a82 := L.a82; have z82 := L.z82; have v82 := L.v82; have e62 := L.e62; have e63 := L.e63; have u75 := run_underlying L.t75
  have B0 := Bx.new w SL y56 y54 75 30 82
  have l0 := hold_ld P B0.s4 hS
  have BB : Aside _ := B0
  have HF : Aside _ := hf
  have HK : Aside _ := hk
  clear hf hk B0
  by_cases h1 : ix < 0
  · have h1d : decide (ix < 0) = true := decide_eq_true h1
    go_enter L.f46, Try.ntmps46
    go_wp2_with (first | (go_at_fn 62; refine (HF.out _ BB.out.g).mono ?_; rintro e w1 ⟨rfl, hG⟩))
    have B1 := (BB.out.gr hG).gr ((Gr.refl _).drew)
    have lA := hold_ld P B1.s6 hy6
    have lB := hold_ld P B1.s7 hy4
    have sA := hold_st P B1.s6 y56 rfl o6
    have B2 := B1.set6 y56 rfl
    have lC := hold_ld P B2.s7 hy4
    have sB := hold_st P B2.s7 y54 rfl o4
    have B3 := B2.set7 y54 rfl
    have qA := hold_ld P B3.s6 hy6
    have qB := hold_ld P B3.s7 hy4
    have B4 : Aside _ := B3
    clear B1 B2 B3 hG
    go_big_region_o
    clear lA lB lC sA sB
    generalize (w1.drew.setCells (w.heap.size + 1) 0 y56).setCells (w.heap.size + 1 + 1) 0 y54 = w2 at B4 qA qB ⊢
    go_wp2
    refine bodyPost_ret (v := .tuple #[.agg y56.toArray, .agg y54.toArray, .bool false]) (by simp [results, go_sem, Try.results46, a30, z30, a82, z82, qA, qB]) rfl ?_
    exact ⟨rfl, B4.out.g⟩
  · have h1d : decide (ix < 0) = false := decide_eq_false h1
    have kd : decide (0 ≤ kx) = false := decide_eq_false (by omega)
    rw [kd] at HK
    go_enter L.f46, Try.ntmps46
    go_wp2_with (first | (go_at_fn 62; refine (HF.out _ BB.out.g).mono ?_; rintro e w1 ⟨rfl, hG⟩; have c6 := hold_cell (BB.out.gr hG).s4 h6; have BB : Aside _ := BB.out.gr hG; clear hG) | (go_at_fn 63; refine (HK.out _ BB.out.g).mono ?_; rintro e w2 ⟨rfl, rfl⟩))
    have B1 := BB.out.gr ((Gr.refl _).drew)
    have lA := hold_ld P B1.s6 hy6
    have lB := hold_ld P B1.s7 hy4
    have sA := hold_st P B1.s6 y56 rfl o6
    have B2 := B1.set6 y56 rfl
    have lC := hold_ld P B2.s7 hy4
    have sB := hold_st P B2.s7 y54 rfl o4
    have B3 := B2.set7 y54 rfl
    have qA := hold_ld P B3.s6 hy6
    have qB := hold_ld P B3.s7 hy4
    have B4 : Aside _ := B3
    clear B1 B2 B3
    go_big_region_o
    clear lA lB lC sA sB
    generalize (w2.drew.setCells (w.heap.size + 1) 0 y56).setCells (w.heap.size + 1 + 1) 0 y54 = w3 at B4 qA qB ⊢
    go_wp2
    refine bodyPost_ret (v := .tuple #[.agg y56.toArray, .agg y54.toArray, .bool false]) (by simp [results, go_sem, Try.results46, a30, z30, a82, z82, qA, qB]) rfl ?_
    exact ⟨rfl, B4.out.g⟩
set_option maxHeartbeats 4000000 in
set_option maxRecDepth 100000 in
theorem findg_bad {P : Program} {k32 k56 k54 : Nat} {y56 y54 : List Value} (L : LayC P k32 k56 k54 y56 y54) (hy6 : y56.length = k56) (hy4 : y54.length = k54) (o4 : ∀ v ∈ y54, v.oneCell' = true)
    (SL : List Value) (hS : SL.length = k32) (oa : Addr) (on oc : Nat) (h1 : SL[1]? = some (.slice (some oa) on oc)) (fa : Option Addr) (fn fc : Nat) (h6 : SL[6]? = some (.slice fa fn fc)) (ca : Option Addr) (cn cc : Nat) (id kx : Int) (ix : Nat) (w : World)
    (hf : ∀ W, Gr w W → Calls P 62 #[.agg SL.toArray, .int .i64 id] W fun e w' => e = .returned (.int .i64 ix) ∧ Gr W w')
    (hk : ∀ W, Gr w W → Calls P 63 #[.slice fa fn fc, .int .i64 id] W fun e w' => e = .returned (.bool (decide (0 ≤ kx))) ∧ w' = W) (hkx : 0 ≤ kx) (hix : ix < on)
    (X : List Value) (hX : X.length = k56) (oX : ∀ v ∈ X, v.oneCell' = true) (hlX : ∀ W, Gr w W → Sem.run P (loadCellsFrom (oa.add (ix * k56)) 0 k56 #[]) W = .ok X.toArray W) (cd : Int) (hcd : X[1]? = some (.int .i64 cd)) (hz : cd < 0 ∨ (cn : Int) ≤ cd) :
    Calls P 46 #[.slice ca cn cc, .agg SL.toArray, .int .i64 id] w fun e w' => e = .returned (.tuple #[.agg X.toArray, .agg y54.toArray, .bool false]) ∧ Gr w w' := by
  have mixed := L.mixed; have t3 := L.t3; have a3 := L.a3; have z3 := L.z3; have t4 := L.t4; have a4 := L.a4; have z4 := L.z4; have t69 := L.t69; have a69 := L.a69; have z69 := L.z69; have t75 := L.t75; have a75 := L.a75; have z75 := L.z75; have a30 := L.a30; have z30 := L.z30; have v30 := L.v30; have a82 := L.a82; have z82 := L.z82; have v82 := L.v82; have e62 := L.e62; have e63 := L.e63; have u75 := run_underlying L.t75; have u30 := run_underlying L.t30; have u82 := run_underlying L.t82; have t67 := L.t67; have a67 := L.a67; have z67 := L.z67; have t26 := L.t26; have a26 := L.a26; have z26 := L.z26
  have B0 := Bx.new w SL y56 y54 75 30 82
  have l0 := hold_ld P B0.s4 hS
  have BB : Aside _ := B0
  have HF : Aside _ := hf
  have HK : Aside _ := hk
  have HL : Aside _ := hlX
  clear hf hk hlX B0
  have h1d : decide ((ix : Int) < 0) = false := decide_eq_false (by omega)
  have kd : decide (0 ≤ kx) = true := decide_eq_true hkx
  rw [kd] at HK
  have hiz : (ix : Int) < (on : Int) := by omega
  by_cases hc : cd < 0
  · have hcdd : decide (cd < 0) = true := decide_eq_true hc
    go_enter L.f46, Try.ntmps46
    go_wp2_with (first | (go_at_fn 62; refine (HF.out _ BB.out.g).mono ?_; rintro e w1 ⟨rfl, hG⟩; have c6 := hold_cell (BB.out.gr hG).s4 h6; have c1 := hold_cell (BB.out.gr hG).s4 h1; have BB := BB.out.gr hG; have BBg : Aside _ := BB.g; have lX := HL.out w1 BB.g; have sX := hold_st P BB.s6 X (by rw [hX, hy6]) oX; have BB := BB.set6 X (by rw [hX, hy6]); have cX := hold_cell BB.s6 hcd; have BB : Aside _ := BB; clear hG) | (go_at_fn 63; refine (HK.out _ BBg.out).mono ?_; rintro e w2 ⟨rfl, rfl⟩))
    have B1 := BB.out.gr ((Gr.refl _).drew)
    have lA := hold_ld P B1.s6 hX
    have lB := hold_ld P B1.s7 hy4
    have sA := hold_st P B1.s6 X rfl oX
    have B2 := B1.set6 X rfl
    have lC := hold_ld P B2.s7 hy4
    have sB := hold_st P B2.s7 y54 rfl o4
    have B3 := B2.set7 y54 rfl
    have qA := hold_ld P B3.s6 hX
    have qB := hold_ld P B3.s7 hy4
    have B4 : Aside _ := B3
    clear B1 B2 B3
    go_big_region_o
    clear lA lB lC sA sB
    generalize ((w2.setCells (w.heap.size + 1) 0 X).drew.setCells (w.heap.size + 1) 0 X).setCells (w.heap.size + 1 + 1) 0 y54 = w9 at B4 qA qB ⊢
    go_wp2
    refine bodyPost_ret (v := .tuple #[.agg X.toArray, .agg y54.toArray, .bool false]) (by simp [results, go_sem, Try.results46, a30, z30, a82, z82, qA, qB]) rfl ?_
    exact ⟨rfl, B4.out.g⟩
  · have hcdd : decide (cd < 0) = false := decide_eq_false hc
    have hcl : (cn : Int) ≤ cd := by omega
    have hcld : decide (cd ≥ (cn : Int)) = true := decide_eq_true hcl
    go_enter L.f46, Try.ntmps46
    go_wp2_with (first | (go_at_fn 62; refine (HF.out _ BB.out.g).mono ?_; rintro e w1 ⟨rfl, hG⟩; have c6 := hold_cell (BB.out.gr hG).s4 h6; have c1 := hold_cell (BB.out.gr hG).s4 h1; have BB := BB.out.gr hG; have BBg : Aside _ := BB.g; have lX := HL.out w1 BB.g; have sX := hold_st P BB.s6 X (by rw [hX, hy6]) oX; have BB := BB.set6 X (by rw [hX, hy6]); have cX := hold_cell BB.s6 hcd; have BB : Aside _ := BB; clear hG) | (go_at_fn 63; refine (HK.out _ BBg.out).mono ?_; rintro e w2 ⟨rfl, rfl⟩))
    have B1 := BB.out.gr ((Gr.refl _).drew)
    have lA := hold_ld P B1.s6 hX
    have lB := hold_ld P B1.s7 hy4
    have sA := hold_st P B1.s6 X rfl oX
    have B2 := B1.set6 X rfl
    have lC := hold_ld P B2.s7 hy4
    have sB := hold_st P B2.s7 y54 rfl o4
    have B3 := B2.set7 y54 rfl
    have qA := hold_ld P B3.s6 hX
    have qB := hold_ld P B3.s7 hy4
    have B4 : Aside _ := B3
    clear B1 B2 B3
    go_big_region_o
    clear lA lB lC sA sB
    generalize ((w2.setCells (w.heap.size + 1) 0 X).drew.setCells (w.heap.size + 1) 0 X).setCells (w.heap.size + 1 + 1) 0 y54 = w9 at B4 qA qB ⊢
    go_wp2
    refine bodyPost_ret (v := .tuple #[.agg X.toArray, .agg y54.toArray, .bool false]) (by simp [results, go_sem, Try.results46, a30, z30, a82, z82, qA, qB]) rfl ?_
    exact ⟨rfl, B4.out.g⟩
set_option maxHeartbeats 4000000 in
set_option maxRecDepth 100000 in
theorem findg_ok {P : Program} {k32 k56 k54 : Nat} {y56 y54 : List Value} (L : LayC P k32 k56 k54 y56 y54) (hy6 : y56.length = k56) (hy4 : y54.length = k54)
    (SL : List Value) (hS : SL.length = k32) (oa : Addr) (on oc : Nat) (h1 : SL[1]? = some (.slice (some oa) on oc)) (fa : Option Addr) (fn fc : Nat) (h6 : SL[6]? = some (.slice fa fn fc)) (ca : Addr) (cn cc : Nat) (id kx : Int) (ix : Nat) (w : World)
    (hf : ∀ W, Gr w W → Calls P 62 #[.agg SL.toArray, .int .i64 id] W fun e w' => e = .returned (.int .i64 ix) ∧ Gr W w')
    (hk : ∀ W, Gr w W → Calls P 63 #[.slice fa fn fc, .int .i64 id] W fun e w' => e = .returned (.bool (decide (0 ≤ kx))) ∧ w' = W) (hkx : 0 ≤ kx) (hix : ix < on)
    (X : List Value) (hX : X.length = k56) (oX : ∀ v ∈ X, v.oneCell' = true) (hlX : ∀ W, Gr w W → Sem.run P (loadCellsFrom (oa.add (ix * k56)) 0 k56 #[]) W = .ok X.toArray W) (cd : Nat) (hcd : X[1]? = some (.int .i64 cd)) (hz : cd < cn) (Y : List Value) (hY : Y.length = k54) (oY : ∀ v ∈ Y, v.oneCell' = true) (hlY : ∀ W, Gr w W → Sem.run P (loadCellsFrom (ca.add (cd * k54)) 0 k54 #[]) W = .ok Y.toArray W) (kd' : Int) (hkd : Y[1]? = some (.int .i64 kd')) :
    Calls P 46 #[.slice (some ca) cn cc, .agg SL.toArray, .int .i64 id] w fun e w' => e = .returned (.tuple #[.agg X.toArray, .agg Y.toArray, .bool (kd' == 2)]) ∧ Gr w w' := by
  have mixed := L.mixed; have t3 := L.t3; have a3 := L.a3; have z3 := L.z3; have t4 := L.t4; have a4 := L.a4; have z4 := L.z4; have t69 := L.t69; have a69 := L.a69; have z69 := L.z69; have t75 := L.t75; have a75 := L.a75; have z75 := L.z75; have a30 := L.a30; have z30 := L.z30; have v30 := L.v30; have a82 := L.a82; have z82 := L.z82; have v82 := L.v82; have e62 := L.e62; have e63 := L.e63; have u75 := run_underlying L.t75; have u30 := run_underlying L.t30; have u82 := run_underlying L.t82; have t67 := L.t67; have a67 := L.a67; have z67 := L.z67; have t26 := L.t26; have a26 := L.a26; have z26 := L.z26
  have B0 := Bx.new w SL y56 y54 75 30 82
  have l0 := hold_ld P B0.s4 hS
  have BB : Aside _ := B0
  have HF : Aside _ := hf
  have HK : Aside _ := hk
  have HL : Aside _ := hlX
  clear hf hk hlX B0
  have h1d : decide ((ix : Int) < 0) = false := decide_eq_false (by omega)
  have kd : decide (0 ≤ kx) = true := decide_eq_true hkx
  rw [kd] at HK
  have hiz : (ix : Int) < (on : Int) := by omega
  have HY : Aside _ := hlY
  clear hlY
  have hcdd : decide ((cd : Int) < 0) = false := decide_eq_false (by omega)
  have hcld : decide ((cd : Int) ≥ (cn : Int)) = false := decide_eq_false (by omega)
  have hcz : (cd : Int) < (cn : Int) := by omega
  go_enter L.f46, Try.ntmps46
  go_wp2_with (first | (go_at_fn 62; refine (HF.out _ BB.out.g).mono ?_; rintro e w1 ⟨rfl, hG⟩; have c6 := hold_cell (BB.out.gr hG).s4 h6; have c1 := hold_cell (BB.out.gr hG).s4 h1; have BB := BB.out.gr hG; have BBg : Aside _ := BB.g; have lX := HL.out w1 BB.g; have sX := hold_st P BB.s6 X (by rw [hX, hy6]) oX; have BB := BB.set6 X (by rw [hX, hy6]); have cX := hold_cell BB.s6 hcd; have BB : Aside _ := BB; have lY := HY.out _ BB.out.g; have sY := hold_st P BB.out.s7 Y (by rw [hY, hy4]) oY; have BB : Aside _ := BB.out.set7 Y (by rw [hY, hy4]); clear hG) | (go_at_fn 63; refine (HK.out _ BBg.out).mono ?_; rintro e w2 ⟨rfl, rfl⟩))
  have B1 := BB.out.gr ((Gr.refl _).drew)
  have lA := hold_ld P B1.s6 hX
  have lB := hold_ld P B1.s7 hY
  have sA := hold_st P B1.s6 X rfl oX
  have B2 := B1.set6 X rfl
  have lC := hold_ld P B2.s7 hY
  have sB := hold_st P B2.s7 Y rfl oY
  have B3 := B2.set7 Y rfl
  have qA := hold_ld P B3.s6 hX
  have qB := hold_ld P B3.s7 hY
  have cK := hold_cell B1.s7 hkd
  have cK2 := hold_cell B2.s7 hkd
  have cK3 := hold_cell B3.s7 hkd
  have B4 : Aside _ := B3
  clear B1 B2 B3
  go_big_region_o
  clear lA lB lC sA sB
  generalize (((w2.setCells (w.heap.size + 1) 0 X).setCells (w.heap.size + 1 + 1) 0 Y).drew.setCells (w.heap.size + 1) 0 X).setCells (w.heap.size + 1 + 1) 0 Y = w9 at B4 qA qB ⊢
  go_wp2
  refine bodyPost_ret (v := .tuple #[.agg X.toArray, .agg Y.toArray, .bool (kd' == 2)]) (by simp [results, go_sem, Try.results46, a30, z30, a82, z82, qA, qB]) rfl ?_
  exact ⟨rfl, B4.out.g⟩
end Go.Proofs.Yticgadnmlbfmfaa.cachePlays
/-
  Chapter 14: find, of this program.
(r25)
-/
namespace Go.Proofs.Yticgadnmlbfmfaa.cachePlays
open Go.Shelf Go.RowKit Go.Lib Go.Sort
theorem layC : LayC Try.prog 25 14 11 zO.arr.toList zC.arr.toList where
  mixed := mixedT
  f46 := Try.func46
  f47 := Try.func47
  f23 := Try.func23
  e62 := enters_of Try.func62 (by kernel_rfl) rfl
  e63 := enters_of Try.func63 (by kernel_rfl) rfl
  e46 := enters_of Try.func46 (by kernel_rfl) rfl
  t3 := Try.underlying3
  a3 := Try.isAgg3
  z3 := Try.sizeOf3
  v3 := Try.zeroValue3
  t4 := Try.underlying4
  a4 := Try.isAgg4
  z4 := Try.sizeOf4
  v4 := Try.zeroValue4
  t26 := Try.underlying26
  a26 := Try.isAgg26
  z26 := Try.sizeOf26
  t67 := Try.underlying67
  a67 := Try.isAgg67
  z67 := Try.sizeOf67
  t69 := Try.underlying69
  a69 := Try.isAgg69
  z69 := Try.sizeOf69
  t107 := Try.underlying107
  t75 := Try.underlying75
  t30 := Try.underlying30
  t82 := Try.underlying82
  t28 := Try.underlying28
  a28 := Try.isAgg28
  z28 := Try.sizeOf28
  a75 := Try.isAgg75
  z75 := Try.sizeOf75
  a30 := Try.isAgg30
  z30 := Try.sizeOf30
  v30 := Try.zeroValue30
  a82 := Try.isAgg82
  z82 := Try.sizeOf82
  v82 := Try.zeroValue82
theorem Ov.one (o : Ov) : ∀ v ∈ o.arr.toList, v.oneCell' = true := by
  intro v hv
  simp only [Ov.arr, List.mem_cons, List.not_mem_nil, or_false] at hv
  rcases hv with rfl | rfl | rfl | rfl | rfl | rfl | rfl | rfl | rfl | rfl | rfl | rfl | rfl | rfl <;> rfl
theorem Cv.one (c : Cv) : ∀ v ∈ c.arr.toList, v.oneCell' = true := by
  intro v hv
  simp only [Cv.arr, List.mem_cons, List.not_mem_nil, or_false] at hv
  rcases hv with rfl | rfl | rfl | rfl | rfl | rfl | rfl | rfl | rfl | rfl | rfl <;> rfl
theorem findb_calls (cs : List Cv) (ca : Option Addr) (cc : Nat) (s : Sv) (id : Int) (w : World) (h : s.OK w) (hC : Rows w ca 11 (cs.map Cv.arr)) :
    Calls Try.prog 46 #[.slice ca cs.length cc, .agg s.arr, .int .i64 id] w fun e w' => e = .returned (.tuple #[.agg (bst cs s id).1.arr, .agg (bst cs s id).2.1.arr, .bool (bst cs s id).2.2]) ∧ Gr w w' := by
  have hf := fun W (k : Gr w W) => find_calls s id W (h.gr k)
  have hk := fun W (k : Gr w W) => contains_calls s.fs s.fa s.fc id W (h.gr k).f h.lf
  by_cases h1 : s.find id < 0 ∨ fnd id s.fs 0 < 0
  · have e : bst cs s id = (zO, zC, false) := by rw [bst, if_pos h1]
    rw [e]
    exact findg_none layC rfl rfl zO.one zC.one s.arr.toList rfl s.fa s.fs.length s.fc rfl ca cs.length cc id (s.find id) (fnd id s.fs 0) w hf hk h1
  · have hl := @fnd_lt id (s.os.map Ov.id) 0
    rw [List.length_map] at hl
    change s.find id < _ ∧ _ at hl
    obtain ⟨ix, hix⟩ : ∃ ix : Nat, s.find id = ix := ⟨(s.find id).toNat, by omega⟩
    have hlt : ix < s.os.length := by omega
    obtain ⟨B, O, hoa, _, _⟩ := h.o.obj hlt
    have e0 : s.os[(s.find id).toNat]! = s.os[ix] := by rw [hix, Int.toNat_natCast, getElem!_pos s.os ix hlt]
    rw [hix] at hf
    have hlX : ∀ W, Gr w W → Sem.run Try.prog (loadCellsFrom ((⟨B, O, none⟩ : Addr).add (ix * 14)) 0 14 #[]) W = .ok (s.os[ix].arr.toList).toArray W := fun W k => by
      have := (h.gr k).o
      rw [hoa] at this
      rw [Array.toArray_toList]
      exact this.ld _ (by simp [hlt]) rfl
    by_cases h2 : s.os[ix].card < 0 ∨ (cs.length : Int) ≤ s.os[ix].card
    · have e : bst cs s id = (s.os[ix], zC, false) := by rw [bst, if_neg h1, e0, if_pos h2]
      rw [e]
      have := findg_bad layC rfl rfl zC.one s.arr.toList rfl ⟨B, O, none⟩ s.os.length s.oc (by rw [← hoa]; rfl) s.fa s.fs.length s.fc rfl ca cs.length cc id (fnd id s.fs 0) ix w hf hk (by omega) hlt s.os[ix].arr.toList rfl s.os[ix].one hlX s.os[ix].card rfl h2
      exact this
    · obtain ⟨cd, hcd⟩ : ∃ cd : Nat, s.os[ix].card = cd := ⟨s.os[ix].card.toNat, by omega⟩
      have hcl : cd < cs.length := by omega
      obtain ⟨B', O', hca, _, _⟩ := hC.card hcl
      have e1 : cs[s.os[ix].card.toNat]! = cs[cd] := by rw [hcd, Int.toNat_natCast, getElem!_pos cs cd hcl]
      have e : bst cs s id = (s.os[ix], cs[cd], cs[cd].kind == 2) := by rw [bst, if_neg h1, e0, if_neg h2, e1]
      rw [e]
      have hlY : ∀ W, Gr w W → Sem.run Try.prog (loadCellsFrom ((⟨B', O', none⟩ : Addr).add (cd * 11)) 0 11 #[]) W = .ok (cs[cd].arr.toList).toArray W := fun W k => by
        have := hC.gr k
        rw [hca] at this
        rw [Array.toArray_toList]
        exact this.ld _ (by simp [hcl]) rfl
      have := findg_ok layC rfl rfl s.arr.toList rfl ⟨B, O, none⟩ s.os.length s.oc (by rw [← hoa]; rfl) s.fa s.fs.length s.fc rfl ⟨B', O', none⟩ cs.length cc id (fnd id s.fs 0) ix w hf hk (by omega) hlt s.os[ix].arr.toList rfl s.os[ix].one hlX cd (by rw [← hcd]; rfl) hcl cs[cd].arr.toList rfl cs[cd].one hlY cs[cd].kind rfl
      rw [← hca] at this
      exact this
end Go.Proofs.Yticgadnmlbfmfaa.cachePlays
