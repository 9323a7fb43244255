/-
  Chapter 14: Of, walked.
-/
import Derived.Test.YtgbhmkdldfhamaaTxH
import Derived.Deep.RegionHeld
namespace Go.Proofs.Ytgbhmkdldfhamaa.charsOf
open Go.Shelf Go.RowKit Go.Lib Go.Sort
/-- What Of needs of the program besides. -/
structure LayE (P : Program) : Prop where
  e13 : ∀ args w, (callFunc 13 args).run P w = .ok (.enter 13 args) w
  e18 : ∀ args w, (callFunc 18 args).run P w = .ok (.enter 18 args) w
  t36 : P.underlying 36 = some (.struct #[{ name := "Power", type := 3, offset := 0, embedded := false, tag := "", pkgPath := "", byteOffset := 0 }, { name := "Tough", type := 3, offset := 1, embedded := false, tag := "", pkgPath := "", byteOffset := 8 }, { name := "Keys", type := 3, offset := 2, embedded := false, tag := "", pkgPath := "", byteOffset := 16 }])
  a36 : ∀ w, (isAgg 36).run P w = .ok true w
  z36 : ∀ w, (Go.sizeOf 36).run P w = .ok 3 w
  v36 : ∀ w, (zeroValue 36).run P w = .ok (.agg #[.int .i64 0, .int .i64 0, .int .i64 0]) w
/-- What is held ahead of Of's last statement. -/
structure Oi (w : World) (b4 b6 b9 : Nat) (SL Cd : List Value) (W : World) : Prop where
  b : Below w.heap.size w W
  c4 : W.heap[b4]? = some (.cells SL.toArray 32)
  c6 : ∃ v, W.heap[b6]? = some (.cells (encV v).toArray 36)
  c9 : W.heap[b9]? = some (.cells Cd.toArray 54)
theorem Oi.below {w : World} {b4 b6 b9 : Nat} {SL Cd : List Value} {W W' : World} (h : Oi w b4 b6 b9 SL Cd W) (hB : Below W.heap.size W W') : Oi w b4 b6 b9 SL Cd W' :=
  ⟨h.b.trans (hB.mono h.b.size), by rw [hB.block _ (blk_lt h.c4)]; exact h.c4, h.c6.imp fun _ k => by rw [hB.block _ (blk_lt k)]; exact k, by rw [hB.block _ (blk_lt h.c9)]; exact h.c9⟩
set_option maxHeartbeats 4000000 in
set_option maxRecDepth 100000 in
theorem chof_some {P : Program} {k32 k56 k54 : Nat} {y56 y54 : List Value} (L : LayC P k32 k56 k54 y56 y54) (E : LayE P) (hy6 : y56.length = k56) (hy4 : y54.length = k54) (SL Ob Cd : List Value) (hS : SL.length = k32) (hO : Ob.length = k56) (hC : Cd.length = k54) (oO : ∀ v ∈ Ob, v.oneCell' = true) (oC : ∀ v ∈ Cd, v.oneCell' = true) (ca : Option Addr) (cn cc : Nat) (id : Int) (w : World)
    (h21 : ∀ W, Gr w W → Calls P 21 #[.slice ca cn cc, .agg SL.toArray, .int .i64 id] W fun e w' => e = .returned (.tuple #[.agg Ob.toArray, .agg Cd.toArray, .bool true]) ∧ Gr W w')
    (p t k : Int) (q4 : Cd[7]? = some (.int .i64 p)) (q5 : Cd[8]? = some (.int .i64 t)) (q6 : Cd[9]? = some (.int .i64 k)) (Q : List Ef → Prop) (hQ : ∀ R, Q R → R.length ≤ 1000000)
    (h13 : ∀ W, Below w.heap.size w W → Calls P 13 #[.slice ca cn cc, .agg SL.toArray, .int .i64 id] W fun e w' => ∃ a c R, e = .returned (.slice a (List.length R) c) ∧ Q R ∧ Below W.heap.size W w' ∧ (R = [] ∨ ∃ g o, a = some ⟨g, o, none⟩ ∧ g < w'.heap.size ∧ HoldsK encE 4 w' g o R.toArray))
    (h18 : ∀ (v : Int × Int × Int) (R : List Ef) (a : Option Addr) (c : Nat) (W : World), R.length ≤ 1000000 → (R = [] ∨ ∃ g o, a = some ⟨g, o, none⟩ ∧ g < W.heap.size ∧ HoldsK encE 4 W g o R.toArray) → Calls P 18 #[.agg (encV v).toArray, .slice a R.length c] W fun e w' => e = .returned (.agg (encV (foldE R v)).toArray) ∧ Below W.heap.size W w') :
    Calls P 10 #[.slice ca cn cc, .agg SL.toArray, .int .i64 id] w fun e w' => ∃ R, Q R ∧ e = .returned (.tuple #[.agg (encV (foldE R (p, t, k))).toArray, .bool true]) ∧ Below w.heap.size w w' := by
  have mixed := L.mixed; have t3 := L.t3; have a3 := L.a3; have z3 := L.z3; have t4 := L.t4; have a4 := L.a4; have z4 := L.z4; have a56 := L.a56; have z56 := L.z56; have u56 := run_underlying L.t56; have u54 := run_underlying L.t54; have t22 := L.t22; have a22 := L.a22; have z22 := L.z22; have a54 := L.a54; have z54 := L.z54; have u32 := run_underlying L.t32; have a32 := L.a32; have z32 := L.z32; have v56 := L.v56; have v54 := L.v54; have e21 := L.e21; have t40 := L.t40; have a40 := L.a40; have z40 := L.z40; have t67 := L.t67
  have e13 := E.e13; have e18 := E.e18; have u36 := run_underlying E.t36; have a36 := E.a36; have z36 := E.z36; have v36 := E.v36
  have g0 : Gr w ((w.alloc (.cells SL.toArray 32)).alloc (.cells #[.int .i64 0, .int .i64 0, .int .i64 0] 36)) := (Gr.refl _).alloc _ |>.alloc _
  have l4 := hold_ld P (blk_hold (blk_old (blk_new w (.cells SL.toArray 32)) (.cells #[.int .i64 0, .int .i64 0, .int .i64 0] 36))) hS
  have G0 : Aside _ := g0
  have H21 : Aside _ := h21
  have H13 : Aside _ := h13
  have H18 : Aside _ := h18
  clear h21 h13 h18 g0
  go_enter L.f10, Try.ntmps10
  go_upto_region 4 with (first | (go_at_fn 21; refine (H21.out _ G0.out).mono ?_; rintro e w1 ⟨rfl, hG⟩; obtain ⟨s7, s8, g7, b7, z7⟩ := start3 P w1 56 54 (hO.trans hy6.symm) (hC.trans hy4.symm) oO oC; have b4 := blk_gr (blk_gr (blk_old (blk_new w (.cells SL.toArray 32)) (.cells #[.int .i64 0, .int .i64 0, .int .i64 0] 36)) hG) g7; have b6' := blk_new (w.alloc (.cells SL.toArray 32)) (.cells #[.int .i64 0, .int .i64 0, .int .i64 0] 36); rw [World.size_alloc] at b6'; have b6 := blk_gr (blk_gr b6' hG) g7; have GG : Aside _ := Gr.trans (Gr.trans G0.out hG) g7; have n7 : w.heap.size < w1.heap.size := (by have := Gr.le hG; simp at this; omega); have B : Aside _ := (And.intro b4 (And.intro b6 (And.intro n7 z7))); clear n7 hG g7 b7 z7 b4 b6 b6'))
  obtain ⟨b4, b6, b7, z7⟩ := B.out
  have b9 : ((((w1.alloc (Obj.cells y56.toArray 56)).alloc (Obj.cells y54.toArray 54)).setCells w1.heap.size 0 Ob).setCells (w1.heap.size + 1) 0 Cd).heap[w1.heap.size + 1]? = some (.cells Cd.toArray 54) := by
    have h1 := blk_new (w1.alloc (Obj.cells y56.toArray 56)) (Obj.cells y54.toArray 54)
    rw [World.size_alloc] at h1
    exact blk_put (by rw [sets_other (by omega)]; exact h1) Cd (hC.trans hy4.symm)
  have hb6 : w.heap.size + 1 < w1.heap.size + 1 := by omega
  have O0 : Oi w w.heap.size (w.heap.size + 1) (w1.heap.size + 1) SL Cd ((((w1.alloc (Obj.cells y56.toArray 56)).alloc (Obj.cells y54.toArray 54)).setCells w1.heap.size 0 Ob).setCells (w1.heap.size + 1) 0 Cd) := ⟨gr_below (.refl _ _) (Nat.le_refl _) GG.out, b4, ⟨(0, 0, 0), b6⟩, b9⟩
  clear b4 b6 b7 z7 b9 s7 s8 l4 B GG H21 G0
  generalize ((((w1.alloc (Obj.cells y56.toArray 56)).alloc (Obj.cells y54.toArray 54)).setCells w1.heap.size 0 Ob).setCells (w1.heap.size + 1) 0 Cd) = W0 at O0 ⊢
  generalize w1.heap.size + 1 = b9 at O0 hb6 ⊢
  have O1 : Oi w w.heap.size (w.heap.size + 1) b9 SL Cd W0.drew := O0.below ⟨rfl, rfl, rfl, Nat.le_refl _, fun _ _ => rfl⟩
  clear O0
  refine wp_region_held_drew (S := Oi w w.heap.size (w.heap.size + 1) b9 SL Cd) mixed O1 (fun hHeld => ?_)

  refine wpAnyH_take (i := 0) (v := .pointer (some ⟨b9, 7, none⟩)) rfl (by kernel_rfl) (by kernel_rfl) (by kernel_rfl) (fun _ _ _ h => h) (Or.inl ⟨by rfl, ?_⟩) hHeld ?_
  · intro W hW
    clear hW hHeld O1
    go_simp
  simp only [Act.put, List.setIfInBounds_toArray]
  refine wpAnyH_take (i := 2) (v := .pointer (some ⟨b9, 8, none⟩)) rfl (by kernel_rfl) (by kernel_rfl) (by kernel_rfl) (fun _ _ _ h => h) (Or.inl ⟨by rfl, ?_⟩) hHeld ?_
  · intro W hW
    clear hW hHeld O1
    go_simp
  simp only [Act.put]
  refine wpAnyH_take (i := 4) (v := .pointer (some ⟨b9, 9, none⟩)) rfl (by kernel_rfl) (by kernel_rfl) (by kernel_rfl) (fun _ _ _ h => h) (Or.inl ⟨by rfl, ?_⟩) hHeld ?_
  · intro W hW
    clear hW hHeld O1
    go_simp
  simp only [Act.put]
  refine wpAnyH_take (i := 7) (v := .slice ca cn cc) rfl (by kernel_rfl) (by kernel_rfl) (by kernel_rfl) (fun _ _ _ h => h) (Or.inl ⟨by rfl, ?_⟩) hHeld ?_
  · intro W hW
    clear hW hHeld O1
    go_simp
  simp only [Act.put]
  refine wpAnyH_take (i := 9) (v := .int .i64 id) rfl (by kernel_rfl) (by kernel_rfl) (by kernel_rfl) (fun _ _ _ h => h) (Or.inl ⟨by rfl, ?_⟩) hHeld ?_
  · intro W hW
    clear hW hHeld O1
    go_simp
  simp only [Act.put]
  refine wpAnyH_take (i := 1) (v := .int .i64 p) rfl (by kernel_rfl) (by kernel_rfl) (by kernel_rfl) (fun _ _ _ h => h) (Or.inl ⟨by rfl, ?_⟩) hHeld ?_
  · intro W hW
    have c := hold_cell (blk_hold hW.c9) q4
    clear hW hHeld O1
    go_simp
  simp only [Act.put]
  refine wpAnyH_take (i := 3) (v := .int .i64 t) rfl (by kernel_rfl) (by kernel_rfl) (by kernel_rfl) (fun _ _ _ h => h) (Or.inl ⟨by rfl, ?_⟩) hHeld ?_
  · intro W hW
    have c := hold_cell (blk_hold hW.c9) q5
    clear hW hHeld O1
    go_simp
  simp only [Act.put]
  refine wpAnyH_take (i := 5) (v := .int .i64 k) rfl (by kernel_rfl) (by kernel_rfl) (by kernel_rfl) (fun _ _ _ h => h) (Or.inl ⟨by rfl, ?_⟩) hHeld ?_
  · intro W hW
    have c := hold_cell (blk_hold hW.c9) q6
    clear hW hHeld O1
    go_simp
  simp only [Act.put]
  refine wpAnyH_take (i := 6) (v := .agg #[.int .i64 p, .int .i64 t, .int .i64 k]) rfl (by kernel_rfl) (by kernel_rfl) (by kernel_rfl) (fun _ _ _ h => h) (Or.inl ⟨by rfl, ?_⟩) hHeld ?_
  · intro W hW
    clear hW hHeld O1
    go_simp
  simp only [Act.put]
  refine wpAnyH_take (i := 8) (v := .agg SL.toArray) rfl (by kernel_rfl) (by kernel_rfl) (by kernel_rfl) (fun _ _ _ h => h) (Or.inl ⟨by rfl, ?_⟩) hHeld ?_
  · intro W hW
    have l4 := hold_ld P (blk_hold hW.c4) hS
    clear hW hHeld O1
    go_simp
  simp only [Act.put]
  refine wpAnyH_ready (rs := [10]) (by kernel_rfl) (by simp) ?_
  refine AllReadyH.cons rfl (fun K hK => ?_) AllReadyH.nil
  go_simp
  refine (H13.out _ hHeld.b).mono ?_
  rintro e w2 ⟨a, c, R, rfl, hq, hB, hh⟩
  have O2 := hHeld.below hB
  refine hK.out _ _ O2 (fun hHeld => ?_)
  clear hK K O1 hB
  refine wpAnyH_ready (rs := [11]) (by kernel_rfl) (by simp) ?_
  refine AllReadyH.cons rfl (fun K hK => ?_) AllReadyH.nil
  go_simp
  refine (H18.out (p, t, k) R a c w2 (hQ R hq) hh).mono ?_
  rintro e w3 ⟨rfl, hB⟩
  have O3 := hHeld.below hB
  refine hK.out _ _ O3 (fun hHeld => ?_)
  clear hK K hB hh O2 H13 H18
  obtain ⟨v0, h6⟩ := O3.c6
  have o1 : ∀ v ∈ encV (foldE R (p, t, k)), v.oneCell' = true := by
    intro v hv
    simp only [encV, List.mem_cons, List.not_mem_nil, or_false] at hv
    rcases hv with rfl | rfl | rfl <;> rfl
  have hVl : (encV (foldE R (p, t, k))).length = 3 := rfl
  obtain ⟨V, hV⟩ : ∃ V, encV (foldE R (p, t, k)) = V := ⟨_, rfl⟩
  rw [hV] at o1 hVl ⊢
  have HV : Hid _ := hV
  clear hV
  have sA := hold_st P (blk_hold h6) V hVl o1
  have O4 : Oi w w.heap.size (w.heap.size + 1) b9 SL Cd (w3.setCells (w.heap.size + 1) 0 V) := by
    refine ⟨?_, ?_, ⟨foldE R (p, t, k), by rw [HV.out]; exact blk_put h6 V hVl⟩, ?_⟩
    · exact below_sets (Nat.le_succ _) _ _ O3.b
    · rw [sets_other (by omega)]
      exact O3.c4
    · rw [sets_other (by omega)]
      exact O3.c9
  refine wpAnyH_ready (rs := [12]) (by kernel_rfl) (by simp) ?_
  refine AllReadyH.cons rfl (fun K hK => ?_) AllReadyH.nil
  go_simp
  refine hK.out _ _ O4 (fun hHeld => ?_)
  clear hK K sA hHeld
  have qA := hold_put (blk_hold h6) V hVl
  have Q4 : Aside _ := O4.b
  have HQ : Aside (Q R) := hq
  clear h6 O3 hq o1
  generalize w3.setCells (w.heap.size + 1) 0 V = w4 at O4 qA Q4 ⊢
  refine wpAnyH_ready (rs := [13]) (by kernel_rfl) (by simp) ?_
  refine AllReadyH.cons rfl (fun K hK => ?_) AllReadyH.nil
  go_simp
  refine hK.out _ _ O4 (fun hHeld => ?_)
  clear hK K hHeld O4
  refine wpAnyH_done (by kernel_rfl) ?_ _
  go_wp2
  obtain ⟨x, y, z, rfl⟩ : ∃ x y z, V = [x, y, z] := by
    match V, hVl with
    | [x, y, z], _ => exact ⟨x, y, z, rfl⟩
  have c0 : w4.cell? ⟨w.heap.size + 1, 0, none⟩ = some x := hold_cell qA rfl
  have c1 : w4.cell? ⟨w.heap.size + 1, 1, none⟩ = some y := hold_cell qA rfl
  have c2 : w4.cell? ⟨w.heap.size + 1, 2, none⟩ = some z := hold_cell qA rfl
  refine bodyPost_ret (v := .tuple #[.agg [x, y, z].toArray, .bool true]) (by simp [results, go_sem, Try.results10, a36, z36, c0, c1, c2]) rfl ?_
  exact ⟨R, HQ.out, by rw [HV.out], Q4.out⟩
end Go.Proofs.Ytgbhmkdldfhamaa.charsOf
/-
  Chapter 14: Of, walked, where no beast is found.
-/
namespace Go.Proofs.Ytgbhmkdldfhamaa.charsOf
open Go.Shelf Go.RowKit Go.Lib Go.Sort
set_option maxHeartbeats 4000000 in
set_option maxRecDepth 100000 in
theorem chof_none {P : Program} {k32 k56 k54 : Nat} {y56 y54 : List Value} (L : LayC P k32 k56 k54 y56 y54) (E : LayE P) (hy6 : y56.length = k56) (hy4 : y54.length = k54) (SL Ob Cd : List Value) (hS : SL.length = k32) (hO : Ob.length = k56) (hC : Cd.length = k54) (oO : ∀ v ∈ Ob, v.oneCell' = true) (oC : ∀ v ∈ Cd, v.oneCell' = true) (ca : Option Addr) (cn cc : Nat) (id : Int) (w : World)
    (h21 : ∀ W, Gr w W → Calls P 21 #[.slice ca cn cc, .agg SL.toArray, .int .i64 id] W fun e w' => e = .returned (.tuple #[.agg Ob.toArray, .agg Cd.toArray, .bool false]) ∧ Gr W w') :
    Calls P 10 #[.slice ca cn cc, .agg SL.toArray, .int .i64 id] w fun e w' => e = .returned (.tuple #[.agg (encV (0, 0, 0)).toArray, .bool false]) ∧ Below w.heap.size w w' := by
  have mixed := L.mixed; have t3 := L.t3; have a3 := L.a3; have z3 := L.z3; have t4 := L.t4; have a4 := L.a4; have z4 := L.z4; have a56 := L.a56; have z56 := L.z56; have u56 := run_underlying L.t56; have u54 := run_underlying L.t54; have t22 := L.t22; have a22 := L.a22; have z22 := L.z22; have a54 := L.a54; have z54 := L.z54; have u32 := run_underlying L.t32; have a32 := L.a32; have z32 := L.z32; have v56 := L.v56; have v54 := L.v54; have e21 := L.e21; have t40 := L.t40; have a40 := L.a40; have z40 := L.z40; have t67 := L.t67
  have e13 := E.e13; have e18 := E.e18; have u36 := run_underlying E.t36; have a36 := E.a36; have z36 := E.z36; have v36 := E.v36
  have g0 : Gr w ((w.alloc (.cells SL.toArray 32)).alloc (.cells #[.int .i64 0, .int .i64 0, .int .i64 0] 36)) := (Gr.refl _).alloc _ |>.alloc _
  have l4 := hold_ld P (blk_hold (blk_old (blk_new w (.cells SL.toArray 32)) (.cells #[.int .i64 0, .int .i64 0, .int .i64 0] 36))) hS
  have G0 : Aside _ := g0
  have H21 : Aside _ := h21
  clear h21 g0
  go_enter L.f10, Try.ntmps10
  go_upto_region 3 with (first | (go_at_fn 21; refine (H21.out _ G0.out).mono ?_; rintro e w1 ⟨rfl, hG⟩; obtain ⟨s7, s8, g7, b7, z7⟩ := start3 P w1 56 54 (hO.trans hy6.symm) (hC.trans hy4.symm) oO oC; have b4 := blk_gr (blk_gr (blk_old (blk_new w (.cells SL.toArray 32)) (.cells #[.int .i64 0, .int .i64 0, .int .i64 0] 36)) hG) g7; have b6' := blk_new (w.alloc (.cells SL.toArray 32)) (.cells #[.int .i64 0, .int .i64 0, .int .i64 0] 36); rw [World.size_alloc] at b6'; have b6 := blk_gr (blk_gr b6' hG) g7; have GG : Aside _ := Gr.trans (Gr.trans G0.out hG) g7; have n7 : w.heap.size < w1.heap.size := (by have := Gr.le hG; simp at this; omega); have B : Aside _ := (And.intro b4 (And.intro b6 (And.intro n7 z7))); clear n7 hG g7 b7 z7 b4 b6 b6'))
  obtain ⟨_, b6, _, _⟩ := B.out
  have O0 : Below w.heap.size w ((((w1.alloc (Obj.cells y56.toArray 56)).alloc (Obj.cells y54.toArray 54)).setCells w1.heap.size 0 Ob).setCells (w1.heap.size + 1) 0 Cd) := gr_below (.refl _ _) (Nat.le_refl _) GG.out
  clear s7 s8 l4 B GG H21 G0
  generalize ((((w1.alloc (Obj.cells y56.toArray 56)).alloc (Obj.cells y54.toArray 54)).setCells w1.heap.size 0 Ob).setCells (w1.heap.size + 1) 0 Cd) = W2 at O0 b6 ⊢
  have h6 := blk_hold (l := encV (0, 0, 0)) b6
  obtain ⟨r0, s0⟩ := h6 0 (by simp [encV])
  obtain ⟨r1, s1⟩ := h6 1 (by simp [encV])
  obtain ⟨r2, s2⟩ := h6 2 (by simp [encV])
  change W2.cell? ⟨w.heap.size + 1, 0, none⟩ = some (.int .i64 0) at r0
  change W2.cell? ⟨w.heap.size + 1, 1, none⟩ = some (.int .i64 0) at r1
  change W2.cell? ⟨w.heap.size + 1, 2, none⟩ = some (.int .i64 0) at r2
  change W2.frozen? ⟨w.heap.size + 1, 0, none⟩ = false at s0
  change W2.frozen? ⟨w.heap.size + 1, 1, none⟩ = false at s1
  change W2.frozen? ⟨w.heap.size + 1, 2, none⟩ = false at s2
  have OO : Aside _ := O0
  clear O0 h6 b6
  go_wp2
  refine bodyPost_ret (v := .tuple #[.agg #[.int .i64 0, .int .i64 0, .int .i64 0], .bool false]) (by simp [results, go_sem, Try.results10, a36, z36, r0, r1, r2]) rfl ?_
  refine ⟨rfl, ?_⟩
  exact ((OO.out.setCell (p := ⟨w.heap.size + 1, 0, none⟩) (Nat.le_succ _) _).setCell (p := ⟨w.heap.size + 1, 1, none⟩) (Nat.le_succ _) _).setCell (p := ⟨w.heap.size + 1, 2, none⟩) (Nat.le_succ _) _
end Go.Proofs.Ytgbhmkdldfhamaa.charsOf
/-
  Chapter 14: the answer's small functions, walked.
-/
namespace Go.Proofs.Ytgbhmkdldfhamaa.charsOf
open Go.Shelf Go.RowKit Go.Lib Go.Sort
theorem rsmall_calls (n : Int) (w : World) : Calls Try.prog 39 #[.int .i64 n] w fun e w' => e = .returned (.int .i64 (sml n)) ∧ w' = w := by
  go_enter Try.func39, Try.ntmps39
  go_wp2
  go_ret
  exact ⟨rfl, rfl⟩
theorem rlayer_calls (op : Int) (w : World) : Calls Try.prog 35 #[.int .i64 op] w fun e w' => e = .returned (.int .i64 (lyr op)) ∧ w' = w := by
  by_cases h1 : op = 1
  · subst h1
    go_enter Try.func35, Try.ntmps35
    go_wp2
    go_ret
    exact ⟨rfl, rfl⟩
  · by_cases h2 : op = 2
    · subst h2
      go_enter Try.func35, Try.ntmps35
      go_wp2
      go_ret
      exact ⟨rfl, rfl⟩
    · by_cases h3 : op = 3
      · subst h3
        go_enter Try.func35, Try.ntmps35
        go_wp2
        go_ret
        exact ⟨rfl, rfl⟩
      · by_cases h4 : op = 4
        · subst h4
          go_enter Try.func35, Try.ntmps35
          go_wp2
          go_ret
          exact ⟨rfl, rfl⟩
        · have e : lyr op = 0 := by
            unfold lyr
            rw [if_neg (by omega), if_neg h3, if_neg h4]
          rw [e]
          have k1 : (op == 1) = false := beq_eq_false_iff_ne.2 h1
          have k2 : (op == 2) = false := beq_eq_false_iff_ne.2 h2
          have k3 : (op == 3) = false := beq_eq_false_iff_ne.2 h3
          have k4 : (op == 4) = false := beq_eq_false_iff_ne.2 h4
          clear h1 h2 h3 h4 e
          go_enter Try.func35, Try.ntmps35
          go_wp2
          go_ret
          exact ⟨rfl, rfl⟩
set_option maxHeartbeats 8000000 in
set_option maxRecDepth 100000 in
theorem rfits_calls (who : Int) (o b : Ov) (w : World) : Calls Try.prog 34 #[.int .i64 who, .agg o.arr, .agg b.arr] w fun e w' => e = .returned (.bool (fitB who o.id o.ctrl b.id b.ctrl)) ∧ Gr w w' := by
  obtain ⟨o0, o1, o2, o3, o4, o5, o6, o7, o8, o9, o10, o11, o12, o13, o14, o15⟩ := o
  obtain ⟨b0, b1, b2, b3, b4, b5, b6, b7, b8, b9, b10, b11, b12, b13, b14, b15⟩ := b
  simp only [Ov.arr]
  have fin : ∀ A B, Gr w ((w.alloc A).alloc B) := fun A B => (Gr.refl _).alloc _ |>.alloc _
  have FIN : Aside _ := fin
  clear fin
  obtain ⟨r, hr⟩ : ∃ r, fitB who o0 o3 b0 b3 = r := ⟨_, rfl⟩
  rw [hr]
  have HR : Hid _ := hr
  clear hr
  go_enter Try.func34, Try.ntmps34
  cases h1 : (o0 == b0) <;> cases h2 : (o3 == b3) <;> cases k0 : (who == 0) <;> cases k1 : (who == 1) <;> cases k2 : (who == 2) <;> cases k3 : (who == 3)
  all_goals first | (exfalso; simp only [beq_iff_eq] at k0 k1 k2 k3; omega) | skip
  all_goals
    have er := HR.out
    simp only [fitB, h1, h2, k0, k1, k2, k3] at er
    subst er
    clear HR
    have n1 : ∀ c, (o0 == b0) = c → (o0 != b0) = !c := fun c hc => by rw [← hc]; rfl
    have n2 := n1 _ h1
    clear n1
    go_wp2
    go_returns
    exact ⟨rfl, FIN.out _ _⟩
end Go.Proofs.Ytgbhmkdldfhamaa.charsOf
/-
  Chapter 14: the answer's Find, walked.
-/
namespace Go.Proofs.Ytgbhmkdldfhamaa.charsOf
open Go.Shelf Go.RowKit Go.Lib Go.Sort
set_option maxHeartbeats 4000000 in
set_option maxRecDepth 100000 in
theorem rfind_calls {P : Program} {k32 k56 k54 : Nat} {y56 y54 : List Value} (L : LayC P k32 k56 k54 y56 y54) (f32 : P.funcs[32]? = some Try.f32) (SL : List Value) (oa : Option Addr) (ids : List Int) (oc : Nat) (q1 : SL[1]? = some (.slice oa ids.length oc)) (hl : ids.length < 4611686018427387904) (id : Int) (w : World)
    (hO : ∀ i, i < ids.length → ∃ B O, oa = some ⟨B, O, none⟩ ∧ ∀ W, Gr w W → W.cell? ⟨B, O + i * k56, none⟩ = some (.int .i64 ids[i]!)) :
    Calls P 32 #[.agg SL.toArray, .int .i64 id] w fun e w' => e = .returned (.int .i64 (fnd id ids 0)) ∧ Gr w w' := by
  have t3 := L.t3; have a3 := L.a3; have z3 := L.z3; have a56 := L.a56; have z56 := L.z56; have u56 := run_underlying L.t56; have t24 := L.t24; have a24 := L.a24; have z24 := L.z24; have u32 := run_underlying L.t32; have a32 := L.a32; have z32 := L.z32
  have cb := hold_cell (hold_new w SL 32) q1
  have G0 : Aside (Gr w (w.alloc (.cells SL.toArray 32))) := (Gr.refl _).alloc _
  have HO : Aside _ := hO
  clear hO
  go_enter f32, Try.ntmps32
  go_wp2
  generalize w.alloc (.cells SL.toArray 32) = W at cb G0 ⊢
  go_loopg [5] ids.length (fun kx s5 wr => ∃ i : Nat, s5 = .int .i64 i ∧ i ≤ ids.length ∧ ids.length - i ≤ kx ∧ wr = W ∧ Hid (∀ j, j < i → ids[j]! ≠ id))
  case atStart => exact ⟨0, rfl, Nat.zero_le _, Nat.le_refl _, rfl, fun j hj => by omega⟩
  case round =>
    obtain ⟨i, rfl, hid, hkx, rfl, HE⟩ := hrel
    by_cases hlt : i < ids.length
    · have hltz : (i : Int) < (ids.length : Int) := by omega
      have wi : IntKind.i64.wrap ((i : Int) + 1) = (i : Int) + 1 := by rw [IntKind.wrap_i64]; omega
      obtain ⟨B, O, rfl, h⟩ := HO.out i hlt
      have c0 := h _ G0.out
      clear h
      obtain ⟨x, hx⟩ : ∃ x, ids[i]! = x := ⟨_, rfl⟩
      rw [hx] at c0
      have HL : Hid (ids[i]! = x) := hx
      clear hx
      cases hq : (x == id) with
      | true =>
        go_wp2
        go_returns
        refine ⟨?_, G0.out⟩
        rw [fnd_some (k := i) hlt (by rw [HL.out]; exact of_decide_eq_true hq) HE.out]
        simp
      | false =>
        go_wp2
        go_roundg (ids.length - (i + 1))
        case measure => omega
        case rel =>
          refine ⟨i + 1, by first | rfl | go_num, by omega, Nat.le_refl _, rfl, fun j hj => ?_⟩
          rcases Nat.lt_or_ge j i with h | h
          · exact HE.out j h
          · rw [show j = i by omega, HL.out]
            exact of_decide_eq_false hq
    · have hltz : ¬ (i : Int) < (ids.length : Int) := by omega
      go_wp2
      go_returns
      refine ⟨?_, G0.out⟩
      rw [fnd_none fun j hj => HE.out j (by omega)]
      rfl
end Go.Proofs.Ytgbhmkdldfhamaa.charsOf
/-
  Chapter 14: the answer's card, walked.
-/
namespace Go.Proofs.Ytgbhmkdldfhamaa.charsOf
open Go.Shelf Go.RowKit Go.Lib Go.Sort
/-- What the answer's functions need of the program besides. -/
structure LayR (P : Program) : Prop where
  z9 : ∀ w, (Go.sizeOf 9).run P w = .ok 1 w
  z51 : ∀ w, (Go.sizeOf 51).run P w = .ok 4 w
  z52 : ∀ w, (Go.sizeOf 52).run P w = .ok 1 w
  t69 : P.underlying 69 = some (.tuple #[56, 4])
  f11 : P.funcs[11]? = some Try.f11
  f14 : P.funcs[14]? = some Try.f14
  f22 : P.funcs[22]? = some Try.f22
  f32 : P.funcs[32]? = some Try.f32
  f33 : P.funcs[33]? = some Try.f33
  e14 : ∀ args w, (callFunc 14 args).run P w = .ok (.enter 14 args) w
  e22 : ∀ args w, (callFunc 22 args).run P w = .ok (.enter 22 args) w
  e23 : ∀ args w, (callFunc 23 args).run P w = .ok (.enter 23 args) w
  e32 : ∀ args w, (callFunc 32 args).run P w = .ok (.enter 32 args) w
  e33 : ∀ args w, (callFunc 33 args).run P w = .ok (.enter 33 args) w
  e34 : ∀ args w, (callFunc 34 args).run P w = .ok (.enter 34 args) w
  e35 : ∀ args w, (callFunc 35 args).run P w = .ok (.enter 35 args) w
theorem two_boxes (w : World) (A B : List Value) (t u : TypeId) : Gr w ((w.alloc (.cells A.toArray t)).alloc (.cells B.toArray u)) ∧ ((w.alloc (.cells A.toArray t)).alloc (.cells B.toArray u)).heap[w.heap.size]? = some (.cells A.toArray t) ∧ ((w.alloc (.cells A.toArray t)).alloc (.cells B.toArray u)).heap[w.heap.size + 1]? = some (.cells B.toArray u) := by
  refine ⟨(Gr.refl _).alloc _ |>.alloc _, blk_old (blk_new _ _) _, ?_⟩
  have := blk_new (w.alloc (.cells A.toArray t)) (.cells B.toArray u)
  simpa using this
set_option maxHeartbeats 4000000 in
set_option maxRecDepth 100000 in
theorem rcard_none {P : Program} {k32 k56 k54 : Nat} {y56 y54 : List Value} (L : LayC P k32 k56 k54 y56 y54) (R : LayR P) (hy4 : y54.length = k54) (o4 : ∀ v ∈ y54, v.oneCell' = true) (OL : List Value) (cd : Int) (q1 : OL[1]? = some (.int .i64 cd)) (ca : Option Addr) (cn cc : Nat) (w : World) (hz : cd < 0 ∨ (cn : Int) ≤ cd) :
    Calls P 33 #[.slice ca cn cc, .agg OL.toArray] w fun e w' => e = .returned (.tuple #[.agg y54.toArray, .bool false]) ∧ Gr w w' := by
  have t3 := L.t3; have a3 := L.a3; have z3 := L.z3; have a56 := L.a56; have z56 := L.z56; have u56 := run_underlying L.t56; have t22 := L.t22; have a22 := L.a22; have z22 := L.z22; have u54 := run_underlying L.t54; have a54 := L.a54; have z54 := L.z54; have v54 := L.v54; have z9 := R.z9; have z51 := R.z51; have z52 := R.z52
  obtain ⟨g, b3, b4⟩ := two_boxes w OL y54 56 54
  have c1 := hold_cell (blk_hold b3) q1
  have sA := hold_st P (blk_hold b4) y54 rfl o4
  have qA := hold_ld P (hold_put (blk_hold b4) y54 rfl) hy4
  have G : Aside (Gr w (((w.alloc (.cells OL.toArray 56)).alloc (.cells y54.toArray 54)).setCells (w.heap.size + 1) 0 y54)) := Gr.sets (W := w) _ (Nat.le_succ _) _ _ g
  clear g b3 b4
  by_cases h : cd < 0
  · have hd : decide (cd < 0) = true := decide_eq_true h
    go_enter R.f33, Try.ntmps33
    go_wp2
    generalize ((w.alloc (.cells OL.toArray 56)).alloc (.cells y54.toArray 54)).setCells (w.heap.size + 1) 0 y54 = W at qA G ⊢
    refine bodyPost_ret (v := .tuple #[.agg y54.toArray, .bool false]) (by simp [results, go_sem, Try.results33, a54, z54, qA]) rfl ?_
    exact ⟨rfl, G.out⟩
  · have hd : decide (cd < 0) = false := decide_eq_false h
    have he : decide (cd ≥ (cn : Int)) = true := decide_eq_true (by omega)
    go_enter R.f33, Try.ntmps33
    go_wp2
    generalize ((w.alloc (.cells OL.toArray 56)).alloc (.cells y54.toArray 54)).setCells (w.heap.size + 1) 0 y54 = W at qA G ⊢
    refine bodyPost_ret (v := .tuple #[.agg y54.toArray, .bool false]) (by simp [results, go_sem, Try.results33, a54, z54, qA]) rfl ?_
    exact ⟨rfl, G.out⟩
set_option maxHeartbeats 4000000 in
set_option maxRecDepth 100000 in
theorem rcard_some {P : Program} {k32 k56 k54 : Nat} {y56 y54 : List Value} (L : LayC P k32 k56 k54 y56 y54) (R : LayR P) (hy4 : y54.length = k54) (OL : List Value) (cd : Nat) (q1 : OL[1]? = some (.int .i64 cd)) (B O cn cc : Nat) (hz : cd < cn) (Cd : List Value) (hC : Cd.length = k54) (oC : ∀ v ∈ Cd, v.oneCell' = true) (w : World)
    (hl : ∀ W, Gr w W → Sem.run P (loadCellsFrom ⟨B, O + cd * k54, none⟩ 0 k54 #[]) W = .ok Cd.toArray W) :
    Calls P 33 #[.slice (some ⟨B, O, none⟩) cn cc, .agg OL.toArray] w fun e w' => e = .returned (.tuple #[.agg Cd.toArray, .bool true]) ∧ Gr w w' := by
  have t3 := L.t3; have a3 := L.a3; have z3 := L.z3; have a56 := L.a56; have z56 := L.z56; have u56 := run_underlying L.t56; have t22 := L.t22; have a22 := L.a22; have z22 := L.z22; have u54 := run_underlying L.t54; have a54 := L.a54; have z54 := L.z54; have v54 := L.v54
  obtain ⟨g, b3, b4⟩ := two_boxes w OL y54 56 54
  have c1 := hold_cell (blk_hold b3) q1
  have lC := hl _ g
  have sA := hold_st P (blk_hold b4) Cd (hC.trans hy4.symm) oC
  have qA := hold_ld P (hold_put (blk_hold b4) Cd (hC.trans hy4.symm)) hC
  have G : Aside (Gr w (((w.alloc (.cells OL.toArray 56)).alloc (.cells y54.toArray 54)).setCells (w.heap.size + 1) 0 Cd)) := Gr.sets (W := w) _ (Nat.le_succ _) _ _ g
  clear g b3 b4 hl
  have hd : decide ((cd : Int) < 0) = false := decide_eq_false (by omega)
  have he : decide ((cd : Int) ≥ (cn : Int)) = false := decide_eq_false (by omega)
  have hzz : (cd : Int) < (cn : Int) := by omega
  go_enter R.f33, Try.ntmps33
  go_wp2
  generalize ((w.alloc (.cells OL.toArray 56)).alloc (.cells y54.toArray 54)).setCells (w.heap.size + 1) 0 Cd = W at qA G ⊢
  refine bodyPost_ret (v := .tuple #[.agg Cd.toArray, .bool true]) (by simp [results, go_sem, Try.results33, a54, z54, qA]) rfl ?_
  exact ⟨rfl, G.out⟩
end Go.Proofs.Ytgbhmkdldfhamaa.charsOf
/-
  Chapter 14: the answer's Beast, walked.
-/
namespace Go.Proofs.Ytgbhmkdldfhamaa.charsOf
open Go.Shelf Go.RowKit Go.Lib Go.Sort
/-- A box and a result's box, later. -/
structure Bz (w : World) (A B : List Value) (t u : TypeId) (W : World) : Prop where
  g : Gr w W
  a : W.heap[w.heap.size]? = some (.cells A.toArray t)
  b : W.heap[w.heap.size + 1]? = some (.cells B.toArray u)
theorem Bz.new (w : World) (A B : List Value) (t u : TypeId) : Bz w A B t u ((w.alloc (.cells A.toArray t)).alloc (.cells B.toArray u)) := by
  obtain ⟨g, a, b⟩ := two_boxes w A B t u
  exact ⟨g, a, b⟩
theorem Bz.gr {w W W' : World} {A B : List Value} {t u : TypeId} (h : Bz w A B t u W) (g : Gr W W') : Bz w A B t u W' := ⟨Gr.trans h.g g, blk_gr h.a g, blk_gr h.b g⟩
set_option maxHeartbeats 4000000 in
set_option maxRecDepth 100000 in
theorem beast_none {P : Program} {k32 k56 k54 : Nat} {y56 y54 : List Value} (L : LayC P k32 k56 k54 y56 y54) (R : LayR P) (hy6 : y56.length = k56) (o6 : ∀ v ∈ y56, v.oneCell' = true) (SL : List Value) (hS : SL.length = k32) (ca : Option Addr) (cn cc : Nat) (id : Int) (w : World) (fa : Option Addr) (fs : List Int) (fc : Nat) (q6 : SL[6]? = some (.slice fa fs.length fc)) (hfn : fs.length ≤ 900)
    (hF : ∀ i, i < fs.length → ∃ B O, fa = some ⟨B, O, none⟩ ∧ ∀ W, Gr w W → W.cell? ⟨B, O + i, none⟩ = some (.int .i64 fs[i]!))
    (k : Int) (h32 : ∀ W, Gr w W → Calls P 32 #[.agg SL.toArray, .int .i64 id] W fun e w' => e = .returned (.int .i64 k) ∧ Gr W w') (hz : k < 0 ∨ ∀ i, i < fs.length → fs[i]! ≠ id) :
    Calls P 22 #[.slice ca cn cc, .agg SL.toArray, .int .i64 id] w fun e w' => e = .returned (.tuple #[.agg y56.toArray, .bool false]) ∧ Gr w w' := by
  have mixed := L.mixed; have t3 := L.t3; have a3 := L.a3; have z3 := L.z3; have t4 := L.t4; have a4 := L.a4; have z4 := L.z4; have a56 := L.a56; have z56 := L.z56; have v56 := L.v56; have u56 := run_underlying L.t56; have t24 := L.t24; have a24 := L.a24; have z24 := L.z24; have t26 := L.t26; have a26 := L.a26; have z26 := L.z26; have u32 := run_underlying L.t32; have a32 := L.a32; have z32 := L.z32; have t22 := L.t22; have a22 := L.a22; have z22 := L.z22; have u54 := run_underlying L.t54; have a54 := L.a54; have z54 := L.z54; have v54 := L.v54; have t40 := L.t40; have a40 := L.a40; have z40 := L.z40
  have e32 := R.e32; have e33 := R.e33
  have B0 : Aside _ := Bz.new w SL y56 32 56
  have HF : Aside _ := hF
  have H32 : Aside _ := h32
  clear hF h32
  go_enter R.f22, Try.ntmps22
  go_wp2
  generalize ((w.alloc (.cells SL.toArray 32)).alloc (.cells y56.toArray 56)) = W at B0 ⊢
  go_loopg [8] fs.length (fun kx s8 wr => ∃ i : Nat, s8 = .int .i64 i ∧ i ≤ fs.length ∧ fs.length - i ≤ kx ∧ Aside (Bz w SL y56 32 56 wr))
  case atStart => exact ⟨0, rfl, Nat.zero_le _, Nat.le_refl _, B0⟩
  case round =>
    clear B0
    obtain ⟨i, rfl, hid, hkx, B1⟩ := hrel
    have wi : IntKind.i64.wrap ((i : Int) + 1) = (i : Int) + 1 := by rw [IntKind.wrap_i64]; omega
    have c6 := hold_cell (blk_hold B1.out.a) q6
    by_cases hlt : i < fs.length
    · have hltz : (i : Int) < (fs.length : Int) := by omega
      obtain ⟨B, O, rfl, h⟩ := HF.out i hlt
      have l4 := hold_ld P (blk_hold B1.out.a) hS
      obtain ⟨x, hx⟩ : ∃ x, fs[i]! = x := ⟨_, rfl⟩
      rw [hx] at h
      have HH : Aside _ := h
      have hzx : (x == id) = false ∨ k < 0 := hz.elim .inr fun h => .inl (beq_eq_false_iff_ne.2 (by rw [← hx]; exact h i hlt))
      clear h hx hz
      cases hq : (x == id) with
      | false =>
        have hn : (x != id) = true := by rw [bne, hq]; rfl
        clear hzx
        go_wp2_with (go_at_fn 32; refine (H32.out _ B1.out.g).mono ?_; rintro e w2 ⟨rfl, hG⟩; have B2 : Aside _ := B1.out.gr hG; have c6' := hold_cell (blk_hold B2.out.a) q6; have cF := HH.out w2 B2.out.g; clear hG l4 c6)
        go_roundg (fs.length - (i + 1))
        case measure => omega
        case rel => exact ⟨i + 1, by first | rfl | go_num, by omega, Nat.le_refl _, B2⟩
      | true =>
        have hk : k < 0 := hzx.resolve_left (by rw [hq]; exact Bool.noConfusion)
        have hn : (x != id) = false := by rw [bne, hq]; rfl
        have hkd : decide (k < 0) = true := decide_eq_true hk
        clear hzx hk
        go_wp2_with (go_at_fn 32; refine (H32.out _ B1.out.g).mono ?_; rintro e w2 ⟨rfl, hG⟩; have B2 : Aside _ := B1.out.gr hG; have c6' := hold_cell (blk_hold B2.out.a) q6; have cF := HH.out w2 B2.out.g; clear hG l4 c6)
        go_roundg (fs.length - (i + 1))
        case measure => omega
        case rel => exact ⟨i + 1, by first | rfl | go_num, by omega, Nat.le_refl _, B2⟩
    · have hltz : ¬ (i : Int) < (fs.length : Int) := by omega
      have b4 := blk_hold B1.out.b
      have sA := hold_st P b4 y56 rfl o6
      have qA := hold_ld P (hold_put b4 y56 rfl) hy6
      have G : Aside (Gr w (wr.setCells (w.heap.size + 1) 0 y56)) := Gr.sets (W := w) _ (Nat.le_succ _) _ _ B1.out.g
      clear b4 B1
      go_wp2
      generalize wr.setCells (w.heap.size + 1) 0 y56 = W4 at qA G ⊢
      refine bodyPost_ret (v := .tuple #[.agg y56.toArray, .bool false]) (by simp [results, go_sem, Try.results22, a56, z56, qA]) rfl ?_
      exact ⟨rfl, G.out⟩
end Go.Proofs.Ytgbhmkdldfhamaa.charsOf
/-
  Chapter 14: the answer's Beast, walked: an object on the field.
-/
namespace Go.Proofs.Ytgbhmkdldfhamaa.charsOf
open Go.Shelf Go.RowKit Go.Lib Go.Sort
set_option maxHeartbeats 4000000 in
set_option maxRecDepth 100000 in
theorem beast_at {P : Program} {k32 k56 k54 : Nat} {y56 y54 : List Value} (L : LayC P k32 k56 k54 y56 y54) (R : LayR P) (hy6 : y56.length = k56) (SL : List Value) (hS : SL.length = k32) (ca : Option Addr) (cn cc : Nat) (id : Int) (w : World) (fa : Option Addr) (fs : List Int) (fc : Nat) (q6 : SL[6]? = some (.slice fa fs.length fc)) (hfn : fs.length ≤ 900)
    (hF : ∀ i, i < fs.length → ∃ B O, fa = some ⟨B, O, none⟩ ∧ ∀ W, Gr w W → W.cell? ⟨B, O + i, none⟩ = some (.int .i64 fs[i]!))
    (k : Nat) (h32 : ∀ W, Gr w W → Calls P 32 #[.agg SL.toArray, .int .i64 id] W fun e w' => e = .returned (.int .i64 k) ∧ Gr W w') (oB oO on oc : Nat) (q1 : SL[1]? = some (.slice (some ⟨oB, oO, none⟩) on oc)) (hk : k < on) (OL : List Value) (hO : OL.length = k56) (oO' : ∀ v ∈ OL, v.oneCell' = true)
    (hX : ∀ W, Gr w W → Sem.run P (loadCellsFrom ⟨oB, oO + k * k56, none⟩ 0 k56 #[]) W = .ok OL.toArray W) (Cl : List Value) (hC : Cl.length = k54) (hy4 : y54.length = k54) (oC : ∀ v ∈ Cl, v.oneCell' = true) (is : Bool) (kd : Int) (qk : Cl[1]? = some (.int .i64 kd))
    (h33 : ∀ W, Gr w W → Calls P 33 #[.slice ca cn cc, .agg OL.toArray] W fun e w' => e = .returned (.tuple #[.agg Cl.toArray, .bool is]) ∧ Gr W w') (i0 : Nat) (hi0 : i0 < fs.length) (hi1 : fs[i0]! = id) :
    Calls P 22 #[.slice ca cn cc, .agg SL.toArray, .int .i64 id] w fun e w' => e = .returned (.tuple #[.agg OL.toArray, .bool (is && (kd == 2))]) ∧ Gr w w' := by
  have mixed := L.mixed; have t3 := L.t3; have a3 := L.a3; have z3 := L.z3; have t4 := L.t4; have a4 := L.a4; have z4 := L.z4; have a56 := L.a56; have z56 := L.z56; have v56 := L.v56; have u56 := run_underlying L.t56; have t24 := L.t24; have a24 := L.a24; have z24 := L.z24; have t26 := L.t26; have a26 := L.a26; have z26 := L.z26; have u32 := run_underlying L.t32; have a32 := L.a32; have z32 := L.z32; have t22 := L.t22; have a22 := L.a22; have z22 := L.z22; have u54 := run_underlying L.t54; have a54 := L.a54; have z54 := L.z54; have v54 := L.v54; have t40 := L.t40; have a40 := L.a40; have z40 := L.z40
  have e32 := R.e32; have e33 := R.e33
  have B0 : Aside _ := Bz.new w SL y56 32 56
  have HF : Aside _ := hF
  have H32 : Aside _ := h32
  have H33 : Aside _ := h33
  have HX : Aside _ := hX
  have HI : Aside (i0 < fs.length ∧ fs[i0]! = id) := ⟨hi0, hi1⟩
  clear hF h32 h33 hX hi0 hi1
  go_enter R.f22, Try.ntmps22
  go_wp2
  generalize ((w.alloc (.cells SL.toArray 32)).alloc (.cells y56.toArray 56)) = W at B0 ⊢
  go_loopg [8] fs.length (fun kx s8 wr => ∃ i : Nat, s8 = .int .i64 i ∧ i ≤ fs.length ∧ fs.length - i ≤ kx ∧ Aside (Bz w SL y56 32 56 wr) ∧ Hid (∀ j, j < i → fs[j]! ≠ id))
  case atStart => exact ⟨0, rfl, Nat.zero_le _, Nat.le_refl _, B0, fun j hj => by omega⟩
  case round =>
    clear B0
    obtain ⟨i, rfl, hid, hkx, B1, HN⟩ := hrel
    have wi : IntKind.i64.wrap ((i : Int) + 1) = (i : Int) + 1 := by rw [IntKind.wrap_i64]; omega
    have c6 := hold_cell (blk_hold B1.out.a) q6
    by_cases hlt : i < fs.length
    · have hltz : (i : Int) < (fs.length : Int) := by omega
      obtain ⟨B, O, rfl, h⟩ := HF.out i hlt
      have l4 := hold_ld P (blk_hold B1.out.a) hS
      obtain ⟨x, hx⟩ : ∃ x, fs[i]! = x := ⟨_, rfl⟩
      rw [hx] at h
      have HH : Aside _ := h
      have HXI : Hid (fs[i]! = x) := hx
      clear h hx
      cases hq : (x == id) with
      | false =>
        have hn : (x != id) = true := by rw [bne, hq]; rfl
        go_wp2_with (go_at_fn 32; refine (H32.out _ B1.out.g).mono ?_; rintro e w2 ⟨rfl, hG⟩; have B2 : Aside _ := B1.out.gr hG; have c6' := hold_cell (blk_hold B2.out.a) q6; have cF := HH.out w2 B2.out.g; clear hG l4 c6)
        go_roundg (fs.length - (i + 1))
        case measure => omega
        case rel => exact ⟨i + 1, by first | rfl | go_num, by omega, Nat.le_refl _, B2, fun j hj => by
          rcases Nat.lt_or_ge j i with h | h
          · exact HN.out j h
          · rw [show j = i by omega, HXI.out]
            exact of_decide_eq_false hq⟩
      | true =>
        have hn : (x != id) = false := by rw [bne, hq]; rfl
        have hkd : decide ((k : Int) < 0) = false := decide_eq_false (by omega)
        have hkz : (k : Int) < (on : Int) := by omega
        go_upto_region 7 with (first
          | (go_at_fn 32; refine (H32.out _ B1.out.g).mono ?_; rintro e w2 ⟨rfl, hG⟩; have B2 : Aside _ := B1.out.gr hG; have c6' := hold_cell (blk_hold B2.out.a) q6; have c1' := hold_cell (blk_hold B2.out.a) q1; have lX := HX.out w2 B2.out.g; have cF := HH.out w2 B2.out.g; clear hG l4 c6)
          | (go_at_fn 33; refine (H33.out _ B2.out.g).mono ?_; rintro e w3 ⟨rfl, hG⟩; have B3 : Aside _ := B2.out.gr hG; clear hG c6' c1' lX cF; have sA := hold_st P (hold_new w3 y54 54) Cl (hC.trans hy4.symm) oC))
        have g5 : Gr w3 ((w3.alloc (.cells y54.toArray 54)).setCells w3.heap.size 0 Cl) := Gr.sets (W := w3) _ (Nat.le_refl _) _ _ ((Gr.refl _).alloc _)
        have B5 := (B3.out.gr g5).gr ((Gr.refl _).drew)
        have bC : ((w3.alloc (.cells y54.toArray 54)).setCells w3.heap.size 0 Cl).drew.heap[w3.heap.size]? = some (.cells Cl.toArray 54) := blk_put (blk_new w3 (.cells y54.toArray 54)) Cl (hC.trans hy4.symm)
        have hne : w3.heap.size ≠ w.heap.size + 1 := by have := blk_lt B3.out.b; omega
        clear sA g5 B2 B3 H32 H33 HF HH wi
        generalize hW5 : (w3.alloc (.cells y54.toArray 54)).setCells w3.heap.size 0 Cl = W5 at B5 bC ⊢
        clear hW5
        have c1 := hold_cell (blk_hold B5.a) q1
        have lX := HX.out _ B5.g
        have ck := hold_cell (blk_hold bC) qk
        have b6 := blk_hold B5.b
        have sA := hold_st P b6 OL (hO.trans hy6.symm) oO'
        have ck2 : (W5.drew.setCells (w.heap.size + 1) 0 OL).cell? ⟨w3.heap.size, 1, none⟩ = some (.int .i64 kd) := hold_cell (blk_hold (by rw [sets_other hne]; exact bC)) qk
        have qA := hold_ld P (hold_put b6 OL (hO.trans hy6.symm)) hO
        have G : Aside (Gr w (W5.drew.setCells (w.heap.size + 1) 0 OL)) := Gr.sets (W := w) _ (Nat.le_succ _) _ _ B5.g
        clear B5 bC b6 hne HX
        cases is with
        | false =>
          go_big_region_o
          clear c1 lX ck sA ck2
          generalize W5.drew.setCells (w.heap.size + 1) 0 OL = W6 at qA G ⊢
          go_wp2
          refine bodyPost_ret (v := .tuple #[.agg OL.toArray, .bool (false)]) (by simp [results, go_sem, Try.results22, a56, z56, qA]) rfl ?_
          exact ⟨rfl, G.out⟩
        | true =>
          go_big_region_o
          clear c1 lX ck sA ck2
          generalize W5.drew.setCells (w.heap.size + 1) 0 OL = W6 at qA G ⊢
          go_wp2
          refine bodyPost_ret (v := .tuple #[.agg OL.toArray, .bool (kd == 2)]) (by simp [results, go_sem, Try.results22, a56, z56, qA]) rfl ?_
          exact ⟨rfl, G.out⟩
    · exfalso
      exact HN.out i0 (by have := HI.out.1; omega) HI.out.2
end Go.Proofs.Ytgbhmkdldfhamaa.charsOf
/-
  Chapter 14: the answer's Fold, walked.
-/
namespace Go.Proofs.Ytgbhmkdldfhamaa.charsOf
open Go.Shelf Go.RowKit Go.Lib Go.Sort
theorem stepE_1 {x : Ef} (h : x.1 = 1) (v : Int × Int × Int) : stepE x v = (v.1, v.2.1, bits .or .i64 v.2.2 x.2.1) := by
  unfold stepE
  rw [if_pos h]
theorem stepE_2 {x : Ef} (h : x.1 = 2) (v : Int × Int × Int) : stepE x v = (v.1, v.2.1, bits .andNot .i64 v.2.2 x.2.1) := by
  unfold stepE
  rw [if_neg (by omega), if_pos h]
theorem stepE_3 {x : Ef} (h : x.1 = 3) (v : Int × Int × Int) : stepE x v = (sml x.2.1, sml x.2.2.1, v.2.2) := by
  unfold stepE
  rw [if_neg (by omega), if_neg (by omega), if_pos h]
theorem stepE_4 {x : Ef} (h : x.1 = 4) (v : Int × Int × Int) : stepE x v = (wrap64 (v.1 + sml x.2.1), wrap64 (v.2.1 + sml x.2.2.1), v.2.2) := by
  unfold stepE
  rw [if_neg (by omega), if_neg (by omega), if_neg (by omega), if_pos h]
theorem stepE_0 {x : Ef} (h : x.1 ≠ 1 ∧ x.1 ≠ 2 ∧ x.1 ≠ 3 ∧ x.1 ≠ 4) (v : Int × Int × Int) : stepE x v = v := by
  unfold stepE
  rw [if_neg h.1, if_neg h.2.1, if_neg h.2.2.1, if_neg h.2.2.2]
theorem do_end4 {w : World} {b : Nat} {p t k : Int} (hb : w.heap[b]? = some (.cells (encV (p, t, k)).toArray 36)) (y : Int) : w.grownBy (w.setCell ⟨b, 2, none⟩ (.int .i64 y)) (some b) ∧ (w.setCell ⟨b, 2, none⟩ (.int .i64 y)).heap[b]? = some (.cells (encV (p, t, y)).toArray 36) := by
  have h1 : (w.setCell ⟨b, 2, none⟩ (.int .i64 y)).heap[b]? = some (.cells (encV (p, t, y)).toArray 36) := by
    simp only [World.setCell, Array.getElem?_modify, hb, encV]
    simp
  refine ⟨⟨rfl, rfl, rfl, ?_, fun j hj hn => ?_⟩, h1⟩
  · simp only [World.size_setCell]
    omega
  · rw [Below.heap_setCell _ _ _ _ (fun e => hn (by rw [e]))]
set_option maxHeartbeats 4000000 in
set_option maxRecDepth 100000 in
theorem rfold_calls (v : Int × Int × Int) (R : List Ef) (a : Option Addr) (c : Nat) (w : World) (hl : R.length ≤ 1000000) (hR : R = [] ∨ ∃ g o, a = some ⟨g, o, none⟩ ∧ g < w.heap.size ∧ HoldsK encE 4 w g o R.toArray) :
    Calls Try.prog 23 #[.agg (encV v).toArray, .slice a R.length c] w fun e w' => e = .returned (.agg (encV (foldE R v)).toArray) ∧ Below w.heap.size w w' := by
  have mixed := mixedT
  obtain ⟨p, t, k⟩ := v
  have S0 := Fo.start w (p, t, k)
  simp only [encV] at S0 ⊢
  have SS : Aside _ := S0
  have HR : Aside _ := hR
  clear S0 hR
  go_enter Try.func23, Try.ntmps23
  go_upto_region 1 with fail
  generalize ((w.alloc (.cells #[.int .i64 p, .int .i64 t, .int .i64 k] 36)).alloc (.cells #[.int .i64 0, .int .i64 0, .int .i64 0] 36)) = W at SS ⊢
  obtain ⟨c0, f0⟩ := blk_hold SS.out.v 0 (by simp [encV])
  obtain ⟨c1, f1⟩ := blk_hold SS.out.v 1 (by simp [encV])
  change World.cell? _ ⟨w.heap.size, 0, none⟩ = some (.int .i64 p) at c0
  change World.frozen? _ ⟨w.heap.size, 0, none⟩ = false at f0
  change World.cell? _ ⟨w.heap.size, 1, none⟩ = some (.int .i64 t) at c1
  change World.frozen? _ ⟨w.heap.size, 1, none⟩ = false at f1
  go_wp2_with (go_at_call 39; refine (rsmall_calls _ _).mono ?_; rintro e w' ⟨rfl, hw⟩; have hw := hw.symm; subst hw)
  have F1 : Fo w (finE (p, t, k)) ((W.setCell ⟨w.heap.size, 0, none⟩ (.int .i64 (sml p))).setCell ⟨w.heap.size, 1, none⟩ (.int .i64 (sml t))) := by
    have := do_end3 SS.out.v (sml p) (sml t)
    exact SS.out.own this.1 this.2
  clear c0 c1 f0 f1 SS
  generalize ((W.setCell ⟨w.heap.size, 0, none⟩ (.int .i64 (sml p))).setCell ⟨w.heap.size, 1, none⟩ (.int .i64 (sml t))) = W1 at F1 ⊢
  have FA : Aside _ := F1
  clear F1
  go_loopg [5] R.length (fun kx s5 wr => ∃ (i : Nat), s5 = .int .i64 i ∧ i ≤ R.length ∧ R.length - i ≤ kx ∧ Aside (Fo w (runE (R.take i) (finE (p, t, k))) wr))
  case atStart => exact ⟨0, rfl, Nat.zero_le _, Nat.le_refl _, FA⟩
  case round =>
    clear FA
    obtain ⟨i, rfl, hid, hkx, A1⟩ := hrel
    have wj : IntKind.i64.wrap ((i : Int) + 1) = (i : Int) + 1 := by rw [IntKind.wrap_i64]; omega
    by_cases hlt : i < R.length
    · have hltz : (i : Int) < (R.length : Int) := by omega
      have hne : R ≠ [] := by rintro rfl; simp at hlt
      obtain ⟨g, o, rfl, hg, hH⟩ := HR.out.resolve_left hne
      have h2 := holds_below hH A1.out.b hg
      have oo := fun c (hc : c < 4) => HoldsK.cell h2 (i := i) (by simpa using hlt) (c := c) hc
      have hT : R.take (i + 1) = R.take i ++ [R[i]] := List.take_succ_eq_append_getElem hlt
      obtain ⟨x, hx⟩ : ∃ x, x = R[i] := ⟨_, rfl⟩
      rw [← hx] at hT
      have hx2 : R.toArray[i]! = x := by rw [getElem!_pos R.toArray i (by simpa using hlt), hx]; simp
      rw [hx2] at oo
      obtain ⟨x0, x1, x2, x3⟩ := x
      have HT : Hid _ := (show runE (R.take (i + 1)) (finE (p, t, k)) = stepE (x0, x1, x2, x3) (runE (R.take i) (finE (p, t, k))) by rw [hT, runE_snoc])
      have hgb : g ≠ w.heap.size := Nat.ne_of_lt hg
      clear hT hx hx2 h2 hH hne hg
      obtain ⟨o0, _⟩ : wr.cell? ⟨g, o + i * 4, none⟩ = some (.int .i64 x0) ∧ _ := oo 0 (by omega)
      obtain ⟨o1, _⟩ : wr.cell? ⟨g, o + i * 4 + 1, none⟩ = some (.int .i64 x1) ∧ _ := oo 1 (by omega)
      obtain ⟨o2, _⟩ : wr.cell? ⟨g, o + i * 4 + 2, none⟩ = some (.int .i64 x2) ∧ _ := oo 2 (by omega)
      clear oo
      generalize hv : runE (R.take i) (finE (p, t, k)) = v at A1 HT
      clear hv
      obtain ⟨vp, vt, vk⟩ := v
      obtain ⟨c0, f0⟩ := blk_hold A1.out.v 0 (by simp [encV])
      obtain ⟨c1, f1⟩ := blk_hold A1.out.v 1 (by simp [encV])
      obtain ⟨c2, f2⟩ := blk_hold A1.out.v 2 (by simp [encV])
      change World.cell? _ ⟨w.heap.size, 0, none⟩ = some (.int .i64 vp) at c0
      change World.frozen? _ ⟨w.heap.size, 0, none⟩ = false at f0
      change World.cell? _ ⟨w.heap.size, 1, none⟩ = some (.int .i64 vt) at c1
      change World.frozen? _ ⟨w.heap.size, 1, none⟩ = false at f1
      change World.cell? _ ⟨w.heap.size, 2, none⟩ = some (.int .i64 vk) at c2
      change World.frozen? _ ⟨w.heap.size, 2, none⟩ = false at f2


      by_cases h1 : x0 = 1
      · subst h1
        have hs : Hid _ := stepE_1 (x := (1, x1, x2, x3)) rfl (vp, vt, vk)
        go_wp2_with fail
        go_region
        have F3 : Aside (Fo w _ _) := (fun h => A1.out.own h.1 h.2) (do_drew (do_end4 A1.out.v (bits .or .i64 vk x1)))
        clear c0 c1 c2 f0 f1 f2 o0 o1 o2
        go_wp2
        go_roundg (R.length - (i + 1))
        case measure => omega
        case rel => exact ⟨i + 1, by first | rfl | go_num, by omega, Nat.le_refl _, by rw [HT.out, hs.out]; exact F3⟩
      · skip
        by_cases h2 : x0 = 2
        · subst h2
          have hs : Hid _ := stepE_2 (x := (2, x1, x2, x3)) rfl (vp, vt, vk)
          go_wp2_with fail
          go_region
          have F3 : Aside (Fo w _ _) := (fun h => A1.out.own h.1 h.2) (do_drew (do_end4 A1.out.v (bits .andNot .i64 vk x1)))
          clear c0 c1 c2 f0 f1 f2 o0 o1 o2
          go_wp2
          go_roundg (R.length - (i + 1))
          case measure => omega
          case rel => exact ⟨i + 1, by first | rfl | go_num, by omega, Nat.le_refl _, by rw [HT.out, hs.out]; exact F3⟩
        · skip
          by_cases h3 : x0 = 3
          · subst h3
            have hs : Hid _ := stepE_3 (x := (3, x1, x2, x3)) rfl (vp, vt, vk)
            have hF := do_end3 A1.out.v (sml x1) (sml x2)
            have HFF : Aside _ := hF
            clear hF
            go_wp2_with (first | (go_at_call_of 39 (Value.int IntKind.i64 x1); refine (rsmall_calls _ _).mono ?_; rintro e w' ⟨rfl, hw⟩; have hw := hw.symm; subst hw) | (go_at_call_of 39 (Value.int IntKind.i64 x2); refine (rsmall_calls _ _).mono ?_; rintro e w' ⟨rfl, hw⟩; have hw := hw.symm; subst hw))
            have F3 : Aside (Fo w _ _) := A1.out.own HFF.out.1 HFF.out.2
            clear c0 c1 c2 f0 f1 f2 o0 o1 o2
            go_roundg (R.length - (i + 1))
            case measure => omega
            case rel => exact ⟨i + 1, by first | rfl | go_num, by omega, Nat.le_refl _, by rw [HT.out, hs.out]; exact F3⟩
          · skip
            by_cases h4 : x0 = 4
            · subst h4
              have hs : Hid _ := stepE_4 (x := (4, x1, x2, x3)) rfl (vp, vt, vk)
              go_wp2_with fail
              refine still_tail_drew 9 mixed (by kernel_rfl) ?_
              simp only [List.take_succ_cons, List.take_zero, List.drop_succ_cons, List.drop_zero]
              repeat still_step
              still_call (rsmall_calls x1 _)
              repeat still_step
              refine wpStill_nil ?_
              go_wp2_with fail
              refine still_tail_drew 9 mixed (by kernel_rfl) ?_
              simp only [List.take_succ_cons, List.take_zero, List.drop_succ_cons, List.drop_zero]
              repeat still_step
              still_call (rsmall_calls x2 _)
              repeat still_step
              refine wpStill_nil ?_
              go_wp2_with fail
              have F3 : Aside (Fo w _ _) := (fun h => A1.out.own h.1 h.2) (do_drew (do_drew (do_end3 A1.out.v (wrap64 (vp + sml x1)) (wrap64 (vt + sml x2)))))
              clear c0 c1 c2 f0 f1 f2 o0 o1 o2
              go_roundg (R.length - (i + 1))
              case measure => omega
              case rel => exact ⟨i + 1, by first | rfl | go_num, by omega, Nat.le_refl _, by rw [HT.out, hs.out]; exact F3⟩
            · skip
              have hs : Hid _ := stepE_0 (x := (x0, x1, x2, x3)) ⟨h1, h2, h3, h4⟩ (vp, vt, vk)
              have k1 : (x0 == 1) = false := beq_eq_false_iff_ne.2 h1
              have k2 : (x0 == 2) = false := beq_eq_false_iff_ne.2 h2
              have k3 : (x0 == 3) = false := beq_eq_false_iff_ne.2 h3
              have k4 : (x0 == 4) = false := beq_eq_false_iff_ne.2 h4
              clear h1 h2 h3 h4 c0 c1 c2 f0 f1 f2 o1 o2
              go_wp2
              go_roundg (R.length - (i + 1))
              case measure => omega
              case rel => exact ⟨i + 1, by first | rfl | go_num, by omega, Nat.le_refl _, by rw [HT.out, hs.out]; exact A1⟩
    · have hltz : ¬ (i : Int) < (R.length : Int) := by omega
      obtain rfl : i = R.length := by omega
      have A2 := A1.out
      rw [List.take_length] at A2
      clear A1
      obtain ⟨⟨p2, t2, k2⟩, hv2⟩ : ∃ v2, runE R (finE (p, t, k)) = v2 := ⟨_, rfl⟩
      rw [hv2] at A2
      have HV : Hid (foldE R (p, t, k) = finE (p2, t2, k2)) := (show finE (runE R (finE (p, t, k))) = _ by rw [hv2])
      clear hv2
      obtain ⟨c0, f0⟩ := blk_hold A2.v 0 (by simp [encV])
      obtain ⟨c1, f1⟩ := blk_hold A2.v 1 (by simp [encV])
      change World.cell? _ ⟨w.heap.size, 0, none⟩ = some (.int .i64 p2) at c0
      change World.frozen? _ ⟨w.heap.size, 0, none⟩ = false at f0
      change World.cell? _ ⟨w.heap.size, 1, none⟩ = some (.int .i64 t2) at c1
      change World.frozen? _ ⟨w.heap.size, 1, none⟩ = false at f1
      have HF : Aside _ := do_end3 A2.v (sml p2) (sml t2)
      have SS : Aside _ := A2
      clear A2 hid hkx wj
      go_upto_region 19 with (first | (go_at_call_of 39 (Value.int IntKind.i64 p2); refine (rsmall_calls _ _).mono ?_; rintro e w' ⟨rfl, hw⟩; have hw := hw.symm; subst hw) | (go_at_call_of 39 (Value.int IntKind.i64 t2); refine (rsmall_calls _ _).mono ?_; rintro e w' ⟨rfl, hw⟩; have hw := hw.symm; subst hw))
      have F1 : Fo w (finE (p2, t2, k2)) ((wr.setCell ⟨w.heap.size, 0, none⟩ (.int .i64 (sml p2))).setCell ⟨w.heap.size, 1, none⟩ (.int .i64 (sml t2))) := SS.out.own HF.out.1 HF.out.2
      clear c0 c1 f0 f1 HF SS
      generalize ((wr.setCell ⟨w.heap.size, 0, none⟩ (.int .i64 (sml p2))).setCell ⟨w.heap.size, 1, none⟩ (.int .i64 (sml t2))) = W2 at F1 ⊢
      have d0 : W2.cell? ⟨w.heap.size, 0, none⟩ = some (.int .i64 (sml p2)) := (blk_hold F1.v 0 (by simp [encV])).1
      have d1 : W2.cell? ⟨w.heap.size, 1, none⟩ = some (.int .i64 (sml t2)) := (blk_hold F1.v 1 (by simp [encV])).1
      have d2 : W2.cell? ⟨w.heap.size, 2, none⟩ = some (.int .i64 k2) := (blk_hold F1.v 2 (by simp [encV])).1
      obtain ⟨r0, s0⟩ := blk_hold F1.r 0 (by simp [encV])
      obtain ⟨r1, s1⟩ := blk_hold F1.r 1 (by simp [encV])
      obtain ⟨r2, s2⟩ := blk_hold F1.r 2 (by simp [encV])
      change W2.cell? ⟨w.heap.size + 1, 0, none⟩ = some (.int .i64 0) at r0
      change W2.cell? ⟨w.heap.size + 1, 1, none⟩ = some (.int .i64 0) at r1
      change W2.cell? ⟨w.heap.size + 1, 2, none⟩ = some (.int .i64 0) at r2
      change W2.frozen? ⟨w.heap.size + 1, 0, none⟩ = false at s0
      change W2.frozen? ⟨w.heap.size + 1, 1, none⟩ = false at s1
      change W2.frozen? ⟨w.heap.size + 1, 2, none⟩ = false at s2
      have FF : Aside _ := F1.b
      clear F1
      go_wp2
      refine bodyPost_ret (v := .agg #[.int .i64 (sml p2), .int .i64 (sml t2), .int .i64 k2]) (by simp [results, Try.results23, go_sem, r0, r1, r2]) rfl ?_
      refine ⟨by rw [HV.out]; rfl, ?_⟩
      exact ((FF.out.setCell (p := ⟨w.heap.size + 1, 0, none⟩) (Nat.le_succ _) _).setCell (p := ⟨w.heap.size + 1, 1, none⟩) (Nat.le_succ _) _).setCell (p := ⟨w.heap.size + 1, 2, none⟩) (Nat.le_succ _) _
end Go.Proofs.Ytgbhmkdldfhamaa.charsOf
/-
  Chapter 14: the answer's Of, walked.
-/
namespace Go.Proofs.Ytgbhmkdldfhamaa.charsOf
open Go.Shelf Go.RowKit Go.Lib Go.Sort
set_option maxHeartbeats 4000000 in
set_option maxRecDepth 100000 in
theorem rof_some {P : Program} {k32 k56 k54 : Nat} {y56 y54 : List Value} (L : LayC P k32 k56 k54 y56 y54) (E : LayE P) (R' : LayR P) (hy6 : y56.length = k56) (hy4 : y54.length = k54) (SL Ob Cd : List Value) (hS : SL.length = k32) (hO : Ob.length = k56) (hC : Cd.length = k54) (oO : ∀ v ∈ Ob, v.oneCell' = true) (oC : ∀ v ∈ Cd, v.oneCell' = true) (cB cO cn cc cd : Nat) (qc : Ob[1]? = some (.int .i64 cd)) (hcd : cd < cn) (id : Int) (w : World)
    (hLC : ∀ W, Gr w W → Sem.run P (loadCellsFrom ⟨cB, cO + cd * k54, none⟩ 0 k54 #[]) W = .ok Cd.toArray W)
    (h21 : ∀ W, Gr w W → Calls P 22 #[.slice (some ⟨cB, cO, none⟩) cn cc, .agg SL.toArray, .int .i64 id] W fun e w' => e = .returned (.tuple #[.agg Ob.toArray, .bool true]) ∧ Gr W w')
    (p t k : Int) (q4 : Cd[7]? = some (.int .i64 p)) (q5 : Cd[8]? = some (.int .i64 t)) (q6 : Cd[9]? = some (.int .i64 k)) (Q : List Ef → Prop) (hQ : ∀ R, Q R → R.length ≤ 1000000)
    (h13 : ∀ W, Below w.heap.size w W → Calls P 14 #[.slice (some ⟨cB, cO, none⟩) cn cc, .agg SL.toArray, .int .i64 id] W fun e w' => ∃ a c R, e = .returned (.slice a (List.length R) c) ∧ Q R ∧ Below W.heap.size W w' ∧ (R = [] ∨ ∃ g o, a = some ⟨g, o, none⟩ ∧ g < w'.heap.size ∧ HoldsK encE 4 w' g o R.toArray))
    (h18 : ∀ (v : Int × Int × Int) (R : List Ef) (a : Option Addr) (c : Nat) (W : World), R.length ≤ 1000000 → (R = [] ∨ ∃ g o, a = some ⟨g, o, none⟩ ∧ g < W.heap.size ∧ HoldsK encE 4 W g o R.toArray) → Calls P 23 #[.agg (encV v).toArray, .slice a R.length c] W fun e w' => e = .returned (.agg (encV (foldE R v)).toArray) ∧ Below W.heap.size W w') :
    Calls P 11 #[.slice (some ⟨cB, cO, none⟩) cn cc, .agg SL.toArray, .int .i64 id] w fun e w' => ∃ R, Q R ∧ e = .returned (.tuple #[.agg (encV (foldE R (p, t, k))).toArray, .bool true]) ∧ Below w.heap.size w w' := by
  have mixed := L.mixed; have t3 := L.t3; have a3 := L.a3; have z3 := L.z3; have t4 := L.t4; have a4 := L.a4; have z4 := L.z4; have a56 := L.a56; have z56 := L.z56; have u56 := run_underlying L.t56; have u54 := run_underlying L.t54; have t22 := L.t22; have a22 := L.a22; have z22 := L.z22; have a54 := L.a54; have z54 := L.z54; have u32 := run_underlying L.t32; have a32 := L.a32; have z32 := L.z32; have v56 := L.v56; have v54 := L.v54; have e22 := R'.e22; have t40 := L.t40; have a40 := L.a40; have z40 := L.z40; have t69 := R'.t69
  have e14 := R'.e14; have e23 := R'.e23; have hcz : (cd : Int) < (cn : Int) := (by omega); have u36 := run_underlying E.t36; have a36 := E.a36; have z36 := E.z36; have v36 := E.v36
  have g0 : Gr w ((w.alloc (.cells SL.toArray 32)).alloc (.cells #[.int .i64 0, .int .i64 0, .int .i64 0] 36)) := (Gr.refl _).alloc _ |>.alloc _
  have l4 := hold_ld P (blk_hold (blk_old (blk_new w (.cells SL.toArray 32)) (.cells #[.int .i64 0, .int .i64 0, .int .i64 0] 36))) hS
  have G0 : Aside _ := g0
  have H21 : Aside _ := h21
  have HLC : Aside _ := hLC
  have H13 : Aside _ := h13
  have H18 : Aside _ := h18
  clear h21 h13 h18 g0 hLC
  go_enter R'.f11, Try.ntmps11
  go_upto_region 5 with (first | (go_at_fn 22; refine (H21.out _ G0.out).mono ?_; rintro e w1 ⟨rfl, hG⟩; have sA := hold_st P (hold_new w1 y56 56) Ob (hO.trans hy6.symm) oO; have c1 := hold_cell (hold_put (hold_new w1 y56 56) Ob (hO.trans hy6.symm)) qc; have g5 : Gr w1 ((w1.alloc (.cells y56.toArray 56)).setCells w1.heap.size 0 Ob) := Gr.sets (W := w1) _ (Nat.le_refl _) _ _ ((Gr.refl _).alloc _); have lC := HLC.out _ (Gr.trans (Gr.trans G0.out hG) g5); have hz : ((w1.alloc (.cells y56.toArray 56)).setCells w1.heap.size 0 Ob).heap.size = w1.heap.size + 1 := (by simp); have sB := hold_st P (hold_new ((w1.alloc (.cells y56.toArray 56)).setCells w1.heap.size 0 Ob) y54 54) Cd (hC.trans hy4.symm) oC; rw [hz] at sB; have GG : Aside _ := (And.intro hG (And.intro g5 hz)); clear hG g5 hz))
  obtain ⟨hG, g5, hz⟩ := GG.out
  have n7 : w.heap.size < w1.heap.size := by have := Gr.le hG; simp at this; omega
  have gA := Gr.trans hG g5
  have gB : Gr w (((((w1.alloc (.cells y56.toArray 56)).setCells w1.heap.size 0 Ob).alloc (.cells y54.toArray 54)).setCells (w1.heap.size + 1) 0 Cd)) := Gr.sets (W := w) _ (by omega) _ _ ((Gr.trans G0.out gA).alloc _)
  have gC : Gr w1 (((((w1.alloc (.cells y56.toArray 56)).setCells w1.heap.size 0 Ob).alloc (.cells y54.toArray 54)).setCells (w1.heap.size + 1) 0 Cd)) := Gr.sets (W := w1) _ (Nat.le_succ _) _ _ (g5.alloc _)
  have b4 := blk_gr (blk_gr (blk_old (blk_new w (.cells SL.toArray 32)) (.cells #[.int .i64 0, .int .i64 0, .int .i64 0] 36)) hG) gC
  have b6 := blk_new (w.alloc (.cells SL.toArray 32)) (.cells #[.int .i64 0, .int .i64 0, .int .i64 0] 36)
  rw [World.size_alloc] at b6
  have b6 := blk_gr (blk_gr b6 hG) gC
  have b9 : ((((w1.alloc (.cells y56.toArray 56)).setCells w1.heap.size 0 Ob).alloc (.cells y54.toArray 54)).setCells (w1.heap.size + 1) 0 Cd).heap[w1.heap.size + 1]? = some (.cells Cd.toArray 54) := by
    have h1 := blk_new ((w1.alloc (.cells y56.toArray 56)).setCells w1.heap.size 0 Ob) (Obj.cells y54.toArray 54)
    rw [hz] at h1
    exact blk_put h1 Cd (hC.trans hy4.symm)
  have hb6 : w.heap.size + 1 < w1.heap.size + 1 := by omega
  have O0 : Oi w w.heap.size (w.heap.size + 1) (w1.heap.size + 1) SL Cd ((((w1.alloc (.cells y56.toArray 56)).setCells w1.heap.size 0 Ob).alloc (.cells y54.toArray 54)).setCells (w1.heap.size + 1) 0 Cd) := ⟨gr_below (.refl _ _) (Nat.le_refl _) gB, b4, ⟨(0, 0, 0), b6⟩, b9⟩
  clear b4 b6 b9 sA sB lC c1 l4 GG H21 HLC G0 hG g5 hz gA gB gC n7
  generalize ((((w1.alloc (.cells y56.toArray 56)).setCells w1.heap.size 0 Ob).alloc (.cells y54.toArray 54)).setCells (w1.heap.size + 1) 0 Cd) = W0 at O0 ⊢
  generalize w1.heap.size + 1 = b9 at O0 hb6 ⊢
  have O1 : Oi w w.heap.size (w.heap.size + 1) b9 SL Cd W0.drew := O0.below ⟨rfl, rfl, rfl, Nat.le_refl _, fun _ _ => rfl⟩
  clear O0
  refine wp_region_held_drew (S := Oi w w.heap.size (w.heap.size + 1) b9 SL Cd) mixed O1 (fun hHeld => ?_)

  refine wpAnyH_take (i := 0) (v := .pointer (some ⟨b9, 7, none⟩)) rfl (by kernel_rfl) (by kernel_rfl) (by kernel_rfl) (fun _ _ _ h => h) (Or.inl ⟨by rfl, ?_⟩) hHeld ?_
  · intro W hW
    clear hW hHeld O1
    go_simp
  simp only [Act.put, List.setIfInBounds_toArray]
  refine wpAnyH_take (i := 2) (v := .pointer (some ⟨b9, 8, none⟩)) rfl (by kernel_rfl) (by kernel_rfl) (by kernel_rfl) (fun _ _ _ h => h) (Or.inl ⟨by rfl, ?_⟩) hHeld ?_
  · intro W hW
    clear hW hHeld O1
    go_simp
  simp only [Act.put]
  refine wpAnyH_take (i := 4) (v := .pointer (some ⟨b9, 9, none⟩)) rfl (by kernel_rfl) (by kernel_rfl) (by kernel_rfl) (fun _ _ _ h => h) (Or.inl ⟨by rfl, ?_⟩) hHeld ?_
  · intro W hW
    clear hW hHeld O1
    go_simp
  simp only [Act.put]
  refine wpAnyH_take (i := 7) (v := .slice (some ⟨cB, cO, none⟩) cn cc) rfl (by kernel_rfl) (by kernel_rfl) (by kernel_rfl) (fun _ _ _ h => h) (Or.inl ⟨by rfl, ?_⟩) hHeld ?_
  · intro W hW
    clear hW hHeld O1
    go_simp
  simp only [Act.put]
  refine wpAnyH_take (i := 9) (v := .int .i64 id) rfl (by kernel_rfl) (by kernel_rfl) (by kernel_rfl) (fun _ _ _ h => h) (Or.inl ⟨by rfl, ?_⟩) hHeld ?_
  · intro W hW
    clear hW hHeld O1
    go_simp
  simp only [Act.put]
  refine wpAnyH_take (i := 1) (v := .int .i64 p) rfl (by kernel_rfl) (by kernel_rfl) (by kernel_rfl) (fun _ _ _ h => h) (Or.inl ⟨by rfl, ?_⟩) hHeld ?_
  · intro W hW
    have c := hold_cell (blk_hold hW.c9) q4
    clear hW hHeld O1
    go_simp
  simp only [Act.put]
  refine wpAnyH_take (i := 3) (v := .int .i64 t) rfl (by kernel_rfl) (by kernel_rfl) (by kernel_rfl) (fun _ _ _ h => h) (Or.inl ⟨by rfl, ?_⟩) hHeld ?_
  · intro W hW
    have c := hold_cell (blk_hold hW.c9) q5
    clear hW hHeld O1
    go_simp
  simp only [Act.put]
  refine wpAnyH_take (i := 5) (v := .int .i64 k) rfl (by kernel_rfl) (by kernel_rfl) (by kernel_rfl) (fun _ _ _ h => h) (Or.inl ⟨by rfl, ?_⟩) hHeld ?_
  · intro W hW
    have c := hold_cell (blk_hold hW.c9) q6
    clear hW hHeld O1
    go_simp
  simp only [Act.put]
  refine wpAnyH_take (i := 6) (v := .agg #[.int .i64 p, .int .i64 t, .int .i64 k]) rfl (by kernel_rfl) (by kernel_rfl) (by kernel_rfl) (fun _ _ _ h => h) (Or.inl ⟨by rfl, ?_⟩) hHeld ?_
  · intro W hW
    clear hW hHeld O1
    go_simp
  simp only [Act.put]
  refine wpAnyH_take (i := 8) (v := .agg SL.toArray) rfl (by kernel_rfl) (by kernel_rfl) (by kernel_rfl) (fun _ _ _ h => h) (Or.inl ⟨by rfl, ?_⟩) hHeld ?_
  · intro W hW
    have l4 := hold_ld P (blk_hold hW.c4) hS
    clear hW hHeld O1
    go_simp
  simp only [Act.put]
  refine wpAnyH_ready (rs := [10]) (by kernel_rfl) (by simp) ?_
  refine AllReadyH.cons rfl (fun K hK => ?_) AllReadyH.nil
  go_simp
  refine (H13.out _ hHeld.b).mono ?_
  rintro e w2 ⟨a, c, R, rfl, hq, hB, hh⟩
  have O2 := hHeld.below hB
  refine hK.out _ _ O2 (fun hHeld => ?_)
  clear hK K O1 hB
  refine wpAnyH_ready (rs := [11]) (by kernel_rfl) (by simp) ?_
  refine AllReadyH.cons rfl (fun K hK => ?_) AllReadyH.nil
  go_simp
  refine (H18.out (p, t, k) R a c w2 (hQ R hq) hh).mono ?_
  rintro e w3 ⟨rfl, hB⟩
  have O3 := hHeld.below hB
  refine hK.out _ _ O3 (fun hHeld => ?_)
  clear hK K hB hh O2 H13 H18
  obtain ⟨v0, h6⟩ := O3.c6
  have o1 : ∀ v ∈ encV (foldE R (p, t, k)), v.oneCell' = true := by
    intro v hv
    simp only [encV, List.mem_cons, List.not_mem_nil, or_false] at hv
    rcases hv with rfl | rfl | rfl <;> rfl
  have hVl : (encV (foldE R (p, t, k))).length = 3 := rfl
  obtain ⟨V, hV⟩ : ∃ V, encV (foldE R (p, t, k)) = V := ⟨_, rfl⟩
  rw [hV] at o1 hVl ⊢
  have HV : Hid _ := hV
  clear hV
  have sA := hold_st P (blk_hold h6) V hVl o1
  have O4 : Oi w w.heap.size (w.heap.size + 1) b9 SL Cd (w3.setCells (w.heap.size + 1) 0 V) := by
    refine ⟨?_, ?_, ⟨foldE R (p, t, k), by rw [HV.out]; exact blk_put h6 V hVl⟩, ?_⟩
    · exact below_sets (Nat.le_succ _) _ _ O3.b
    · rw [sets_other (by omega)]
      exact O3.c4
    · rw [sets_other (by omega)]
      exact O3.c9
  refine wpAnyH_ready (rs := [12]) (by kernel_rfl) (by simp) ?_
  refine AllReadyH.cons rfl (fun K hK => ?_) AllReadyH.nil
  go_simp
  refine hK.out _ _ O4 (fun hHeld => ?_)
  clear hK K sA hHeld
  have qA := hold_put (blk_hold h6) V hVl
  have Q4 : Aside _ := O4.b
  have HQ : Aside (Q R) := hq
  clear h6 O3 hq o1
  generalize w3.setCells (w.heap.size + 1) 0 V = w4 at O4 qA Q4 ⊢
  refine wpAnyH_ready (rs := [13]) (by kernel_rfl) (by simp) ?_
  refine AllReadyH.cons rfl (fun K hK => ?_) AllReadyH.nil
  go_simp
  refine hK.out _ _ O4 (fun hHeld => ?_)
  clear hK K hHeld O4
  refine wpAnyH_done (by kernel_rfl) ?_ _
  go_wp2
  obtain ⟨x, y, z, rfl⟩ : ∃ x y z, V = [x, y, z] := by
    match V, hVl with
    | [x, y, z], _ => exact ⟨x, y, z, rfl⟩
  have c0 : w4.cell? ⟨w.heap.size + 1, 0, none⟩ = some x := hold_cell qA rfl
  have c1 : w4.cell? ⟨w.heap.size + 1, 1, none⟩ = some y := hold_cell qA rfl
  have c2 : w4.cell? ⟨w.heap.size + 1, 2, none⟩ = some z := hold_cell qA rfl
  refine bodyPost_ret (v := .tuple #[.agg [x, y, z].toArray, .bool true]) (by simp [results, go_sem, Try.results11, a36, z36, c0, c1, c2]) rfl ?_
  exact ⟨R, HQ.out, by rw [HV.out], Q4.out⟩
end Go.Proofs.Ytgbhmkdldfhamaa.charsOf
/-
  Chapter 14: the answer's Of, walked, where no beast is found.
-/
namespace Go.Proofs.Ytgbhmkdldfhamaa.charsOf
open Go.Shelf Go.RowKit Go.Lib Go.Sort
set_option maxHeartbeats 4000000 in
set_option maxRecDepth 100000 in
theorem rof_none {P : Program} {k32 k56 k54 : Nat} {y56 y54 : List Value} (L : LayC P k32 k56 k54 y56 y54) (E : LayE P) (R' : LayR P) (hy6 : y56.length = k56) (SL Ob : List Value) (hS : SL.length = k32) (hO : Ob.length = k56) (oO : ∀ v ∈ Ob, v.oneCell' = true) (ca : Option Addr) (cn cc : Nat) (id : Int) (w : World)
    (h21 : ∀ W, Gr w W → Calls P 22 #[.slice ca cn cc, .agg SL.toArray, .int .i64 id] W fun e w' => e = .returned (.tuple #[.agg Ob.toArray, .bool false]) ∧ Gr W w') :
    Calls P 11 #[.slice ca cn cc, .agg SL.toArray, .int .i64 id] w fun e w' => e = .returned (.tuple #[.agg (encV (0, 0, 0)).toArray, .bool false]) ∧ Below w.heap.size w w' := by
  have mixed := L.mixed; have t3 := L.t3; have a3 := L.a3; have z3 := L.z3; have t4 := L.t4; have a4 := L.a4; have z4 := L.z4; have a56 := L.a56; have z56 := L.z56; have u56 := run_underlying L.t56; have u54 := run_underlying L.t54; have t22 := L.t22; have a22 := L.a22; have z22 := L.z22; have a54 := L.a54; have z54 := L.z54; have u32 := run_underlying L.t32; have a32 := L.a32; have z32 := L.z32; have v56 := L.v56; have v54 := L.v54; have e22 := R'.e22; have t40 := L.t40; have a40 := L.a40; have z40 := L.z40; have t69 := R'.t69
  have u36 := run_underlying E.t36; have a36 := E.a36; have z36 := E.z36; have v36 := E.v36
  have g0 : Gr w ((w.alloc (.cells SL.toArray 32)).alloc (.cells #[.int .i64 0, .int .i64 0, .int .i64 0] 36)) := (Gr.refl _).alloc _ |>.alloc _
  have l4 := hold_ld P (blk_hold (blk_old (blk_new w (.cells SL.toArray 32)) (.cells #[.int .i64 0, .int .i64 0, .int .i64 0] 36))) hS
  have G0 : Aside _ := g0
  have H21 : Aside _ := h21
  clear h21 g0
  go_enter R'.f11, Try.ntmps11
  go_upto_region 3 with (first | (go_at_fn 22; refine (H21.out _ G0.out).mono ?_; rintro e w1 ⟨rfl, hG⟩; have sA := hold_st P (hold_new w1 y56 56) Ob (hO.trans hy6.symm) oO; have GG : Aside _ := hG; clear hG))
  have g5 : Gr w1 ((w1.alloc (.cells y56.toArray 56)).setCells w1.heap.size 0 Ob) := Gr.sets (W := w1) _ (Nat.le_refl _) _ _ ((Gr.refl _).alloc _)
  have b6 := blk_new (w.alloc (.cells SL.toArray 32)) (.cells #[.int .i64 0, .int .i64 0, .int .i64 0] 36)
  rw [World.size_alloc] at b6
  have b6 := blk_gr (blk_gr b6 GG.out) g5
  have O0 : Below w.heap.size w ((w1.alloc (.cells y56.toArray 56)).setCells w1.heap.size 0 Ob) := gr_below (.refl _ _) (Nat.le_refl _) (Gr.trans (Gr.trans G0.out GG.out) g5)
  clear sA l4 GG H21 G0 g5
  generalize ((w1.alloc (.cells y56.toArray 56)).setCells w1.heap.size 0 Ob) = W2 at O0 b6 ⊢
  have h6 := blk_hold (l := encV (0, 0, 0)) b6
  obtain ⟨r0, s0⟩ := h6 0 (by simp [encV])
  obtain ⟨r1, s1⟩ := h6 1 (by simp [encV])
  obtain ⟨r2, s2⟩ := h6 2 (by simp [encV])
  change W2.cell? ⟨w.heap.size + 1, 0, none⟩ = some (.int .i64 0) at r0
  change W2.cell? ⟨w.heap.size + 1, 1, none⟩ = some (.int .i64 0) at r1
  change W2.cell? ⟨w.heap.size + 1, 2, none⟩ = some (.int .i64 0) at r2
  change W2.frozen? ⟨w.heap.size + 1, 0, none⟩ = false at s0
  change W2.frozen? ⟨w.heap.size + 1, 1, none⟩ = false at s1
  change W2.frozen? ⟨w.heap.size + 1, 2, none⟩ = false at s2
  have OO : Aside _ := O0
  clear O0 h6 b6
  go_wp2
  refine bodyPost_ret (v := .tuple #[.agg #[.int .i64 0, .int .i64 0, .int .i64 0], .bool false]) (by simp [results, go_sem, Try.results11, a36, z36, r0, r1, r2]) rfl ?_
  refine ⟨rfl, ?_⟩
  exact ((OO.out.setCell (p := ⟨w.heap.size + 1, 0, none⟩) (Nat.le_succ _) _).setCell (p := ⟨w.heap.size + 1, 1, none⟩) (Nat.le_succ _) _).setCell (p := ⟨w.heap.size + 1, 2, none⟩) (Nat.le_succ _) _
end Go.Proofs.Ytgbhmkdldfhamaa.charsOf
/-
  Chapter 14: insertion by layers, plain.
-/
namespace Go.Proofs.Ytgbhmkdldfhamaa.charsOf
open Go.Shelf Go.RowKit Go.Lib Go.Sort
/-- One layer's part of the answer's list: by stamps, those of one stamp in the order in which they came. -/
structure InsOK (y : Int) (done S : List Ef) : Prop where
  srt : S.Pairwise fun a b => a.2.2.2 ≤ b.2.2.2
  stb : ∀ s, S.filter (fun x => x.2.2.2 == s) = (done.filter fun x => lyr x.1 == y).filter fun x => x.2.2.2 == s
  lay : ∀ x ∈ S, lyr x.1 = y
theorem InsOK.nil (y : Int) : InsOK y [] [] := ⟨.nil, fun _ => rfl, fun _ h => by cases h⟩
theorem InsOK.skip {y : Int} {done S : List Ef} (h : InsOK y done S) {x : Ef} (hx : lyr x.1 ≠ y) : InsOK y (done ++ [x]) S := by
  refine ⟨h.srt, fun s => ?_, h.lay⟩
  rw [List.filter_append, List.filter_append, h.stb s]
  simp [hx]
theorem InsOK.put {y : Int} {done S1 S2 : List Ef} (h : InsOK y done (S1 ++ S2)) {x : Ef} (hx : lyr x.1 = y) (h1 : ∀ a ∈ S1, a.2.2.2 ≤ x.2.2.2) (h2 : ∀ b ∈ S2, x.2.2.2 < b.2.2.2) : InsOK y (done ++ [x]) (S1 ++ x :: S2) := by
  obtain ⟨p1, p2, p3⟩ := List.pairwise_append.1 h.srt
  refine ⟨?_, fun s => ?_, ?_⟩
  · refine List.pairwise_append.2 ⟨p1, List.pairwise_cons.2 ⟨fun b hb => Int.le_of_lt (h2 b hb), p2⟩, fun a ha b hb => ?_⟩
    rcases List.mem_cons.1 hb with rfl | hb
    · exact h1 a ha
    · exact p3 a ha b hb
  · rw [List.filter_append, List.filter_append, List.filter_append, ← h.stb s, List.filter_append]
    by_cases hs : x.2.2.2 = s
    · have e : S2.filter (fun x => x.2.2.2 == s) = [] := List.filter_eq_nil_iff.2 fun b hb => by
        have := h2 b hb
        simp
        omega
      simp [hx, hs, e]
    · simp [hx, hs]
  · intro b hb
    rcases List.mem_append.1 hb with hb | hb
    · exact h.lay b (List.mem_append.2 (.inl hb))
    · rcases List.mem_cons.1 hb with rfl | hb
      · exact hx
      · exact h.lay b (List.mem_append.2 (.inr hb))
theorem ltE (x y : Ef) : ltOf cmpE x y = true ↔ (lyr x.1 < lyr y.1 ∨ lyr x.1 = lyr y.1 ∧ x.2.2.2 < y.2.2.2) := by
  unfold ltOf cmpE
  rw [decide_eq_true_iff]
  split
  · split
    · omega
    · split <;> omega
  · omega
theorem ltE_f (x y : Ef) : ltOf cmpE x y = false ↔ ¬ (lyr x.1 < lyr y.1 ∨ lyr x.1 = lyr y.1 ∧ x.2.2.2 < y.2.2.2) := by
  rw [← ltE, Bool.not_eq_true]
theorem eqv_cmpE (x z : Ef) : eqv (ltOf cmpE) x z = true ↔ lyr x.1 = lyr z.1 ∧ x.2.2.2 = z.2.2.2 := by
  unfold eqv
  rw [Bool.and_eq_true, Bool.not_eq_true', Bool.not_eq_true', ltE_f, ltE_f]
  omega
theorem InsOK.eqvs {y : Int} {done S : List Ef} (h : InsOK y done S) (x : Ef) : S.filter (eqv (ltOf cmpE) x) = if lyr x.1 = y then done.filter (eqv (ltOf cmpE) x) else [] := by
  by_cases hy : lyr x.1 = y
  · rw [if_pos hy]
    have e1 : S.filter (eqv (ltOf cmpE) x) = S.filter fun z => z.2.2.2 == x.2.2.2 := List.filter_congr fun z hz => by
      rw [Bool.eq_iff_iff, eqv_cmpE, beq_iff_eq, h.lay z hz]
      exact ⟨fun k => k.2.symm, fun k => ⟨hy, k.symm⟩⟩
    rw [e1, h.stb, List.filter_filter]
    refine List.filter_congr fun z _ => ?_
    rw [Bool.eq_iff_iff, eqv_cmpE, Bool.and_eq_true, beq_iff_eq, beq_iff_eq, hy]
    exact ⟨fun k => ⟨k.2.symm, k.1.symm⟩, fun k => ⟨k.2.symm, k.1.symm⟩⟩
  · rw [if_neg hy]
    refine List.filter_eq_nil_iff.2 fun z hz => ?_
    rw [eqv_cmpE, h.lay z hz]
    exact fun k => hy k.1
theorem three {all S1 S2 S3 : List Ef} (h1 : InsOK 1 all S1) (h2 : InsOK 2 all S2) (h3 : InsOK 3 all S3) : Srt (ltOf cmpE) (S1 ++ S2 ++ S3) ∧ Stb (ltOf cmpE) (all.filter hasL) (S1 ++ S2 ++ S3) := by
  have own : ∀ {y S}, InsOK y all S → Srt (ltOf cmpE) S := fun {y S} h => h.srt.imp_of_mem fun {a b} ha hb k => by
    rw [ltE_f, h.lay a ha, h.lay b hb]
    omega
  constructor
  · refine List.pairwise_append.2 ⟨List.pairwise_append.2 ⟨own h1, own h2, fun a ha b hb => ?_⟩, own h3, fun a ha b hb => ?_⟩
    · rw [ltE_f, h1.lay a ha, h2.lay b hb]
      omega
    · rw [ltE_f, h3.lay b hb]
      rcases List.mem_append.1 ha with ha | ha
      · rw [h1.lay a ha]
        omega
      · rw [h2.lay a ha]
        omega
  · intro x
    rw [List.filter_append, List.filter_append, h1.eqvs, h2.eqvs, h3.eqvs, List.filter_filter]
    have hb := lyr_in x.1
    by_cases h0 : lyr x.1 = 0
    · rw [if_neg (by omega), if_neg (by omega), if_neg (by omega)]
      refine List.filter_eq_nil_iff.2 fun z _ => ?_
      rw [Bool.and_eq_true, eqv_cmpE]
      rintro ⟨⟨e, _⟩, k⟩
      simp [hasL, ← e, h0] at k
    · have e : (all.filter fun z => eqv (ltOf cmpE) x z && hasL z) = all.filter (eqv (ltOf cmpE) x) := List.filter_congr fun z _ => by
        rw [Bool.eq_iff_iff, Bool.and_eq_true]
        refine ⟨fun k => k.1, fun k => ⟨k, ?_⟩⟩
        have := ((eqv_cmpE x z).1 k).1
        simp [hasL, ← this, h0]
      rw [e]
      obtain h | h | h : lyr x.1 = 1 ∨ lyr x.1 = 2 ∨ lyr x.1 = 3 := by omega
      all_goals simp [h]
end Go.Proofs.Ytgbhmkdldfhamaa.charsOf
