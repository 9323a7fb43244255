/-
  Chapter 14: what a static adds to a list of effects (the closure of Effects), walked with its aggregates unopened.
-/
import Derived.Test.YtgbhmkdldfhamaaTxF
import Derived.Laws.AppendOwn
import Derived.Laws.OwnMore
namespace Go.Proofs.Ytgbhmkdldfhamaa.charsOf
open Go.Shelf Go.RowKit Go.Lib Go.Sort
structure LayD (P : Program) (k32 k56 k54 k74 : Nat) (y56 y54 y74 : List Value) : Prop where
  c : LayC P k32 k56 k54 y56 y54
  f24 : P.funcs[24]? = some Try.f24
  e25 : ∀ args w, (callFunc 25 args).run P w = .ok (.enter 25 args) w
  t74 : P.underlying 74 = some (TypeDesc.struct #[{ name := "Kind", type := 3, offset := 0, embedded := false, tag := "", pkgPath := "", byteOffset := 0 }, { name := "Event", type := 3, offset := 1, embedded := false, tag := "", pkgPath := "", byteOffset := 8 }, { name := "Who", type := 3, offset := 2, embedded := false, tag := "", pkgPath := "", byteOffset := 16 }, { name := "Cost", type := 51, offset := 3, embedded := false, tag := "", pkgPath := "", byteOffset := 24 }, { name := "Tap", type := 4, offset := 7, embedded := false, tag := "", pkgPath := "", byteOffset := 56 }, { name := "Targets", type := 26, offset := 8, embedded := false, tag := "", pkgPath := "", byteOffset := 64 }, { name := "Code", type := 72, offset := 9, embedded := false, tag := "", pkgPath := "", byteOffset := 88 }, { name := "Op", type := 3, offset := 10, embedded := false, tag := "", pkgPath := "", byteOffset := 112 }, { name := "A", type := 3, offset := 11, embedded := false, tag := "", pkgPath := "", byteOffset := 120 }, { name := "B", type := 3, offset := 12, embedded := false, tag := "", pkgPath := "", byteOffset := 128 }])
  a74 : ∀ w, (isAgg 74).run P w = .ok true w
  z74 : ∀ w, (Go.sizeOf 74).run P w = .ok k74 w
  v74 : ∀ w, (zeroValue 74).run P w = .ok (.agg y74.toArray) w
  t52 : P.underlying 52 = some (.slice 74)
  a52 : ∀ w, (isAgg 52).run P w = .ok false w
  z52 : ∀ w, (Go.sizeOf 52).run P w = .ok 1 w
  t71 : P.underlying 71 = some (.slice 58)
  a71 : ∀ w, (isAgg 71).run P w = .ok false w
  z71 : ∀ w, (Go.sizeOf 71).run P w = .ok 1 w
  v71 : ∀ w, (zeroValue 71).run P w = .ok (.slice none 0 0) w
  t58 : P.underlying 58 = some (TypeDesc.struct #[{ name := "Op", type := 3, offset := 0, embedded := false, tag := "", pkgPath := "", byteOffset := 0 }, { name := "A", type := 3, offset := 1, embedded := false, tag := "", pkgPath := "", byteOffset := 8 }, { name := "B", type := 3, offset := 2, embedded := false, tag := "", pkgPath := "", byteOffset := 16 }, { name := "Stamp", type := 3, offset := 3, embedded := false, tag := "", pkgPath := "", byteOffset := 24 }])
  a58 : ∀ w, (isAgg 58).run P w = .ok true w
  z58 : ∀ w, (Go.sizeOf 58).run P w = .ok 4 w
  v58 : ∀ w, (zeroValue 58).run P w = .ok (.agg #[.int .i64 0, .int .i64 0, .int .i64 0, .int .i64 0]) w
  i58 : ∃ i, P.info? 58 = some i ∧ i.zero = some (.agg #[.int .i64 0, .int .i64 0, .int .i64 0, .int .i64 0]) ∧ i.size = 4 ∧ i.bytes = 32
/-- What is held while a static is looked at: all below l's block; l; the object; l's own row. -/
structure Ai (w : World) (bl nb : Nat) (X : List Value) (lv : Value) (n : Nat) (xs : List Value) (W : World) : Prop where
  b : Below bl w W
  l : W.heap[bl]? = some (.cells #[lv] 71)
  x : W.heap[nb]? = some (.cells X.toArray 56)
  o : W.ownsRow (bl + 1) 58 4 lv n xs
  g : ∀ g, lv.ownBlock = some g → g ≠ nb
theorem blk_hold {W : World} {b : Nat} {l : List Value} {t : TypeId} (h : W.heap[b]? = some (.cells l.toArray t)) : Holds id W b 0 l.toArray := fun j hj => by
  rw [Nat.zero_add]
  constructor
  · unfold World.cell?
    rw [h]
    simp only [id]
    rw [getElem!_pos l.toArray j hj]
    simp
  · unfold World.frozen?
    rw [h]
    simp
theorem blk_lt {W : World} {b : Nat} {o : Obj} (h : W.heap[b]? = some o) : b < W.heap.size := (Array.getElem?_eq_some_iff.1 h).1
theorem gr_grown {w W : World} (h : Gr w W) : w.grownBy W none := by
  obtain ⟨n, os, rfl⟩ := h
  refine ⟨rfl, rfl, rfl, by simp [grow, World.drewN], fun k hk _ => ?_⟩
  show (w.heap ++ os)[k]? = _
  rw [Array.getElem?_append_left hk]
theorem Ai.later {w : World} {bl nb : Nat} {X : List Value} {lv : Value} {n : Nat} {xs : List Value} {W W' : World} (h : Ai w bl nb X lv n xs W) (g : W.grownBy W' none) : Ai w bl nb X lv n xs W' :=
  ⟨h.b.grown g (by have := blk_lt h.l; omega) (fun k hk => by cases hk), by rw [g.block bl (blk_lt h.l) (by simp)]; exact h.l, by rw [g.block nb (blk_lt h.x) (by simp)]; exact h.x, h.o.kept g (by cases hv : lv.ownBlock <;> simp), h.g⟩
theorem Ai.app {w : World} {bl nb : Nat} {X : List Value} {lv lv' : Value} {n n' : Nat} {xs xs' : List Value} {W W' : World} (h : Ai w bl nb X lv n xs W) (g : W.grownBy W' lv.ownBlock) (o : W'.ownsRow (bl + 1) 58 4 lv' n' xs') : Ai w bl nb X lv' n' xs' (W'.setCell ⟨bl, 0, none⟩ lv') := by
  have hl := h.o.lt
  have nl : some bl ≠ lv.ownBlock := fun e => by have := (hl bl e.symm).1; omega
  have l1 : W'.heap[bl]? = some (.cells #[lv] 71) := by rw [g.block bl (blk_lt h.l) nl]; exact h.l
  have x1 : W'.heap[nb]? = some (.cells X.toArray 56) := by rw [g.block nb (blk_lt h.x) fun e => h.g nb e.symm rfl]; exact h.x
  have nx : nb ≠ bl := fun e => by
    subst e
    have h1 := h.x
    rw [h.l] at h1
    injection h1 with h1
    injection h1 with _ h1
    cases h1
  have gs : W'.grownBy (W'.setCell ⟨bl, 0, none⟩ lv') (some bl) := ⟨rfl, rfl, rfl, by simp, fun k hk hn => Below.heap_setCell _ _ _ _ (fun e => hn (by rw [e]))⟩
  refine ⟨?_, ?_, ?_, ?_, ?_⟩
  · exact (h.b.grown g (by have := blk_lt h.l; omega) fun k hk => by have := (hl k hk).1; omega).setCell (p := ⟨bl, 0, none⟩) (Nat.le_refl _) _
  · simp only [World.setCell, Array.getElem?_modify, l1]
    simp
  · rw [gs.block nb (blk_lt x1) (by simpa using nx)]
    exact x1
  · exact o.kept gs (by
      cases hv : lv'.ownBlock with
      | none => exact .inl rfl
      | some k => exact .inr fun e => by have := (o.lt k hv).1; injection e with e; omega)
  · intro k hk e
    subst e
    rcases o.2 with ⟨rfl, _⟩ | ⟨g', cap, cur, rfl, _, hg, _⟩
    · cases hk
    · simp only [Value.ownBlock, Option.some.injEq] at hk
      subst hk
      rw [x1] at hg
      injection hg with hg
      injection hg with _ hg
      cases hg
/-- The cells of a list of effects. -/
def flatE (l : List Ef) : List Value := l.flatMap encE
theorem flatE_len (l : List Ef) : (flatE l).length = l.length * 4 := by
  induction l with
  | nil => rfl
  | cons x l ih =>
    unfold flatE at ih ⊢
    rw [List.flatMap_cons, List.length_append, ih, encE_len, List.length_cons]
    omega
theorem flatE_app (l m : List Ef) : flatE (l ++ m) = flatE l ++ flatE m := by
  unfold flatE
  rw [List.flatMap_append]
set_option maxHeartbeats 8000000 in
set_option maxRecDepth 100000 in
theorem act_none {P : Program} {k32 k56 k54 k74 : Nat} {y56 y54 y74 : List Value} (L : LayD P k32 k56 k54 k74 y56 y54 y74) (bc bb bl : Nat) (X : List Value) (cd : Int) (h1 : X[1]? = some (.int .i64 cd)) (ca : Option Addr) (cn cc : Nat) (w : World)
    (cl : w.cell? ⟨bc, 0, none⟩ = some (.slice ca cn cc)) (lv : Value) (n : Nat) (xs : List Value) (hl : w.heap[bl]? = some (.cells #[lv] 71)) (ho : w.ownsRow (bl + 1) 58 4 lv n xs) (hz : cd < 0 ∨ (cn : Int) ≤ cd) :
    Calls P 24 #[.agg X.toArray, .pointer (some ⟨bc, 0, none⟩), .pointer (some ⟨bb, 0, none⟩), .pointer (some ⟨bl, 0, none⟩)] w fun e w' => e = .returned (.tuple #[]) ∧ Below bl w w' ∧ w'.heap[bl]? = some (.cells #[lv] 71) ∧ w'.ownsRow (bl + 1) 58 4 lv n xs := by
  have mixed := L.c.mixed; have t3 := L.c.t3; have a3 := L.c.a3; have z3 := L.c.z3; have t4 := L.c.t4; have a4 := L.c.a4; have z4 := L.c.z4; have a56 := L.c.a56; have z56 := L.c.z56; have u56 := run_underlying L.c.t56; have u54 := run_underlying L.c.t54; have t22 := L.c.t22; have a22 := L.c.a22; have z22 := L.c.z22; have a54 := L.c.a54; have z54 := L.c.z54; have e25 := L.e25; have u74 := run_underlying L.t74; have a74 := L.a74; have z74 := L.z74; have v74 := L.v74; have t52 := L.t52; have a52 := L.a52; have z52 := L.z52; have t71 := L.t71; have a71 := L.a71; have z71 := L.z71; have u71 := run_underlying L.t71; have u58 := run_underlying L.t58; have a58 := L.a58; have z58 := L.z58; have v58 := L.v58
  have hb : w.heap[bl]?.isSome := by rw [hl]; rfl
  have G := World.grownBy_alloc w (.cells X.toArray 56) none
  have hbs := blk_lt hl
  have hx := hold_new w X 56
  have c1 := hold_cell hx h1
  have cl2 : (w.alloc (.cells X.toArray 56)).cell? ⟨bc, 0, none⟩ = some (.slice ca cn cc) := cell?_alloc_some _ cl
  have FIN : Aside (Below bl w (w.alloc (.cells X.toArray 56)) ∧ (w.alloc (.cells X.toArray 56)).heap[bl]? = some (.cells #[lv] 71) ∧ (w.alloc (.cells X.toArray 56)).ownsRow (bl + 1) 58 4 lv n xs) :=
    ⟨(Below.refl _ _).alloc (by omega) _, by rw [G.block bl hbs (by simp)]; exact hl, ho.alloc _⟩
  clear ho hl cl G hx hb
  by_cases hc : cd < 0
  · have hcd : decide (cd < 0) = true := decide_eq_true hc
    go_enter L.f24, Try.ntmps24
    go_wp2
    go_returns
    exact ⟨rfl, FIN.out⟩
  · have hcd : decide (cd < 0) = false := decide_eq_false hc
    have hcl : (cn : Int) ≤ cd := by omega
    have hcld : decide (cd ≥ (cn : Int)) = true := decide_eq_true hcl
    go_enter L.f24, Try.ntmps24
    go_wp2
    go_returns
    exact ⟨rfl, FIN.out⟩
/-- What the first abilities add. -/
def adds (f : Nat → Option Ef) (j : Nat) : List Ef := (List.range j).filterMap f
theorem adds_succ (f : Nat → Option Ef) (j : Nat) : adds f (j + 1) = adds f j ++ (f j).toList := by
  unfold adds
  rw [List.range_succ, List.filterMap_append]
  cases h : f j <;> simp [h]
theorem adds_le (f : Nat → Option Ef) (j : Nat) : (adds f j).length ≤ j := by
  unfold adds
  have := List.length_filterMap_le f (List.range j)
  simpa using this
theorem own_slice {W : World} {base size n m : Nat} {e : TypeId} {v : Value} {xs : List Value} (h : W.ownsRow base e size v n xs) (hn : n = m + 1) : ∃ g cap, v = .slice (some ⟨g, 0, none⟩) n cap := by
  rcases h.2 with ⟨_, h0⟩ | ⟨g, cap, cur, hv, _⟩
  · omega
  · exact ⟨g, cap, hv⟩
theorem Ai.l_kept {w : World} {bl nb : Nat} {X : List Value} {lv : Value} {n : Nat} {xs : List Value} {W W' : World} (h : Ai w bl nb X lv n xs W) (g : W.grownBy W' lv.ownBlock) : W'.cell? ⟨bl, 0, none⟩ = some lv ∧ W'.frozen? ⟨bl, 0, none⟩ = false := by
  have nl : some bl ≠ lv.ownBlock := fun e => by have := (h.o.lt bl e.symm).1; omega
  have l1 : W'.heap[bl]? = some (.cells #[lv] 71) := by rw [g.block bl (blk_lt h.l) nl]; exact h.l
  have := blk_hold (l := [lv]) l1 0 (by simp)
  exact this
theorem hold_below {w W : World} {b B : Nat} {A : Array Value} (h : Holds id w b 0 A) (k : Below B w W) (hb : b < B) : Holds id W b 0 A := fun j hj => by
  rw [k.cell (by exact hb), k.frozen (by exact hb)]
  exact h j hj
set_option maxHeartbeats 8000000 in
set_option maxRecDepth 100000 in
theorem act_some {P : Program} {k32 k56 k54 k74 : Nat} {y56 y54 y74 : List Value} (L : LayD P k32 k56 k54 k74 y56 y54 y74) (hy7 : y74.length = k74) (bc bb bl : Nat) (hbb : bb < bl) (X : List Value) (hX : X.length = k56) (cd : Nat) (st : Int) (h1 : X[1]? = some (.int .i64 cd)) (h9 : X[9]? = some (.int .i64 st)) (Bs : List Value) (hB : Bs.length = k56) (cB cO : Nat) (cn cc : Nat) (w : World)
    (cl : w.cell? ⟨bc, 0, none⟩ = some (.slice (some ⟨cB, cO, none⟩) cn cc)) (Hb : Holds id w bb 0 Bs.toArray) (lv : Value) (l : List Ef) (hl : w.heap[bl]? = some (.cells #[lv] 71)) (ho : w.ownsRow (bl + 1) 58 4 lv l.length (flatE l)) (hz : cd < cn)
    (aa : Option Addr) (an ac : Nat) (hab : ∀ W, Below bl w W → W.cell? ⟨cB, cO + cd * k54 + 10, none⟩ = some (.slice aa an ac))
    (ab : Nat → List Value) (kd wh op va vb : Nat → Int) (fb : Nat → Bool) (hk : ∀ j, j < an → (ab j).length = k74 ∧ (ab j)[0]? = some (.int .i64 (kd j)) ∧ (ab j)[2]? = some (.int .i64 (wh j)) ∧ (ab j)[10]? = some (.int .i64 (op j)) ∧ (ab j)[11]? = some (.int .i64 (va j)) ∧ (ab j)[12]? = some (.int .i64 (vb j)))
    (hone : ∀ j, j < an → ∀ v ∈ ab j, v.oneCell' = true)
    (hla : ∀ j, j < an → ∃ ad, aa = some ad ∧ ∀ W, Below bl w W → Sem.run P (loadCellsFrom (ad.add (j * k74)) 0 k74 #[]) W = .ok (ab j).toArray W)
    (hfit : ∀ j, j < an → ∀ W, Calls P 25 #[.int .i64 (wh j), .agg X.toArray, .agg Bs.toArray] W fun e w' => e = .returned (.bool (fb j)) ∧ Gr W w') (hbig : l.length + an ≤ 1000000) :
    Calls P 24 #[.agg X.toArray, .pointer (some ⟨bc, 0, none⟩), .pointer (some ⟨bb, 0, none⟩), .pointer (some ⟨bl, 0, none⟩)] w fun e w' => e = .returned (.tuple #[]) ∧ ∃ lv', Below bl w w' ∧ w'.heap[bl]? = some (.cells #[lv'] 71) ∧
      w'.ownsRow (bl + 1) 58 4 lv' (l ++ adds (fun j => if kd j = 4 ∧ fb j = true then some (op j, va j, vb j, st) else none) an).length (flatE (l ++ adds (fun j => if kd j = 4 ∧ fb j = true then some (op j, va j, vb j, st) else none) an)) := by
  have mixed := L.c.mixed; have t3 := L.c.t3; have a3 := L.c.a3; have z3 := L.c.z3; have t4 := L.c.t4; have a4 := L.c.a4; have z4 := L.c.z4; have a56 := L.c.a56; have z56 := L.c.z56; have u56 := run_underlying L.c.t56; have u54 := run_underlying L.c.t54; have t22 := L.c.t22; have a22 := L.c.a22; have z22 := L.c.z22; have a54 := L.c.a54; have z54 := L.c.z54; have e25 := L.e25; have u74 := run_underlying L.t74; have a74 := L.a74; have z74 := L.z74; have v74 := L.v74; have t52 := L.t52; have a52 := L.a52; have z52 := L.z52; have t71 := L.t71; have a71 := L.a71; have z71 := L.z71; have u71 := run_underlying L.t71; have u58 := run_underlying L.t58; have a58 := L.a58; have z58 := L.z58; have v58 := L.v58
  generalize hE : (fun j => if kd j = 4 ∧ fb j = true then some (op j, va j, vb j, st) else none) = ef
  have HE : Hid _ := hE
  clear hE
  have hbs := blk_lt hl
  have A0 : Ai w bl w.heap.size X lv l.length (flatE l) (w.alloc (.cells X.toArray 56)) := by
    have G := World.grownBy_alloc w (.cells X.toArray 56) none
    refine ⟨(Below.refl _ _).alloc (by omega) _, by rw [G.block bl hbs (by simp)]; exact hl, ?_, ho.alloc _, fun g hg e => ?_⟩
    · show (w.heap.push _)[w.heap.size]? = _
      simp
    · have := (ho.lt g hg).2
      omega
  have hx := blk_hold A0.x
  have c1 := hold_cell hx h1
  have cl2 : (w.alloc (.cells X.toArray 56)).cell? ⟨bc, 0, none⟩ = some (.slice (some ⟨cB, cO, none⟩) cn cc) := cell?_alloc_some _ cl
  have cab := hab _ A0.b
  have hcd : decide ((cd : Int) < 0) = false := decide_eq_false (by omega)
  have hcld : decide ((cd : Int) ≥ (cn : Int)) = false := decide_eq_false (by omega)
  have hcz : (cd : Int) < (cn : Int) := by omega
  have hcz2 : decide (cn ≤ cd) = false := decide_eq_false (by omega)
  have AA : Aside _ := A0
  have HLA : Aside _ := hla
  have HK : Aside _ := hk
  have HF : Aside _ := hfit
  have HBB : Aside _ := Hb
  have HONE : Aside _ := hone
  clear ho hl cl hab hla hk hfit hx Hb hone
  go_enter L.f24, Try.ntmps24
  go_wp2
  go_loopg [24] an (fun kx s24 wr => ∃ (j : Nat) (lv' : Value), s24 = .int .i64 j ∧ j ≤ an ∧ an - j ≤ kx ∧ Aside (Ai w bl w.heap.size X lv' (l ++ adds ef j).length (flatE (l ++ adds ef j)) wr))
  case atStart => exact ⟨0, lv, rfl, Nat.zero_le _, Nat.le_refl _, by rw [show adds ef 0 = [] from rfl, List.append_nil]; exact AA⟩
  case round =>
    clear A0 c1 cl2 cab AA
    obtain ⟨j, lv', rfl, hja, hkx, A1⟩ := hrel
    have wj : IntKind.i64.wrap ((j : Int) + 1) = (j : Int) + 1 := by rw [IntKind.wrap_i64]; omega
    by_cases hlt : j < an
    · have hltz : (j : Int) < (an : Int) := by omega
      obtain ⟨ad, rfl, hld⟩ := HLA.out j hlt
      obtain ⟨k0, k1, k2, k3, k4, k5⟩ := HK.out j hlt
      have lA := hld wr A1.out.b
      have o1 := HONE.out j hlt
      have hn0 := hold_new wr y74 74
      have sA := hold_st P hn0 (ab j) (by rw [k0, hy7]) o1
      have hn1 := hold_put hn0 (ab j) (by rw [k0, hy7])
      have G1 : Gr wr ((wr.alloc (.cells y74.toArray 74)).setCells wr.heap.size 0 (ab j)) := Gr.sets (W := wr.alloc (.cells y74.toArray 74)) _ (Nat.le_refl _) _ 0 ((Gr.refl wr).alloc _)
      have A2 := A1.out.later (gr_grown G1)
      have hns : wr.heap.size < ((wr.alloc (.cells y74.toArray 74)).setCells wr.heap.size 0 (ab j)).heap.size := by rw [size_setCells]; simp
      generalize hW1 : (wr.alloc (.cells y74.toArray 74)).setCells wr.heap.size 0 (ab j) = W1 at sA hn1 A2 hns G1
      have b0 := hold_cell hn1 k1
      have b2 := hold_cell hn1 k2
      have lX := hold_ld P (blk_hold A2.x) hX
      have lB := hold_ld P (hold_below HBB.out A2.b hbb) hB
      have hf := HF.out j hlt W1
      have AA2 : Aside _ := A2
      have HN1 : Aside _ := hn1
      have HLT : Aside _ := hlt
      have KK : Aside _ := (show ((ab j)[10]? = some (.int .i64 (op j)) ∧ (ab j)[11]? = some (.int .i64 (va j)) ∧ (ab j)[12]? = some (.int .i64 (vb j))) from ⟨k3, k4, k5⟩)
      have HEF : Hid (ef j = if kd j = 4 ∧ fb j = true then some (op j, va j, vb j, st) else none) := by rw [← HE.out]; rfl
      have nA : (ab j).length = k74 := k0
      generalize ab j = Aj at lA sA hW1 KK HN1 nA
      generalize kd j = kj at b0 HEF
      generalize wh j = wj' at b2 hf
      generalize hoj : op j = oj at KK HEF
      generalize hvj : va j = vj at KK HEF
      generalize hvk : vb j = vk at KK HEF
      generalize hfj : fb j = fj at hf HEF
      clear hoj hvj hvk hfj k0 k1 k2 k3 k4 k5 hn0 hn1 A2 o1 hlt G1
      by_cases hk4 : kj = 4
      · have hkb : (kj == 4) = true := by simp [hk4]
        cases fj with
        | false =>
          have er : adds ef (j + 1) = adds ef j := by rw [adds_succ, HEF.out, if_neg (by simp)]; simp
          have ER : Hid _ := er
          clear er HEF hk4
          go_wp2_with (first | (go_at_fn 25; refine hf.mono ?_; rintro e w2 ⟨rfl, hG⟩))
          have A3 : Aside _ := AA2.out.later (gr_grown hG)
          go_roundg (an - (j + 1))
          case measure => omega
          case rel => exact ⟨j + 1, lv', by first | rfl | go_num, by omega, Nat.le_refl _, by rw [ER.out]; exact A3⟩
        | true =>
          have er : adds ef (j + 1) = adds ef j ++ [(oj, vj, vk, st)] := by rw [adds_succ, HEF.out, if_pos ⟨hk4, rfl⟩]; rfl
          have ER : Hid _ := er
          clear er HEF hk4
          have LEN : Aside ((l ++ adds ef j).length + 1 ≤ 1000001) := (show (l ++ adds ef j).length + 1 ≤ 1000001 by rw [List.length_append]; have := adds_le ef j; omega)
          obtain ⟨i58, hi1, hi2, hi3, hi4⟩ := L.i58
          have t71' := L.t71
          go_wp2_with (first
            | (go_at_fn 25; refine hf.mono ?_; rintro e w2 ⟨rfl, hG⟩
               have A3 := AA2.out.later (gr_grown hG)
               have hn2 := hold_gr HN1.out hG hns
               obtain ⟨k3, k4, k5⟩ := KK.out
               have q3 := hold_cell hn2 k3
               have q4 := hold_cell hn2 k4
               have q5 := hold_cell hn2 k5
               have q9 := hold_cell (blk_hold A3.x) h9
               have ql := hold_cell (blk_hold (l := [lv']) A3.l) (j := 0) rfl
               have AA3 : Aside _ := A3
               clear A3 hn2 k3 k4 k5 hG hf)
            | (at_builtin
               have hcells : ∀ (W : World) (jj : Nat) (u : Value), ([Value.int .i64 oj, .int .i64 vj, .int .i64 vk, .int .i64 st] : List Value)[jj]? = some u → (W.alloc (.cells #[Value.int .i64 oj, .int .i64 vj, .int .i64 vk, .int .i64 st] 58)).cell? ((⟨W.heap.size, 0, none⟩ : Addr).add jj) = some u := fun W jj u hu => by
                 rw [Addr.add_lit, Nat.zero_add]
                 simpa using hu
               refine wpList_append_own _ rfl _ _ 71 rfl (bl + 1) 58 i58 (.agg #[.int .i64 0, .int .i64 0, .int .i64 0, .int .i64 0]) 4 32 t71' hi1 hi2 hi3 hi4 rfl (by decide) _ _ _ rfl (AA3.out.o.alloc _) ⟨_, 0, none⟩ 1 1 [Value.int .i64 oj, .int .i64 vj, .int .i64 vk, .int .i64 st] rfl rfl (hcells _) (by simp [Value.oneCell']) (Nat.le_trans LEN.out (by decide)) (Nat.le_trans (Nat.mul_le_mul_right 32 LEN.out) (by decide)) (by have := blk_lt AA3.out.l; simp only [World.size_alloc]; omega) ?_
               intro v' w3 hown' hgrow hnil
               have A4 := (AA3.out.later (World.grownBy_alloc _ _ none)).app hgrow hown'
               obtain ⟨sl, sf⟩ := (AA3.out.later (World.grownBy_alloc _ _ none)).l_kept hgrow
               obtain ⟨g', cap', rfl⟩ := own_slice hown' rfl
               have AA4 : Aside _ := A4
               clear A4 hown' hgrow hnil))
          go_roundg (an - (j + 1))
          case measure => omega
          case rel =>
            have A5 := AA4.out
            rw [List.length_append] at A5
            refine ⟨j + 1, .slice (some ⟨g', 0, none⟩) (l.length + (adds ef j).length + 1) cap', by first | rfl | go_num, by omega, Nat.le_refl _, ?_⟩
            rw [ER.out, ← List.append_assoc, flatE_app, List.length_append, List.length_append]
            exact A5
      · have hkb : (kj == 4) = false := by simp [hk4]
        have er : adds ef (j + 1) = adds ef j := by rw [adds_succ, HEF.out, if_neg (by omega)]; simp
        have ER : Hid _ := er
        clear er HEF hk4
        go_wp2
        go_roundg (an - (j + 1))
        case measure => omega
        case rel => exact ⟨j + 1, lv', by first | rfl | go_num, by omega, Nat.le_refl _, by rw [ER.out]; exact AA2⟩
    · have hltz : ¬ (j : Int) < (an : Int) := by omega
      obtain rfl : j = an := by omega
      go_wp2
      go_returns
      have hO := A1.out.o
      rw [List.length_append] at hO
      exact ⟨rfl, A1.out.b, lv', A1.out.l, hO⟩
end Go.Proofs.Ytgbhmkdldfhamaa.charsOf
/-
  append of a slice of another type of like elements, onto a row of one's own.
-/
namespace Go.Proofs.Ytgbhmkdldfhamaa.charsOf
open Go.Shelf Go.RowKit Go.Lib Go.Sort
variable {P : Program}
theorem run_app2 {t tx ty e e' : TypeId} (ht : P.underlying t = some (.slice e)) (htx : P.underlying tx = some (.slice e')) (b : Option Addr) (l k : Nat) (a : Option Addr) (m c : Nat) {i : TypeInfo} (hi : P.info? e = some i) (w : World) :
    (Builtin.append_ #[t, tx] ty #[.slice b l k, .slice a m c]).run P w = (Builtin.append_ #[t, t] ty #[.slice b l k, .slice a m c]).run P w := by
  unfold Builtin.append_
  simp [run_underlying ht, run_underlying htx, sizeOf, typeInfo, hi]
theorem run_app0 {t ty e : TypeId} {i : TypeInfo} (ht : P.underlying t = some (.slice e)) (hi : P.info? e = some i) {base n : Nat} {v : Value} {xs : List Value} {w : World} (ho : w.ownsRow base e i.size v n xs) (c : Nat) :
    (Builtin.append_ #[t, t] ty #[v, .slice none 0 c]).run P w = .ok v w := by
  rcases ho.2 with ⟨rfl, rfl⟩ | ⟨g, cap, cur, rfl, _, _, hc, _⟩
  · simp [Builtin.append_, run_underlying ht, sizeOf, typeInfo, hi, Builtin.lenOf, Builtin.firstCells]
  · simp [Builtin.append_, run_underlying ht, sizeOf, typeInfo, hi, Builtin.lenOf, Builtin.firstCells, hc, storeCells]
/-- Of a slice, nil or not. -/
theorem run_app_any {t tx ty e : TypeId} {i : TypeInfo} {z : Value} (ht : P.underlying t = some (.slice e)) (htx : P.underlying tx = some (.slice e)) (hi : P.info? e = some i) (hz : i.zero = some z) (hzs : z.cells.size = i.size) (hsz : 0 < i.size)
    {base n : Nat} {v : Value} {xs : List Value} {w : World} (ho : w.ownsRow base e i.size v n xs) (a : Option Addr) (m c : Nat) (news : List Value) (hl : news.length = m * i.size) (ha : a = none → m = 0) (hnews : ∀ ad, a = some ad → ∀ j u, news[j]? = some u → w.cell? (ad.add j) = some u) (h1 : ∀ u ∈ news, u.oneCell' = true)
    (h63 : n + m ≤ maxLen) (hbytes : (n + m) * i.bytes ≤ 140737488355328) (hbase : base ≤ w.heap.size) :
    ∃ v' w', (Builtin.append_ #[t, tx] ty #[v, .slice a m c]).run P w = .ok v' w' ∧ w'.ownsRow base e i.size v' (n + m) (xs ++ news) ∧ w.grownBy w' v.ownBlock := by
  obtain ⟨b, l, k, hv⟩ : ∃ b l k, v = .slice b l k := by
    rcases ho.2 with ⟨rfl, _⟩ | ⟨g, cap, cur, rfl, _⟩
    · exact ⟨_, _, _, rfl⟩
    · exact ⟨_, _, _, rfl⟩
  have e0 : (Builtin.append_ #[t, tx] ty #[v, .slice a m c]).run P w = (Builtin.append_ #[t, t] ty #[v, .slice a m c]).run P w := by
    rw [hv]
    exact run_app2 ht htx b l k a m c hi w
  rw [e0]
  clear e0 hv
  cases a with
  | none =>
    obtain rfl := ha rfl
    have : news = [] := List.eq_nil_of_length_eq_zero (by simpa using hl)
    subst this
    refine ⟨v, w, run_app0 ht hi ho c, by simpa using ho, ⟨rfl, rfl, rfl, Nat.le_refl _, fun _ _ _ => rfl⟩⟩
  | some ad =>
    obtain ⟨v', w', h1, h2, h3, _⟩ := run_append_own (P := P) w base t ty e i z i.size i.bytes ht hi hz rfl rfl hzs hsz v n xs ho ad m c news hl (hnews ad rfl) h1 h63 hbytes hbase
    exact ⟨v', w', h1, h2, h3⟩
theorem wpList_app_run {ops : Array Oper} {rest : List Oper} {o : Oper} {a : Act} {w : World} {Q : Exit → Act → World → Prop} (hgd : o.guard = none) (s x : Operand) (ats : Array TypeId)
    (ho : o.op = .call { callee := .builtin .append, args := #[s, x], argTypes := ats }) (v xv : Value) (hs : a.eval s = v) (hx : a.eval x = xv) (v' : Value) (w' : World) (hr : (Builtin.append_ ats o.type #[v, xv]).run P w = .ok v' w')
    (h : wpList P ops Q rest (a.put o.dst v') w') : wpList P ops Q (o :: rest) a w :=
  wpList_plain hgd fun _ hK => by
    unfold Oper.wp execOp
    simp only [ho, resolve, invoke, builtin, Sem.run_bind, Sem.run_pure, Result.andThen_ok, List.map_toArray, List.map_cons, List.map_nil, hs, hx, hr]
    exact hK _ _ h
end Go.Proofs.Ytgbhmkdldfhamaa.charsOf
/-
  Chapter 14: Effects, walked with its aggregates unopened.
-/
namespace Go.Proofs.Ytgbhmkdldfhamaa.charsOf
open Go.Shelf Go.RowKit Go.Lib Go.Sort
theorem blk_sets (b : Nat) (t : TypeId) : ∀ (vs : List Value) (o : Nat) {W : World} {F : Array Value}, W.heap[b]? = some (.cells F t) → (W.setCells b o vs).heap[b]? = some (.cells (setMany F o vs) t)
  | [], _, _, _, h => h
  | v :: vs, o, W, F, h => by
    rw [World.setCells, setMany]
    refine blk_sets b t vs (o + 1) ?_
    simp only [World.setCell, Array.getElem?_modify, h]
    simp
theorem setMany_all {l m : List Value} (hk : m.length = l.length) : setMany l.toArray 0 m = m.toArray := by
  refine ext_get! (by simp [hk]) fun t ht => ?_
  rw [get_setMany _ _ _ t (by simpa using ht), if_pos ⟨Nat.zero_le _, by simp [hk]; simpa using ht⟩]
  simp
theorem blk_put {W : World} {b : Nat} {l : List Value} {t : TypeId} (h : W.heap[b]? = some (.cells l.toArray t)) (m : List Value) (hk : m.length = l.length) : (W.setCells b 0 m).heap[b]? = some (.cells m.toArray t) := by
  have := blk_sets b t m 0 h
  rwa [setMany_all hk] at this
theorem sets_other {b c : Nat} (hn : b ≠ c) : ∀ (vs : List Value) (o : Nat) {W : World}, (W.setCells c o vs).heap[b]? = W.heap[b]?
  | [], _, _ => rfl
  | v :: vs, o, W => by
    rw [World.setCells, sets_other hn vs (o + 1)]
    exact Below.heap_setCell _ _ _ _ hn
theorem blk_new (W : World) (o : Obj) : (W.alloc o).heap[W.heap.size]? = some o := by
  show (W.heap.push _)[W.heap.size]? = _
  simp
theorem blk_old {W : World} {b : Nat} {o : Obj} (h : W.heap[b]? = some o) (o' : Obj) : (W.alloc o').heap[b]? = some o := by
  rw [← h]
  exact Below.heap_alloc _ _ _ (blk_lt h)
theorem blk_gr {W W' : World} {b : Nat} {o : Obj} (h : W.heap[b]? = some o) (g : Gr W W') : W'.heap[b]? = some o := by
  rw [(gr_grown g).block b (blk_lt h) (by simp)]
  exact h
theorem gr_below {w W W' : World} {N : Nat} (h : Below N w W) (hN : N ≤ W.heap.size) (g : Gr W W') : Below N w W' := h.grown (gr_grown g) hN fun k hk => by cases hk
/-- What is held while effects are gathered. -/
structure Ei (w : World) (b3 b4 b7 bl : Nat) (cv : Value) (SL Ob : List Value) (lv : Value) (l : List Ef) (W : World) : Prop where
  b : Below w.heap.size w W
  c3 : W.heap[b3]? = some (.cells #[cv] 22)
  c4 : W.heap[b4]? = some (.cells SL.toArray 32)
  c7 : W.heap[b7]? = some (.cells Ob.toArray 56)
  cl : W.heap[bl]? = some (.cells #[lv] 71)
  o : W.ownsRow (bl + 1) 58 4 lv l.length (flatE l)
  h3 : b3 < bl
  h4 : b4 < bl
  h7 : b7 < bl
  hN : w.heap.size ≤ bl
theorem Ei.gr {w : World} {b3 b4 b7 bl : Nat} {cv : Value} {SL Ob : List Value} {lv : Value} {l : List Ef} {W W' : World} (h : Ei w b3 b4 b7 bl cv SL Ob lv l W) (g : Gr W W') : Ei w b3 b4 b7 bl cv SL Ob lv l W' :=
  ⟨gr_below h.b (by have := blk_lt h.cl; have := h.hN; omega) g, blk_gr h.c3 g, blk_gr h.c4 g, blk_gr h.c7 g, blk_gr h.cl g, h.o.kept (gr_grown g) (by cases hv : lv.ownBlock <;> simp), h.h3, h.h4, h.h7, h.hN⟩
theorem Ei.call {w : World} {b3 b4 b7 bl : Nat} {cv : Value} {SL Ob : List Value} {lv lv' : Value} {l l' : List Ef} {W W' : World} (h : Ei w b3 b4 b7 bl cv SL Ob lv l W) (hb : Below bl W W') (hl : W'.heap[bl]? = some (.cells #[lv'] 71)) (ho : W'.ownsRow (bl + 1) 58 4 lv' l'.length (flatE l')) : Ei w b3 b4 b7 bl cv SL Ob lv' l' W' :=
  ⟨h.b.trans (hb.mono h.hN), by rw [hb.block _ h.h3]; exact h.c3, by rw [hb.block _ h.h4]; exact h.c4, by rw [hb.block _ h.h7]; exact h.c7, hl, ho, h.h3, h.h4, h.h7, h.hN⟩
theorem Ei.set {w : World} {b3 b4 b7 bl : Nat} {cv : Value} {SL Ob : List Value} {lv lv' : Value} {l l' : List Ef} {W W' : World} (h : Ei w b3 b4 b7 bl cv SL Ob lv l W) (g : W.grownBy W' lv.ownBlock) (ho : W'.ownsRow (bl + 1) 58 4 lv' l'.length (flatE l')) : Ei w b3 b4 b7 bl cv SL Ob lv' l' (W'.setCell ⟨bl, 0, none⟩ lv') ∧ W'.cell? ⟨bl, 0, none⟩ = some lv ∧ W'.frozen? ⟨bl, 0, none⟩ = false := by
  have hl := h.o.lt
  have nb : ∀ k, k ≤ bl → some k ≠ lv.ownBlock := fun k hk e => by have := (hl k e.symm).1; omega
  have k1 : ∀ k o, k ≤ bl → W.heap[k]? = some o → W'.heap[k]? = some o := fun k o hk ho => by rw [g.block k (blk_lt ho) (nb k hk)]; exact ho
  have l1 := k1 bl _ (Nat.le_refl _) h.cl
  have gs : W'.grownBy (W'.setCell ⟨bl, 0, none⟩ lv') (some bl) := ⟨rfl, rfl, rfl, by simp, fun k hk hn => Below.heap_setCell _ _ _ _ (fun e => hn (by rw [e]))⟩
  have k2 : ∀ k o, k < bl → W.heap[k]? = some o → (W'.setCell ⟨bl, 0, none⟩ lv').heap[k]? = some o := fun k o hk ho => by
    rw [gs.block k (blk_lt (k1 k o (by omega) ho)) (by simp; omega)]
    exact k1 k o (by omega) ho
  refine ⟨⟨?_, k2 _ _ h.h3 h.c3, k2 _ _ h.h4 h.c4, k2 _ _ h.h7 h.c7, ?_, ?_, h.h3, h.h4, h.h7, h.hN⟩, ?_⟩
  · exact (h.b.grown g (by have := blk_lt h.cl; have := h.hN; omega) fun k hk => by have := (hl k hk).1; have := h.hN; omega).setCell (p := ⟨bl, 0, none⟩) h.hN _
  · simp only [World.setCell, Array.getElem?_modify, l1]
    simp
  · exact ho.kept gs (by
      cases hv : lv'.ownBlock with
      | none => exact .inl rfl
      | some k => exact .inr fun e => by have := (ho.lt k hv).1; injection e with e; omega)
  · exact blk_hold (l := [lv]) l1 0 (by simp)
/-- The beast's and the card's boxes. -/
theorem start3 (P : Program) (W : World) {A B X Y : List Value} (t u : TypeId) (hX : X.length = A.length) (hY : Y.length = B.length) (oX : ∀ v ∈ X, v.oneCell' = true) (oY : ∀ v ∈ Y, v.oneCell' = true) :
    Sem.run P (storeCells ⟨W.heap.size, 0, none⟩ X 0) ((W.alloc (.cells A.toArray t)).alloc (.cells B.toArray u)) = .ok () (((W.alloc (.cells A.toArray t)).alloc (.cells B.toArray u)).setCells W.heap.size 0 X) ∧
    Sem.run P (storeCells ⟨W.heap.size + 1, 0, none⟩ Y 0) (((W.alloc (.cells A.toArray t)).alloc (.cells B.toArray u)).setCells W.heap.size 0 X) = .ok () ((((W.alloc (.cells A.toArray t)).alloc (.cells B.toArray u)).setCells W.heap.size 0 X).setCells (W.heap.size + 1) 0 Y) ∧
    Gr W ((((W.alloc (.cells A.toArray t)).alloc (.cells B.toArray u)).setCells W.heap.size 0 X).setCells (W.heap.size + 1) 0 Y) ∧
    ((((W.alloc (.cells A.toArray t)).alloc (.cells B.toArray u)).setCells W.heap.size 0 X).setCells (W.heap.size + 1) 0 Y).heap[W.heap.size]? = some (.cells X.toArray t) ∧
    ((((W.alloc (.cells A.toArray t)).alloc (.cells B.toArray u)).setCells W.heap.size 0 X).setCells (W.heap.size + 1) 0 Y).heap.size = W.heap.size + 2 := by
  have h1 : ((W.alloc (.cells A.toArray t)).alloc (.cells B.toArray u)).heap[W.heap.size]? = some (.cells A.toArray t) := blk_old (blk_new W _) _
  have h2 : ((W.alloc (.cells A.toArray t)).alloc (.cells B.toArray u)).heap[W.heap.size + 1]? = some (.cells B.toArray u) := by
    have := blk_new (W.alloc (.cells A.toArray t)) (.cells B.toArray u)
    simpa using this
  have h3 := blk_put h1 X hX
  have h4 : (((W.alloc (.cells A.toArray t)).alloc (.cells B.toArray u)).setCells W.heap.size 0 X).heap[W.heap.size + 1]? = some (.cells B.toArray u) := by
    rw [sets_other (by omega)]
    exact h2
  refine ⟨hold_st P (blk_hold h1) X hX oX, hold_st P (blk_hold h4) Y hY oY, ?_, ?_, ?_⟩
  · exact Gr.sets (W := (((W.alloc (.cells A.toArray t)).alloc (.cells B.toArray u)).setCells W.heap.size 0 X)) _ (by omega) _ 0 (Gr.sets (W := ((W.alloc (.cells A.toArray t)).alloc (.cells B.toArray u))) _ (Nat.le_refl _) _ 0 ((Gr.refl W).alloc _ |>.alloc _))
  · rw [sets_other (by omega)]
    exact h3
  · rw [size_setCells, size_setCells]
    simp
/-- What is asked of Effects' callees, and of its data. -/
structure EfIn (P : Program) (k56 : Nat) (w : World) (ca : Option Addr) (cn cc : Nat) (SL Ob : List Value) (fi : Int → Int) (on : Nat) (Xo : Nat → List Value) (con : Nat → List Ef) : Prop where
  e24 : ∀ args w, (callFunc 24 args).run P w = .ok (.enter 24 args) w
  e27 : ∀ args w, (callFunc 27 args).run P w = .ok (.enter 27 args) w
  e30 : ∀ args w, (callFunc 30 args).run P w = .ok (.enter 30 args) w
  f26 : ∀ n W, Below w.heap.size w W → Calls P 26 #[.agg SL.toArray, .int .i64 n] W fun e w' => e = .returned (.int .i64 (fi n)) ∧ Gr W w'
  lt : ∀ n, fi n < on
  act : ∀ p, p < on → ∀ b3 b7 bl W lv l, b3 < bl → b7 < bl → w.heap.size ≤ bl → Below w.heap.size w W → W.heap[b3]? = some (.cells #[.slice ca cn cc] 22) → W.heap[b7]? = some (.cells Ob.toArray 56) → W.heap[bl]? = some (.cells #[lv] 71) → W.ownsRow (bl + 1) 58 4 lv l.length (flatE l) → l.length ≤ 999000 →
    Calls P 24 #[.agg (Xo p).toArray, .pointer (some ⟨b3, 0, none⟩), .pointer (some ⟨b7, 0, none⟩), .pointer (some ⟨bl, 0, none⟩)] W fun e w' => e = .returned (.tuple #[]) ∧ ∃ lv', Below bl W w' ∧ w'.heap[bl]? = some (.cells #[lv'] 71) ∧ w'.ownsRow (bl + 1) 58 4 lv' (l ++ con p).length (flatE (l ++ con p))
  con : ∀ p, (con p).length ≤ 1000
  hX : ∀ p, p < on → (Xo p).length = k56
set_option maxHeartbeats 8000000 in
set_option maxRecDepth 100000 in
theorem ef_none {P : Program} {k32 k56 k54 k74 : Nat} {y56 y54 y74 : List Value} (L : LayD P k32 k56 k54 k74 y56 y54 y74) (hy6 : y56.length = k56) (hy4 : y54.length = k54) (ca : Option Addr) (cn cc : Nat) (SL : List Value) (hS : SL.length = k32) (id : Int) (w : World) (Ob Cd : List Value) (hO : Ob.length = k56) (hC : Cd.length = k54) (oO : ∀ v ∈ Ob, v.oneCell' = true) (oC : ∀ v ∈ Cd, v.oneCell' = true)
    (h21 : ∀ W, Gr w W → Calls P 21 #[.slice ca cn cc, .agg SL.toArray, .int .i64 id] W fun e w' => e = .returned (.tuple #[.agg Ob.toArray, .agg Cd.toArray, .bool false]) ∧ Gr W w') :
    Calls P 13 #[.slice ca cn cc, .agg SL.toArray, .int .i64 id] w fun e w' => e = .returned (.slice none 0 0) ∧ Below w.heap.size w w' := by
  have mixed := L.c.mixed; have t3 := L.c.t3; have a3 := L.c.a3; have z3 := L.c.z3; have t4 := L.c.t4; have a4 := L.c.a4; have z4 := L.c.z4; have a56 := L.c.a56; have z56 := L.c.z56; have u56 := run_underlying L.c.t56; have u54 := run_underlying L.c.t54; have t22 := L.c.t22; have a22 := L.c.a22; have z22 := L.c.z22; have a54 := L.c.a54; have z54 := L.c.z54; have e25 := L.e25; have u74 := run_underlying L.t74; have a74 := L.a74; have z74 := L.z74; have v74 := L.v74; have t52 := L.t52; have a52 := L.a52; have z52 := L.z52; have t71 := L.t71; have a71 := L.a71; have z71 := L.z71; have u71 := run_underlying L.t71; have u58 := run_underlying L.t58; have a58 := L.a58; have z58 := L.z58; have v58 := L.v58; have t24 := L.c.t24; have a24 := L.c.a24; have z24 := L.c.z24; have t26 := L.c.t26; have a26 := L.c.a26; have z26 := L.c.z26; have u32 := run_underlying L.c.t32; have a32 := L.c.a32; have z32 := L.c.z32; have v56 := L.c.v56; have v54 := L.c.v54; have e26 := L.c.e26; have e21 := L.c.e21; have t40 := L.c.t40; have a40 := L.c.a40; have z40 := L.c.z40; have v71 := L.v71; have t67 := L.c.t67
  have g0 : Gr w ((w.alloc (.cells #[.slice ca cn cc] 22)).alloc (.cells SL.toArray 32)) := (Gr.refl _).alloc _ |>.alloc _
  have l4 := hold_ld P (hold_new (w.alloc (.cells #[.slice ca cn cc] 22)) SL 32) hS
  simp only [World.size_alloc] at l4
  have G0 : Aside _ := g0
  have H21 : Aside _ := h21
  clear h21 g0
  go_enter L.c.f13, Try.ntmps13
  go_wp2_with (first | (go_at_fn 21; refine (H21.out _ G0.out).mono ?_; rintro e w1 ⟨rfl, hG⟩; obtain ⟨s7, s8, g7, b7, z7⟩ := start3 P w1 56 54 (hO.trans hy6.symm) (hC.trans hy4.symm) oO oC; have GG : Aside _ := Gr.trans (Gr.trans G0.out hG) g7; clear hG g7 b7 z7))
  go_returns
  exact ⟨rfl, gr_below (.refl _ _) (Nat.le_refl _) GG.out⟩
end Go.Proofs.Ytgbhmkdldfhamaa.charsOf
/-
  Chapter 14: Effects of a beast, gathered.
-/
namespace Go.Proofs.Ytgbhmkdldfhamaa.charsOf
open Go.Shelf Go.RowKit Go.Lib Go.Sort
/-- What the objects of these ids add. -/
def gath (fi : Int → Int) (con : Nat → List Ef) (fs : List Int) : List Ef := fs.flatMap fun n => if 0 ≤ fi n then con (fi n).toNat else []
theorem gath_snoc (fi : Int → Int) (con : Nat → List Ef) (fs : List Int) (n : Int) : gath fi con (fs ++ [n]) = gath fi con fs ++ (if 0 ≤ fi n then con (fi n).toNat else []) := by
  unfold gath
  rw [List.flatMap_append]
  simp
theorem gath_len {fi : Int → Int} {con : Nat → List Ef} (h : ∀ p, (con p).length ≤ 1000) (fs : List Int) : (gath fi con fs).length ≤ fs.length * 1000 := by
  induction fs with
  | nil => simp [gath]
  | cons n fs ih =>
    unfold gath at ih ⊢
    rw [List.flatMap_cons, List.length_append, List.length_cons]
    have : (if 0 ≤ fi n then con (fi n).toNat else []).length ≤ 1000 := by
      split
      · exact h _
      · simp
    omega
/-- What DeleteFunc and SortStableFunc do. -/
structure Tail (P : Program) : Prop where
  d0 : ∀ W, Calls P 27 #[.slice none 0 0, .func (.func 28) #[] #[]] W fun e w' => e = .returned (.slice none 0 0) ∧ w' = W
  d : ∀ g cap d W, HoldsK encE 4 W g 0 d → g < W.heap.size → d.size < 2305843009213693952 → d.size ≤ cap → Calls P 27 #[.slice (some ⟨g, 0, none⟩) d.size cap, .func (.func 28) #[] #[]] W fun e w' => ∃ k : Array Ef, k.toList = d.toList.filter hasL ∧ e = .returned (.slice (some ⟨g, 0, none⟩) k.size cap) ∧ Below g W w' ∧ HoldsK encE 4 w' g 0 k
  s0 : ∀ rv W, Calls P 30 #[.slice none 0 0, .func (.func 31) #[rv] #[]] W fun e w' => e = .returned (.tuple #[]) ∧ w' = W
  s : ∀ rv g cap d W, HoldsK encE 4 W g 0 d → g < W.heap.size → d.size < 2305843009213693952 → Calls P 30 #[.slice (some ⟨g, 0, none⟩) d.size cap, .func (.func 31) #[rv] #[]] W fun e w' => e = .returned (.tuple #[]) ∧ ∃ d' : Array Ef, d'.size = d.size ∧ Stb (ltOf cmpE) d.toList d'.toList ∧ Srt (ltOf cmpE) d'.toList ∧ Below g W w' ∧ HoldsK encE 4 w' g 0 d'
theorem flat_flatK (l : List Ef) : (flatK encE 4 l.toArray).toList = flatE l := by
  apply List.ext_getElem
  · simp [flatE_len]
  · intro i h1 h2
    simp only [flatK, Array.toList_map, List.getElem_map, Array.toList_range, List.getElem_range]
    have hl : i < l.length * 4 := by simpa [flatE_len] using h2
    clear h1
    induction l generalizing i with
    | nil => simp at hl
    | cons x l ih =>
      have e : flatE (x :: l) = encE x ++ flatE l := by simp [flatE]
      simp only [List.length_cons] at hl
      rcases Nat.lt_or_ge i 4 with h | h
      · simp only [e]
        rw [List.getElem_append_left (by rw [encE_len]; exact h), show i / 4 = 0 by omega, show i % 4 = i by omega]
        rw [getElem!_pos (encE _) i (by rw [encE_len]; exact h)]
        simp
      · simp only [e]
        rw [List.getElem_append_right (by rw [encE_len]; exact h)]
        have := ih (i - 4) (by rw [flatE_len]; omega) (by omega)
        simp only [encE_len]
        rw [← this, show i / 4 = (i - 4) / 4 + 1 by omega, show (i - 4) % 4 = i % 4 by omega]
        congr 1
        have h3 : (i - 4) / 4 < l.length := by omega
        rw [getElem!_pos (x :: l).toArray _ (by simp; omega), getElem!_pos l.toArray _ (by simpa using h3)]
        simp
theorem own_holds {W : World} {base n c : Nat} {g : Nat} {l : List Ef} (h : W.ownsRow base 58 4 (.slice (some ⟨g, 0, none⟩) n c) l.length (flatE l)) : n = l.length ∧ l.length ≤ c ∧ HoldsK encE 4 W g 0 l.toArray ∧ g < W.heap.size ∧ base ≤ g := by
  rcases h.2 with ⟨e, _⟩ | ⟨g', cap, cur, e, hb, hg, hc, _⟩
  · cases e
  · injection e with e1 e2 e3
    injection e1 with e1
    injection e1 with e1
    subst e1 e2 e3
    refine ⟨rfl, hc, fun j hj => ?_, blk_lt hg, hb⟩
    rw [Nat.zero_add]
    have hj' : j < (flatE l).length := by rw [← flat_flatK]; simpa using hj
    refine ⟨?_, h.frozenAt j⟩
    rw [h.cellAt j (by rw [← flatE_len]; exact hj'), List.getElem?_eq_getElem hj']
    simp only [← flat_flatK, id]
    rw [getElem!_pos _ j hj]
    simp
set_option maxHeartbeats 16000000 in
set_option maxRecDepth 100000 in
theorem ef_beast {P : Program} {k32 k56 k54 k74 : Nat} {y56 y54 y74 : List Value} (L : LayD P k32 k56 k54 k74 y56 y54 y74) (hy6 : y56.length = k56) (hy4 : y54.length = k54) (ca : Option Addr) (cn cc : Nat) (SL : List Value) (hS : SL.length = k32) (oB oO on oc : Nat) (q1 : SL[1]? = some (.slice (some ⟨oB, oO, none⟩) on oc)) (fa : Option Addr) (fs : List Int) (fc : Nat) (q6 : SL[6]? = some (.slice fa fs.length fc)) (id : Int) (w : World)
    (Ob Cd : List Value) (hO : Ob.length = k56) (hC : Cd.length = k54) (oO' : ∀ v ∈ Ob, v.oneCell' = true) (oC : ∀ v ∈ Cd, v.oneCell' = true)
    (h21 : ∀ W, Gr w W → Calls P 21 #[.slice ca cn cc, .agg SL.toArray, .int .i64 id] W fun e w' => e = .returned (.tuple #[.agg Ob.toArray, .agg Cd.toArray, .bool true]) ∧ Gr W w')
    (fi : Int → Int) (Xo : Nat → List Value) (con : Nat → List Ef) (I : EfIn P k56 w ca cn cc SL Ob fi on Xo con) (hfn : fs.length ≤ 900)
    (hfs : ∀ i, i < fs.length → ∃ B O, fa = some ⟨B, O, none⟩ ∧ ∀ W, Below w.heap.size w W → W.cell? ⟨B, O + i, none⟩ = some (.int .i64 fs[i]!))
    (hXo : ∀ p, p < on → ∀ W, Below w.heap.size w W → Sem.run P (loadCellsFrom ⟨oB, oO + p * k56, none⟩ 0 k56 #[]) W = .ok (Xo p).toArray W)
    (ea : Option Addr) (effs : List Ef) (ec : Nat) (q13 : Ob[13]? = some (.slice ea effs.length ec)) (hen : effs.length ≤ 1000) (hea : ea = none → effs = [])
    (hef : ∀ ad, ea = some ad → ∀ W, Below w.heap.size w W → ∀ j u, (flatE effs)[j]? = some u → W.cell? (ad.add j) = some u) (D : Tail P) :
    Calls P 13 #[.slice ca cn cc, .agg SL.toArray, .int .i64 id] w fun e w' => ∃ a c R, e = .returned (.slice a (List.length R) c) ∧ Stb (ltOf cmpE) ((gath fi con fs ++ effs).filter hasL) R ∧ Srt (ltOf cmpE) R ∧ Below w.heap.size w w' ∧ (R = [] ∨ ∃ g, a = some ⟨g, 0, none⟩ ∧ g < w'.heap.size ∧ HoldsK encE 4 w' g 0 R.toArray) := by
  have mixed := L.c.mixed; have t3 := L.c.t3; have a3 := L.c.a3; have z3 := L.c.z3; have t4 := L.c.t4; have a4 := L.c.a4; have z4 := L.c.z4; have a56 := L.c.a56; have z56 := L.c.z56; have u56 := run_underlying L.c.t56; have u54 := run_underlying L.c.t54; have t22 := L.c.t22; have a22 := L.c.a22; have z22 := L.c.z22; have a54 := L.c.a54; have z54 := L.c.z54; have e25 := L.e25; have u74 := run_underlying L.t74; have a74 := L.a74; have z74 := L.z74; have v74 := L.v74; have t52 := L.t52; have a52 := L.a52; have z52 := L.z52; have t71 := L.t71; have a71 := L.a71; have z71 := L.z71; have u71 := run_underlying L.t71; have u58 := run_underlying L.t58; have a58 := L.a58; have z58 := L.z58; have v58 := L.v58; have t24 := L.c.t24; have a24 := L.c.a24; have z24 := L.c.z24; have t26 := L.c.t26; have a26 := L.c.a26; have z26 := L.c.z26; have u32 := run_underlying L.c.t32; have a32 := L.c.a32; have z32 := L.c.z32; have v56 := L.c.v56; have v54 := L.c.v54; have e26 := L.c.e26; have e21 := L.c.e21; have t40 := L.c.t40; have a40 := L.c.a40; have z40 := L.c.z40; have v71 := L.v71; have t67 := L.c.t67
  have e24 := I.e24; have e27 := I.e27; have e30 := I.e30
  have g0 : Gr w ((w.alloc (.cells #[.slice ca cn cc] 22)).alloc (.cells SL.toArray 32)) := (Gr.refl _).alloc _ |>.alloc _
  have l4 := hold_ld P (hold_new (w.alloc (.cells #[.slice ca cn cc] 22)) SL 32) hS
  simp only [World.size_alloc] at l4
  have G0 : Aside _ := g0
  have H21 : Aside _ := h21
  have II : Aside _ := I
  have HFS : Aside _ := hfs
  have HXO : Aside _ := hXo
  have HEF : Aside _ := hef
  have HEA : Aside _ := hea
  have DD : Aside _ := D
  clear h21 g0 I hfs hXo hef hea D
  go_enter L.c.f13, Try.ntmps13
  go_upto_region 6 with (first | (go_at_fn 21; refine (H21.out _ G0.out).mono ?_; rintro e w1 ⟨rfl, hG⟩; obtain ⟨s7, s8, g7, b7, z7⟩ := start3 P w1 56 54 (hO.trans hy6.symm) (hC.trans hy4.symm) oO' oC; have n7 : w.heap.size + 1 < w1.heap.size := (by have := Gr.le hG; simp at this; omega); have b3 := blk_gr (blk_gr (blk_old (blk_new w (.cells #[.slice ca cn cc] 22)) (.cells SL.toArray 32)) hG) g7; have b4' := blk_new (w.alloc (.cells #[.slice ca cn cc] 22)) (.cells SL.toArray 32); rw [World.size_alloc] at b4'; have b4 := blk_gr (blk_gr b4' hG) g7; have GG : Aside _ := Gr.trans (Gr.trans G0.out hG) g7; have B347 : Aside _ := (And.intro b3 (And.intro b4 (And.intro b7 (And.intro z7 n7)))); clear hG g7 b7 z7 b3 b4 b4'))
  obtain ⟨b3, b4, b7, z7, n7'⟩ := B347.out
  have E0 : Ei w w.heap.size (w.heap.size + 1) w1.heap.size (w1.heap.size + 2) (.slice ca cn cc) SL Ob (.slice none 0 0) [] (((((w1.alloc (Obj.cells y56.toArray 56)).alloc (Obj.cells y54.toArray 54)).setCells w1.heap.size 0 Ob).setCells (w1.heap.size + 1) 0 Cd).alloc (Obj.cells #[Value.slice none 0 0] 71)) := by
    refine ⟨gr_below (.refl _ _) (Nat.le_refl _) (Gr.alloc GG.out _), blk_old b3 _, blk_old b4 _, blk_old b7 _, ?_, World.ownsRow_nil _ _ _ _, by omega, by omega, by omega, by omega⟩
    have := blk_new ((((w1.alloc (Obj.cells y56.toArray 56)).alloc (Obj.cells y54.toArray 54)).setCells w1.heap.size 0 Ob).setCells (w1.heap.size + 1) 0 Cd) (Obj.cells #[Value.slice none 0 0] 71)
    rw [z7] at this
    exact this
  clear b3 b4 b7 z7 n7' B347 GG s7 s8 l4 H21 G0
  generalize (((((w1.alloc (Obj.cells y56.toArray 56)).alloc (Obj.cells y54.toArray 54)).setCells w1.heap.size 0 Ob).setCells (w1.heap.size + 1) 0 Cd).alloc (Obj.cells #[Value.slice none 0 0] 71)) = W at E0 ⊢
  have c6 := hold_cell (blk_hold E0.c4) q6
  have EE : Aside _ := E0
  clear E0
  go_wp2
  go_loopg [29] fs.length (fun kx s29 wr => ∃ (i : Nat) (lv : Value), s29 = .int .i64 i ∧ i ≤ fs.length ∧ fs.length - i ≤ kx ∧ Aside (Ei w w.heap.size (w.heap.size + 1) w1.heap.size (w1.heap.size + 2) (.slice ca cn cc) SL Ob lv (gath fi con (fs.take i)) wr))
  case atStart => exact ⟨0, _, rfl, Nat.zero_le _, Nat.le_refl _, EE⟩
  case round =>
    clear EE c6
    obtain ⟨i, lv, rfl, hid, hkx, A1⟩ := hrel
    have wj : IntKind.i64.wrap ((i : Int) + 1) = (i : Int) + 1 := by rw [IntKind.wrap_i64]; omega
    by_cases hlt : i < fs.length
    · have hltz : (i : Int) < (fs.length : Int) := by omega
      obtain ⟨fB, fO, rfl, hfc⟩ := HFS.out i hlt
      have cF := hfc wr A1.out.b
      clear hfc
      have hT : fs.take (i + 1) = fs.take i ++ [fs[i]!] := by rw [List.take_succ_eq_append_getElem hlt, getElem!_pos fs i hlt]
      have hGs := gath_snoc fi con (fs.take i) fs[i]!
      rw [← hT] at hGs
      have hLn : (gath fi con (fs.take i)).length ≤ 999000 := Nat.le_trans (gath_len II.out.con _) (by rw [List.length_take]; omega)
      obtain ⟨n, hn⟩ : ∃ n, n = fs[i]! := ⟨_, rfl⟩
      rw [← hn] at cF hGs
      have HGS : Hid _ := hGs
      have HLN : Aside _ := hLn
      clear hn hT hGs hLn
      have l4 := hold_ld P (blk_hold A1.out.c4) hS
      have h26 := II.out.f26 n wr A1.out.b
      have hfl := II.out.lt n
      obtain ⟨f, hf⟩ : ∃ f, f = fi n := ⟨_, rfl⟩
      rw [← hf] at h26 hfl
      have HFI : Hid (f = fi n) := hf
      clear hf
      by_cases hf0 : 0 ≤ f
      · obtain ⟨p, rfl⟩ : ∃ p : Nat, f = p := ⟨f.toNat, by omega⟩
        have hfd : decide ((p : Int) ≥ 0) = true := decide_eq_true hf0
        have hpz : (p : Int) < (on : Int) := hfl
        have hpn : p < on := by omega
        have hlX := II.out.hX p hpn
        have hG2 : Hid (gath fi con (fs.take (i + 1)) = gath fi con (fs.take i) ++ con p) := by
          show _ = _
          rw [HGS.out, ← HFI.out, if_pos hf0, Int.toNat_natCast]
        clear HFI HGS
        go_wp2_with (first
          | (go_at_fn 26; refine h26.mono ?_; rintro e w2 ⟨rfl, hG⟩; have A2 := A1.out.gr hG; have c1 := hold_cell (blk_hold A2.c4) q1; have lX := HXO.out p hpn w2 A2.b; have AA2 : Aside _ := A2; clear A2 hG l4 cF)
          | (go_at_fn 24; refine (II.out.act p hpn _ _ _ _ _ _ AA2.out.h3 AA2.out.h7 AA2.out.hN AA2.out.b AA2.out.c3 AA2.out.c7 AA2.out.cl AA2.out.o HLN.out).mono ?_; rintro e w3 ⟨rfl, lv', k1, k2, k3⟩; have A3 : Aside _ := AA2.out.call k1 k2 k3; clear k1 k2 k3 lX c1))
        go_roundg (fs.length - (i + 1))
        case measure => omega
        case rel => exact ⟨i + 1, lv', by first | rfl | go_num, by omega, Nat.le_refl _, by rw [hG2.out]; exact A3⟩
      · have hfd : decide (f ≥ 0) = false := decide_eq_false (by omega)
        have hG2 : Hid (gath fi con (fs.take (i + 1)) = gath fi con (fs.take i)) := by
          show _ = _
          rw [HGS.out, ← HFI.out, if_neg hf0, List.append_nil]
        clear HFI HGS
        go_wp2_with (first | (go_at_fn 26; refine h26.mono ?_; rintro e w2 ⟨rfl, hG⟩; have A2 : Aside _ := A1.out.gr hG; clear hG l4 cF))
        go_roundg (fs.length - (i + 1))
        case measure => omega
        case rel => exact ⟨i + 1, lv, by first | rfl | go_num, by omega, Nat.le_refl _, by rw [hG2.out]; exact A2⟩
    · have hltz : ¬ (i : Int) < (fs.length : Int) := by omega
      obtain rfl : i = fs.length := by omega
      have hT := A1.out
      rw [List.take_length] at hT
      clear A1
      have cl := hold_cell (blk_hold (l := [lv]) hT.cl) (j := 0) rfl
      have c13 := hold_cell (blk_hold hT.c7) q13
      obtain ⟨i58, hi1, hi2, hi3, hi4⟩ := L.i58
      have hgl := gath_len (fi := fi) II.out.con fs
      have hb1 : (gath fi con fs).length + effs.length ≤ 1000000 := by omega
      obtain ⟨v', w3, hr, ho', hg'⟩ := run_app_any (P := P) (ty := 71) (t := 71) (tx := 40) L.t71 L.c.t40 hi1 hi2 (by rw [hi3]; rfl) (by rw [hi3]; decide) (by rw [hi3]; exact hT.o) ea effs.length ec (flatE effs) (by rw [hi3, flatE_len]) (fun h => by rw [HEA.out h]; rfl) (fun ad h => HEF.out ad h wr hT.b) (by
        intro u hu
        unfold flatE at hu
        obtain ⟨x, _, hx⟩ := List.mem_flatMap.1 hu
        exact encE_one x u hx) (Nat.le_trans hb1 (by decide)) (by rw [hi4]; exact Nat.le_trans (Nat.mul_le_mul_right 32 hb1) (by decide)) (by have := blk_lt hT.cl; omega)
      rw [hi3, ← flatE_app, ← List.length_append] at ho'
      obtain ⟨A4, sl, sf⟩ := hT.set hg' ho'
      have A4 : Aside _ := A4
      have HO' : Aside _ := ho'
      have hv' : (v' = .slice none 0 0 ∧ gath fi con fs ++ effs = []) ∨ ∃ g c, v' = .slice (some ⟨g, 0, none⟩) (gath fi con fs ++ effs).length c := by
        rcases ho'.2 with ⟨e, h0⟩ | ⟨g, cap, cur, e, _⟩
        · exact .inl ⟨e, List.eq_nil_of_length_eq_zero h0⟩
        · exact .inr ⟨g, cap, e⟩
      clear hT hg' ho' hi1 hi2 hi3 hi4 hltz hid hkx wj
      rcases hv' with ⟨rfl, hnil⟩ | ⟨g, c, rfl⟩
      · have c5 := hold_cell (blk_hold (l := [.slice none 0 0]) A4.out.cl) (j := 0) rfl
        have f5 := (blk_hold (l := [.slice none 0 0]) A4.out.cl 0 (by simp)).2
        have HN : Hid (gath fi con fs ++ effs = []) := hnil
        clear hnil
        have d0 := DD.out.d0
        have s0 := DD.out.s0
        go_wp2_with (first
          | (at_builtin; refine wpList_app_run rfl _ _ #[71, 40] rfl lv (.slice ea effs.length ec) rfl rfl _ w3 hr ?_)
          | (go_at_fn 27; refine (d0 _).mono ?_; rintro e w4 ⟨rfl, rfl⟩)
          | (go_at_fn 30; refine (s0 _ _).mono ?_; rintro e w5 ⟨rfl, rfl⟩))
        go_returns
        refine ⟨none, 0, [], rfl, by rw [HN.out]; exact .refl _, .nil, ?_, .inl rfl⟩
        exact A4.out.b.setCell (p := ⟨w1.heap.size + 1 + 1, 0, none⟩) A4.out.hN _
      · obtain ⟨_, hcap, hH, hg1, hg2⟩ := own_holds A4.out.o
        have c5 := hold_cell (blk_hold (l := [.slice (some ⟨g, 0, none⟩) (gath fi con fs ++ effs).length c]) A4.out.cl) (j := 0) rfl
        have hd := DD.out.d g c (gath fi con fs ++ effs).toArray _ hH hg1 (by simp only [List.size_toArray, List.length_append]; omega) (by simpa using hcap)
        rw [List.size_toArray] at hd
        have HD : Aside _ := hd
        have HG2 : Aside _ := hg2
        have HG1 : Aside _ := hg1
        have hbig : (gath fi con fs ++ effs).length ≤ 1000000 := by rw [List.length_append]; exact hb1
        have HBIG : Aside _ := hbig
        clear HD hH hcap hg2 hg1 hbig hb1 hgl
        generalize hTq : gath fi con fs ++ effs = T at A4 sl sf hr HO' hd HBIG c5 ⊢
        have HTQ : Hid _ := hTq
        clear hTq
        go_wp2_with (first
          | (at_builtin; refine wpList_app_run rfl _ _ #[71, 40] rfl lv (.slice ea effs.length ec) rfl rfl _ w3 hr ?_)
          | (go_at_fn 27; refine hd.mono ?_; rintro e w4 ⟨k, hk, rfl, hB, hK⟩; have c6 := (hB.cell (p := ⟨w1.heap.size + 1 + 1, 0, none⟩) (by exact HG2.out)).trans c5; have f6 := (hB.frozen (p := ⟨w1.heap.size + 1 + 1, 0, none⟩) (by exact HG2.out)).trans (blk_hold (l := [.slice (some ⟨g, 0, none⟩) T.length c]) A4.out.cl 0 (by simp)).2; have K1 : Aside _ := (And.intro hk (And.intro hB hK)); have KSZ : k.size < 2305843009213693952 := (by have h1 := List.length_filter_le hasL T; rw [← show k.toList = T.filter hasL from hk, Array.length_toList] at h1; have := HBIG.out; omega); clear hk hB hK c5)
          | (go_at_fn 30; refine (DD.out.s (.slice (some ⟨g, 0, none⟩) k.size c) g c k (w4.setCell ⟨w1.heap.size + 1 + 1, 0, none⟩ (.slice (some ⟨g, 0, none⟩) k.size c)) (hold_other K1.out.2.2 (by have := HG2.out; omega) 0 [.slice (some ⟨g, 0, none⟩) k.size c]) (by have a1 := K1.out.2.1.size; have a2 := HG1.out; simp only [World.size_setCell] at a1 a2 ⊢; omega) KSZ).mono ?_; rintro e w5 ⟨rfl, d', hz, hst, hsr, hB2, hK2⟩; have c7 := (hB2.cell (p := ⟨w1.heap.size + 1 + 1, 0, none⟩) (by exact HG2.out)).trans (World.cell?_setCell_same' w4 ⟨w1.heap.size + 1 + 1, 0, none⟩ (.slice (some ⟨g, 0, none⟩) k.size c) (by rw [c6]; rfl)); have K2 : Aside _ := (And.intro hz (And.intro hst (And.intro hsr (And.intro hB2 hK2)))); clear hz hst hsr hB2 hK2))
        go_returns
        obtain ⟨k1, k2, k3⟩ := K1.out
        obtain ⟨z1, z2, z3, z4, z5⟩ := K2.out
        refine ⟨some ⟨g, 0, none⟩, c, d'.toList, ?_, ?_, z3, ?_, .inr ⟨g, rfl, ?_, by simpa using z5⟩⟩
        · show Ending.returned (Value.slice (some ⟨g, 0, none⟩) k.size c) = _
          rw [Array.length_toList, z1]
        · rw [HTQ.out, ← show k.toList = T.filter hasL from k1]
          exact z2
        · refine (A4.out.b.trans (k2.mono (by have := HG2.out; have := A4.out.hN; omega))).trans ?_
          refine Below.trans ((Below.refl _ _).setCell (p := ⟨w1.heap.size + 1 + 1, 0, none⟩) A4.out.hN (.slice (some ⟨g, 0, none⟩) k.size c)) ?_
          refine Below.trans (z4.mono (by have := HG2.out; have := A4.out.hN; omega)) ?_
          exact Below.refl _ _
        · have a1 := k2.size
          have a2 := HG1.out
          have a3 := z4.size
          simp only [World.size_setCell] at a1 a2 a3 ⊢
          omega
end Go.Proofs.Ytgbhmkdldfhamaa.charsOf
