/-
  Chapter 14: what a static adds to a list of effects (the closure of Effects), walked with its aggregates unopened.
(r25)
-/
import Derived.Laws.AppendOwn
import Derived.Laws.OwnMore
import Derived.Test.YticgadnmlbfmfaaTxR
namespace Go.Proofs.Yticgadnmlbfmfaa.cachePlays
open Go.Shelf Go.RowKit Go.Lib Go.Sort
structure LayD (P : Program) (k32 k56 k54 k74 : Nat) (y56 y54 y74 : List Value) : Prop where
  c : LayC P k32 k56 k54 y56 y54
  f64 : P.funcs[64]? = some Try.f64
  e65 : ∀ args w, (callFunc 65 args).run P w = .ok (.enter 65 args) w
  t89 : P.underlying 89 = some (TypeDesc.struct #[{ name := "Kind", type := 3, offset := 0, embedded := false, tag := "", pkgPath := "", byteOffset := 0 }, { name := "Event", type := 3, offset := 1, embedded := false, tag := "", pkgPath := "", byteOffset := 8 }, { name := "Who", type := 3, offset := 2, embedded := false, tag := "", pkgPath := "", byteOffset := 16 }, { name := "Cost", type := 79, offset := 3, embedded := false, tag := "", pkgPath := "", byteOffset := 24 }, { name := "Tap", type := 4, offset := 7, embedded := false, tag := "", pkgPath := "", byteOffset := 56 }, { name := "Targets", type := 69, offset := 8, embedded := false, tag := "", pkgPath := "", byteOffset := 64 }, { name := "Code", type := 87, offset := 9, embedded := false, tag := "", pkgPath := "", byteOffset := 88 }, { name := "Op", type := 3, offset := 10, embedded := false, tag := "", pkgPath := "", byteOffset := 112 }, { name := "A", type := 3, offset := 11, embedded := false, tag := "", pkgPath := "", byteOffset := 120 }, { name := "B", type := 3, offset := 12, embedded := false, tag := "", pkgPath := "", byteOffset := 128 }])
  a89 : ∀ w, (isAgg 89).run P w = .ok true w
  z89 : ∀ w, (Go.sizeOf 89).run P w = .ok k74 w
  v89 : ∀ w, (zeroValue 89).run P w = .ok (.agg y74.toArray) w
  t80 : P.underlying 80 = some (.slice 89)
  a80 : ∀ w, (isAgg 80).run P w = .ok false w
  z80 : ∀ w, (Go.sizeOf 80).run P w = .ok 1 w
  t128 : P.underlying 128 = some (.slice 49)
  a128 : ∀ w, (isAgg 128).run P w = .ok false w
  z128 : ∀ w, (Go.sizeOf 128).run P w = .ok 1 w
  v128 : ∀ w, (zeroValue 128).run P w = .ok (.slice none 0 0) w
  t49 : P.underlying 49 = some (TypeDesc.struct #[{ name := "Op", type := 3, offset := 0, embedded := false, tag := "", pkgPath := "", byteOffset := 0 }, { name := "A", type := 3, offset := 1, embedded := false, tag := "", pkgPath := "", byteOffset := 8 }, { name := "B", type := 3, offset := 2, embedded := false, tag := "", pkgPath := "", byteOffset := 16 }, { name := "Stamp", type := 3, offset := 3, embedded := false, tag := "", pkgPath := "", byteOffset := 24 }])
  a49 : ∀ w, (isAgg 49).run P w = .ok true w
  z49 : ∀ w, (Go.sizeOf 49).run P w = .ok 4 w
  v49 : ∀ w, (zeroValue 49).run P w = .ok (.agg #[.int .i64 0, .int .i64 0, .int .i64 0, .int .i64 0]) w
  i49 : ∃ i, P.info? 49 = some i ∧ i.zero = some (.agg #[.int .i64 0, .int .i64 0, .int .i64 0, .int .i64 0]) ∧ i.size = 4 ∧ i.bytes = 32
/-- What is held while a static is looked at: all below l's block; l; the object; l's own row. -/
structure Ai (w : World) (bl nb : Nat) (X : List Value) (lv : Value) (n : Nat) (xs : List Value) (W : World) : Prop where
  b : Below bl w W
  l : W.heap[bl]? = some (.cells #[lv] 128)
  x : W.heap[nb]? = some (.cells X.toArray 30)
  o : W.ownsRow (bl + 1) 49 4 lv n xs
  g : ∀ g, lv.ownBlock = some g → g ≠ nb
theorem Ai.later {w : World} {bl nb : Nat} {X : List Value} {lv : Value} {n : Nat} {xs : List Value} {W W' : World} (h : Ai w bl nb X lv n xs W) (g : W.grownBy W' none) : Ai w bl nb X lv n xs W' :=
  ⟨h.b.grown g (by have := blk_lt h.l; omega) (fun k hk => by cases hk), by rw [g.block bl (blk_lt h.l) (by simp)]; exact h.l, by rw [g.block nb (blk_lt h.x) (by simp)]; exact h.x, h.o.kept g (by cases hv : lv.ownBlock <;> simp), h.g⟩
theorem Ai.app {w : World} {bl nb : Nat} {X : List Value} {lv lv' : Value} {n n' : Nat} {xs xs' : List Value} {W W' : World} (h : Ai w bl nb X lv n xs W) (g : W.grownBy W' lv.ownBlock) (o : W'.ownsRow (bl + 1) 49 4 lv' n' xs') : Ai w bl nb X lv' n' xs' (W'.setCell ⟨bl, 0, none⟩ lv') := by
  have hl := h.o.lt
  have nl : some bl ≠ lv.ownBlock := fun e => by have := (hl bl e.symm).1; omega
  have l1 : W'.heap[bl]? = some (.cells #[lv] 128) := by rw [g.block bl (blk_lt h.l) nl]; exact h.l
  have x1 : W'.heap[nb]? = some (.cells X.toArray 30) := by rw [g.block nb (blk_lt h.x) fun e => h.g nb e.symm rfl]; exact h.x
  have nx : nb ≠ bl := fun e => by
    subst e
    have h1 := h.x
    rw [h.l] at h1
    injection h1 with h1
    injection h1 with _ h1
    cases h1
  have gs : W'.grownBy (W'.setCell ⟨bl, 0, none⟩ lv') (some bl) := ⟨rfl, rfl, rfl, by simp, fun k hk hn => Below.heap_setCell _ _ _ _ (fun e => hn (by rw [e]))⟩
  refine ⟨?_, ?_, ?_, ?_, ?_⟩
  · exact (h.b.grown g (by have := blk_lt h.l; omega) fun k hk => by have := (hl k hk).1; omega).setCell (p := ⟨bl, 0, none⟩) (Nat.le_refl _) _
  · simp only [World.setCell, Array.getElem?_modify, l1]
    simp
  · rw [gs.block nb (blk_lt x1) (by simpa using nx)]
    exact x1
  · exact o.kept gs (by
      cases hv : lv'.ownBlock with
      | none => exact .inl rfl
      | some k => exact .inr fun e => by have := (o.lt k hv).1; injection e with e; omega)
  · intro k hk e
    subst e
    rcases o.2 with ⟨rfl, _⟩ | ⟨g', cap, cur, rfl, _, hg, _⟩
    · cases hk
    · simp only [Value.ownBlock, Option.some.injEq] at hk
      subst hk
      rw [x1] at hg
      injection hg with hg
      injection hg with _ hg
      cases hg
set_option maxHeartbeats 8000000 in
set_option maxRecDepth 100000 in
theorem act_none {P : Program} {k32 k56 k54 k74 : Nat} {y56 y54 y74 : List Value} (L : LayD P k32 k56 k54 k74 y56 y54 y74) (bc bb bl : Nat) (X : List Value) (cd : Int) (h1 : X[1]? = some (.int .i64 cd)) (ca : Option Addr) (cn cc : Nat) (w : World)
    (cl : w.cell? ⟨bc, 0, none⟩ = some (.slice ca cn cc)) (lv : Value) (n : Nat) (xs : List Value) (hl : w.heap[bl]? = some (.cells #[lv] 128)) (ho : w.ownsRow (bl + 1) 49 4 lv n xs) (hz : cd < 0 ∨ (cn : Int) ≤ cd) :
    Calls P 64 #[.agg X.toArray, .pointer (some ⟨bc, 0, none⟩), .pointer (some ⟨bb, 0, none⟩), .pointer (some ⟨bl, 0, none⟩)] w fun e w' => e = .returned (.tuple #[]) ∧ Below bl w w' ∧ w'.heap[bl]? = some (.cells #[lv] 128) ∧ w'.ownsRow (bl + 1) 49 4 lv n xs := by
  have mixed := L.c.mixed; have t3 := L.c.t3; have a3 := L.c.a3; have z3 := L.c.z3; have t4 := L.c.t4; have a4 := L.c.a4; have z4 := L.c.z4; have a30 := L.c.a30; have z30 := L.c.z30; have u30 := run_underlying L.c.t30; have u82 := run_underlying L.c.t82; have t26 := L.c.t26; have a26 := L.c.a26; have z26 := L.c.z26; have a82 := L.c.a82; have z82 := L.c.z82; have e65 := L.e65; have u89 := run_underlying L.t89; have a89 := L.a89; have z89 := L.z89; have v89 := L.v89; have t80 := L.t80; have a80 := L.a80; have z80 := L.z80; have t128 := L.t128; have a128 := L.a128; have z128 := L.z128; have u128 := run_underlying L.t128; have u49 := run_underlying L.t49; have a49 := L.a49; have z49 := L.z49; have v49 := L.v49
  have hb : w.heap[bl]?.isSome := by rw [hl]; rfl
  have G := World.grownBy_alloc w (.cells X.toArray 30) none
  have hbs := blk_lt hl
  have hx := hold_new w X 30
  have c1 := hold_cell hx h1
  have cl2 : (w.alloc (.cells X.toArray 30)).cell? ⟨bc, 0, none⟩ = some (.slice ca cn cc) := cell?_alloc_some _ cl
  have FIN : Aside (Below bl w (w.alloc (.cells X.toArray 30)) ∧ (w.alloc (.cells X.toArray 30)).heap[bl]? = some (.cells #[lv] 128) ∧ (w.alloc (.cells X.toArray 30)).ownsRow (bl + 1) 49 4 lv n xs) :=
    ⟨(Below.refl _ _).alloc (by omega) _, by rw [G.block bl hbs (by simp)]; exact hl, ho.alloc _⟩
  clear ho hl cl G hx hb
  by_cases hc : cd < 0
  · have hcd : decide (cd < 0) = true := decide_eq_true hc
    go_enter L.f64, Try.ntmps64
    go_wp2
    go_returns
    exact ⟨rfl, FIN.out⟩
  · have hcd : decide (cd < 0) = false := decide_eq_false hc
    have hcl : (cn : Int) ≤ cd := by omega
    have hcld : decide (cd ≥ (cn : Int)) = true := decide_eq_true hcl
    go_enter L.f64, Try.ntmps64
    go_wp2
    go_returns
    exact ⟨rfl, FIN.out⟩
/-- What the first abilities add. -/
def adds (f : Nat → Option Ef) (j : Nat) : List Ef := (List.range j).filterMap f
theorem adds_succ (f : Nat → Option Ef) (j : Nat) : adds f (j + 1) = adds f j ++ (f j).toList := by
  unfold adds
  rw [List.range_succ, List.filterMap_append]
  cases h : f j <;> simp [h]
theorem adds_le (f : Nat → Option Ef) (j : Nat) : (adds f j).length ≤ j := by
  unfold adds
  have := List.length_filterMap_le f (List.range j)
  simpa using this
theorem Ai.l_kept {w : World} {bl nb : Nat} {X : List Value} {lv : Value} {n : Nat} {xs : List Value} {W W' : World} (h : Ai w bl nb X lv n xs W) (g : W.grownBy W' lv.ownBlock) : W'.cell? ⟨bl, 0, none⟩ = some lv ∧ W'.frozen? ⟨bl, 0, none⟩ = false := by
  have nl : some bl ≠ lv.ownBlock := fun e => by have := (h.o.lt bl e.symm).1; omega
  have l1 : W'.heap[bl]? = some (.cells #[lv] 128) := by rw [g.block bl (blk_lt h.l) nl]; exact h.l
  have := blk_hold (l := [lv]) l1 0 (by simp)
  exact this
set_option maxHeartbeats 8000000 in
set_option maxRecDepth 100000 in
theorem act_some {P : Program} {k32 k56 k54 k74 : Nat} {y56 y54 y74 : List Value} (L : LayD P k32 k56 k54 k74 y56 y54 y74) (hy7 : y74.length = k74) (bc bb bl : Nat) (hbb : bb < bl) (X : List Value) (hX : X.length = k56) (cd : Nat) (st : Int) (h1 : X[1]? = some (.int .i64 cd)) (h9 : X[9]? = some (.int .i64 st)) (Bs : List Value) (hB : Bs.length = k56) (cB cO : Nat) (cn cc : Nat) (w : World)
    (cl : w.cell? ⟨bc, 0, none⟩ = some (.slice (some ⟨cB, cO, none⟩) cn cc)) (Hb : Holds id w bb 0 Bs.toArray) (lv : Value) (l : List Ef) (hl : w.heap[bl]? = some (.cells #[lv] 128)) (ho : w.ownsRow (bl + 1) 49 4 lv l.length (flatE l)) (hz : cd < cn)
    (aa : Option Addr) (an ac : Nat) (hab : ∀ W, Below bl w W → W.cell? ⟨cB, cO + cd * k54 + 10, none⟩ = some (.slice aa an ac))
    (ab : Nat → List Value) (kd wh op va vb : Nat → Int) (fb : Nat → Bool) (hk : ∀ j, j < an → (ab j).length = k74 ∧ (ab j)[0]? = some (.int .i64 (kd j)) ∧ (ab j)[2]? = some (.int .i64 (wh j)) ∧ (ab j)[10]? = some (.int .i64 (op j)) ∧ (ab j)[11]? = some (.int .i64 (va j)) ∧ (ab j)[12]? = some (.int .i64 (vb j)))
    (hone : ∀ j, j < an → ∀ v ∈ ab j, v.oneCell' = true)
    (hla : ∀ j, j < an → ∃ ad, aa = some ad ∧ ∀ W, Below bl w W → Sem.run P (loadCellsFrom (ad.add (j * k74)) 0 k74 #[]) W = .ok (ab j).toArray W)
    (hfit : ∀ j, j < an → ∀ W, Calls P 65 #[.int .i64 (wh j), .agg X.toArray, .agg Bs.toArray] W fun e w' => e = .returned (.bool (fb j)) ∧ Gr W w') (hbig : l.length + an ≤ 1000000) :
    Calls P 64 #[.agg X.toArray, .pointer (some ⟨bc, 0, none⟩), .pointer (some ⟨bb, 0, none⟩), .pointer (some ⟨bl, 0, none⟩)] w fun e w' => e = .returned (.tuple #[]) ∧ ∃ lv', Below bl w w' ∧ w'.heap[bl]? = some (.cells #[lv'] 128) ∧
      w'.ownsRow (bl + 1) 49 4 lv' (l ++ adds (fun j => if kd j = 4 ∧ fb j = true then some (op j, va j, vb j, st) else none) an).length (flatE (l ++ adds (fun j => if kd j = 4 ∧ fb j = true then some (op j, va j, vb j, st) else none) an)) := by
  have mixed := L.c.mixed; have t3 := L.c.t3; have a3 := L.c.a3; have z3 := L.c.z3; have t4 := L.c.t4; have a4 := L.c.a4; have z4 := L.c.z4; have a30 := L.c.a30; have z30 := L.c.z30; have u30 := run_underlying L.c.t30; have u82 := run_underlying L.c.t82; have t26 := L.c.t26; have a26 := L.c.a26; have z26 := L.c.z26; have a82 := L.c.a82; have z82 := L.c.z82; have e65 := L.e65; have u89 := run_underlying L.t89; have a89 := L.a89; have z89 := L.z89; have v89 := L.v89; have t80 := L.t80; have a80 := L.a80; have z80 := L.z80; have t128 := L.t128; have a128 := L.a128; have z128 := L.z128; have u128 := run_underlying L.t128; have u49 := run_underlying L.t49; have a49 := L.a49; have z49 := L.z49; have v49 := L.v49
  generalize hE : (fun j => if kd j = 4 ∧ fb j = true then some (op j, va j, vb j, st) else none) = ef
  have HE : Hid _ := hE
  clear hE
  have hbs := blk_lt hl
  have A0 : Ai w bl w.heap.size X lv l.length (flatE l) (w.alloc (.cells X.toArray 30)) := by
    have G := World.grownBy_alloc w (.cells X.toArray 30) none
    refine ⟨(Below.refl _ _).alloc (by omega) _, by rw [G.block bl hbs (by simp)]; exact hl, ?_, ho.alloc _, fun g hg e => ?_⟩
    · show (w.heap.push _)[w.heap.size]? = _
      simp
    · have := (ho.lt g hg).2
      omega
  have hx := blk_hold A0.x
  have c1 := hold_cell hx h1
  have cl2 : (w.alloc (.cells X.toArray 30)).cell? ⟨bc, 0, none⟩ = some (.slice (some ⟨cB, cO, none⟩) cn cc) := cell?_alloc_some _ cl
  have cab := hab _ A0.b
  have hcd : decide ((cd : Int) < 0) = false := decide_eq_false (by omega)
  have hcld : decide ((cd : Int) ≥ (cn : Int)) = false := decide_eq_false (by omega)
  have hcz : (cd : Int) < (cn : Int) := by omega
  have hcz2 : decide (cn ≤ cd) = false := decide_eq_false (by omega)
  have AA : Aside _ := A0
  have HLA : Aside _ := hla
  have HK : Aside _ := hk
  have HF : Aside _ := hfit
  have HBB : Aside _ := Hb
  have HONE : Aside _ := hone
  clear ho hl cl hab hla hk hfit hx Hb hone
  go_enter L.f64, Try.ntmps64
  go_wp2
  go_loopg [24] an (fun kx s24 wr => ∃ (j : Nat) (lv' : Value), s24 = .int .i64 j ∧ j ≤ an ∧ an - j ≤ kx ∧ Aside (Ai w bl w.heap.size X lv' (l ++ adds ef j).length (flatE (l ++ adds ef j)) wr))
  case atStart => exact ⟨0, lv, rfl, Nat.zero_le _, Nat.le_refl _, by rw [show adds ef 0 = [] from rfl, List.append_nil]; exact AA⟩
  case round =>
    clear A0 c1 cl2 cab AA
    obtain ⟨j, lv', rfl, hja, hkx, A1⟩ := hrel
    have wj : IntKind.i64.wrap ((j : Int) + 1) = (j : Int) + 1 := by rw [IntKind.wrap_i64]; omega
    by_cases hlt : j < an
    · have hltz : (j : Int) < (an : Int) := by omega
      obtain ⟨ad, rfl, hld⟩ := HLA.out j hlt
      obtain ⟨k0, k1, k2, k3, k4, k5⟩ := HK.out j hlt
      have lA := hld wr A1.out.b
      have o1 := HONE.out j hlt
      have hn0 := hold_new wr y74 89
      have sA := hold_st P hn0 (ab j) (by rw [k0, hy7]) o1
      have hn1 := hold_put hn0 (ab j) (by rw [k0, hy7])
      have G1 : Gr wr ((wr.alloc (.cells y74.toArray 89)).setCells wr.heap.size 0 (ab j)) := Gr.sets (W := wr.alloc (.cells y74.toArray 89)) _ (Nat.le_refl _) _ 0 ((Gr.refl wr).alloc _)
      have A2 := A1.out.later (gr_grown G1)
      have hns : wr.heap.size < ((wr.alloc (.cells y74.toArray 89)).setCells wr.heap.size 0 (ab j)).heap.size := by rw [size_setCells]; simp
      generalize hW1 : (wr.alloc (.cells y74.toArray 89)).setCells wr.heap.size 0 (ab j) = W1 at sA hn1 A2 hns G1
      have b0 := hold_cell hn1 k1
      have b2 := hold_cell hn1 k2
      have lX := hold_ld P (blk_hold A2.x) hX
      have lB := hold_ld P (hold_below HBB.out A2.b hbb) hB
      have hf := HF.out j hlt W1
      have AA2 : Aside _ := A2
      have HN1 : Aside _ := hn1
      have HLT : Aside _ := hlt
      have KK : Aside _ := (show ((ab j)[10]? = some (.int .i64 (op j)) ∧ (ab j)[11]? = some (.int .i64 (va j)) ∧ (ab j)[12]? = some (.int .i64 (vb j))) from ⟨k3, k4, k5⟩)
      have HEF : Hid (ef j = if kd j = 4 ∧ fb j = true then some (op j, va j, vb j, st) else none) := by rw [← HE.out]; rfl
      have nA : (ab j).length = k74 := k0
      generalize ab j = Aj at lA sA hW1 KK HN1 nA
      generalize kd j = kj at b0 HEF
      generalize wh j = wj' at b2 hf
      generalize hoj : op j = oj at KK HEF
      generalize hvj : va j = vj at KK HEF
      generalize hvk : vb j = vk at KK HEF
      generalize hfj : fb j = fj at hf HEF
      clear hoj hvj hvk hfj k0 k1 k2 k3 k4 k5 hn0 hn1 A2 o1 hlt G1
      by_cases hk4 : kj = 4
      · have hkb : (kj == 4) = true := by simp [hk4]
        cases fj with
        | false =>
          have er : adds ef (j + 1) = adds ef j := by rw [adds_succ, HEF.out, if_neg (by simp)]; simp
          have ER : Hid _ := er
          clear er HEF hk4
          go_wp2_with (first | (go_at_fn 65; refine hf.mono ?_; rintro e w2 ⟨rfl, hG⟩))
          have A3 : Aside _ := AA2.out.later (gr_grown hG)
          go_roundg (an - (j + 1))
          case measure => omega
          case rel => exact ⟨j + 1, lv', by first | rfl | go_num, by omega, Nat.le_refl _, by rw [ER.out]; exact A3⟩
        | true =>
          have er : adds ef (j + 1) = adds ef j ++ [(oj, vj, vk, st)] := by rw [adds_succ, HEF.out, if_pos ⟨hk4, rfl⟩]; rfl
          have ER : Hid _ := er
          clear er HEF hk4
          have LEN : Aside ((l ++ adds ef j).length + 1 ≤ 1000001) := (show (l ++ adds ef j).length + 1 ≤ 1000001 by rw [List.length_append]; have := adds_le ef j; omega)
          obtain ⟨i49, hi1, hi2, hi3, hi4⟩ := L.i49
          have t128' := L.t128
          go_wp2_with (first
            | (go_at_fn 65; refine hf.mono ?_; rintro e w2 ⟨rfl, hG⟩
               have A3 := AA2.out.later (gr_grown hG)
               have hn2 := hold_gr HN1.out hG hns
               obtain ⟨k3, k4, k5⟩ := KK.out
               have q3 := hold_cell hn2 k3
               have q4 := hold_cell hn2 k4
               have q5 := hold_cell hn2 k5
               have q9 := hold_cell (blk_hold A3.x) h9
               have ql := hold_cell (blk_hold (l := [lv']) A3.l) (j := 0) rfl
               have AA3 : Aside _ := A3
               clear A3 hn2 k3 k4 k5 hG hf)
            | (at_builtin
               have hcells : ∀ (W : World) (jj : Nat) (u : Value), ([Value.int .i64 oj, .int .i64 vj, .int .i64 vk, .int .i64 st] : List Value)[jj]? = some u → (W.alloc (.cells #[Value.int .i64 oj, .int .i64 vj, .int .i64 vk, .int .i64 st] 49)).cell? ((⟨W.heap.size, 0, none⟩ : Addr).add jj) = some u := fun W jj u hu => by
                 rw [Addr.add_lit, Nat.zero_add]
                 simpa using hu
               refine wpList_append_own _ rfl _ _ 128 rfl (bl + 1) 49 i49 (.agg #[.int .i64 0, .int .i64 0, .int .i64 0, .int .i64 0]) 4 32 t128' hi1 hi2 hi3 hi4 rfl (by decide) _ _ _ rfl (AA3.out.o.alloc _) ⟨_, 0, none⟩ 1 1 [Value.int .i64 oj, .int .i64 vj, .int .i64 vk, .int .i64 st] rfl rfl (hcells _) (by simp [Value.oneCell']) (Nat.le_trans LEN.out (by decide)) (Nat.le_trans (Nat.mul_le_mul_right 32 LEN.out) (by decide)) (by have := blk_lt AA3.out.l; simp only [World.size_alloc]; omega) ?_
               intro v' w3 hown' hgrow hnil
               have A4 := (AA3.out.later (World.grownBy_alloc _ _ none)).app hgrow hown'
               obtain ⟨sl, sf⟩ := (AA3.out.later (World.grownBy_alloc _ _ none)).l_kept hgrow
               obtain ⟨g', cap', rfl⟩ := own_slice hown' rfl
               have AA4 : Aside _ := A4
               clear A4 hown' hgrow hnil))
          go_roundg (an - (j + 1))
          case measure => omega
          case rel =>
            have A5 := AA4.out
            rw [List.length_append] at A5
            refine ⟨j + 1, .slice (some ⟨g', 0, none⟩) (l.length + (adds ef j).length + 1) cap', by first | rfl | go_num, by omega, Nat.le_refl _, ?_⟩
            rw [ER.out, ← List.append_assoc, flatE_app, List.length_append, List.length_append]
            exact A5
      · have hkb : (kj == 4) = false := by simp [hk4]
        have er : adds ef (j + 1) = adds ef j := by rw [adds_succ, HEF.out, if_neg (by omega)]; simp
        have ER : Hid _ := er
        clear er HEF hk4
        go_wp2
        go_roundg (an - (j + 1))
        case measure => omega
        case rel => exact ⟨j + 1, lv', by first | rfl | go_num, by omega, Nat.le_refl _, by rw [ER.out]; exact AA2⟩
    · have hltz : ¬ (j : Int) < (an : Int) := by omega
      obtain rfl : j = an := by omega
      go_wp2
      go_returns
      have hO := A1.out.o
      rw [List.length_append] at hO
      exact ⟨rfl, A1.out.b, lv', A1.out.l, hO⟩
end Go.Proofs.Yticgadnmlbfmfaa.cachePlays
/-
  append of a slice of another type of like elements, onto a row of one's own.
(r25)
-/
namespace Go.Proofs.Yticgadnmlbfmfaa.cachePlays
open Go.Shelf Go.RowKit Go.Lib Go.Sort
variable {P : Program}
end Go.Proofs.Yticgadnmlbfmfaa.cachePlays
