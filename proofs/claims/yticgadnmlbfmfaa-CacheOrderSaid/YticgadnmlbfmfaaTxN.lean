/-
  Chapter 25: CacheOrder, walked.
-/
import Derived.Test.YticgadnmlbfmfaaTxM
namespace Go.Proofs.Yticgadnmlbfmfaa.cacheOrder
open Go.Shelf Go.RowKit Go.Lib Go.Sort Go.Maps
theorem two_start {L : List On} {la : Option Addr} {lc m ca cb : Nat} {w w2 w4 : World} (hR : RowsZ (fun b => b < w.heap.size) w la 4 (L.map encO)) (hok : ∀ (i : Nat) x, L[i]? = some x → x.ok) (hm : min L.length 16 = m)
    (hA : Hold (fun b => (w.alloc (.cells #[.slice la L.length lc] 22)).heap.size ≤ b ∧ b < w2.heap.size) (fun _ => none) (fun _ => False) ca w2) (bA : Below (w.alloc (.cells #[.slice la L.length lc] 22)).heap.size (w.alloc (.cells #[.slice la L.length lc] 22)) w2)
    (hB : Hold (fun b => w2.heap.size ≤ b ∧ b < w4.heap.size) (fun _ => none) (fun _ => False) cb w4) (bB : Below w2.heap.size w2 w4) :
    w4.heap[w.heap.size]? = some (.cells [Value.slice la L.length lc].toArray 22) ∧ ∃ l : List On, l.length = m ∧ Two w l w.heap.size w.heap.size ca cb (fun _ => none) (fun _ => none) (w4.setCell ⟨w.heap.size, 0, none⟩ (.slice la m lc)) := by
  have sz : (w.alloc (.cells #[.slice la L.length lc] 22)).heap.size = w.heap.size + 1 := by simp
  rw [sz] at hA bA
  have k2 : ∀ k, k < w2.heap.size → w4.heap[k]? = w2.heap[k]? := bB.block
  have k1 : ∀ k, k < w.heap.size + 1 → w2.heap[k]? = (w.alloc (.cells #[.slice la L.length lc] 22)).heap[k]? := bA.block
  have s1 : w.heap.size + 1 ≤ w2.heap.size := by have := bA.size; rw [sz] at this; exact this
  have s2 := bB.size
  have hb : w4.heap[w.heap.size]? = some (.cells [Value.slice la L.length lc].toArray 22) := (k2 _ (by omega)).trans ((k1 _ (by omega)).trans (blk_new w (.cells #[.slice la L.length lc] 22)))
  refine ⟨hb, L.take m, by rw [List.length_take]; omega, ⟨?_, ⟨⟨la, lc, ?_, ?_⟩, fun i x hx => ?_, by rw [List.length_take]; omega⟩, ⟨fun b => w.heap.size + 1 ≤ b ∧ b < w2.heap.size, fun b => w2.heap.size ≤ b ∧ b < w4.heap.size, ?_, ?_, fun k (hk : w.heap.size + 1 ≤ k ∧ k < w2.heap.size) (hy : w2.heap.size ≤ k ∧ k < w4.heap.size) => ?_, fun k (hk : w.heap.size + 1 ≤ k ∧ k < w2.heap.size) => ?_, fun k (hk : w2.heap.size ≤ k ∧ k < w4.heap.size) => ?_⟩, Nat.le_refl _⟩⟩
  · have bW : Below w.heap.size w w4 := ((gr_below (.refl _ _) (Nat.le_refl _) ((Gr.refl w).alloc _)).trans (bA.mono (by simp))).trans (bB.mono (by omega))
    exact bW.setCell (p := ⟨w.heap.size, 0, none⟩) (Nat.le_refl _) _
  · have := blk_set hb 0 (.slice la m lc)
    rw [show (L.take m).length = m by rw [List.length_take]; omega]
    exact this
  · have h1 : RowsZ (fun b => b < w.heap.size) (w4.setCell ⟨w.heap.size, 0, none⟩ (.slice la m lc)) la 4 (L.map encO) := hR.keep ⟨by rw [World.size_setCell]; omega, fun b hb _ => by
      rw [set_other (by omega), k2 b (by omega), k1 b (by omega)]
      exact (gr_grown ((Gr.refl w).alloc _)).block b hb (by simp)⟩
    rcases h1 with h1 | ⟨B, O, e, hz, hl, hc⟩
    · refine .inl ?_
      rw [List.map_eq_nil_iff] at h1
      rw [h1]
      simp
    · refine .inr ⟨B, O, e, hz, hl, fun i x hx => hc i x ?_⟩
      rw [List.map_take, List.getElem?_take] at hx
      split at hx
      · exact hx
      · cases hx
  · rw [List.getElem?_take] at hx
    split at hx
    · exact hok i x hx
    · cases hx
  · exact hA.keep (by rw [World.size_setCell]; omega) (fun k hk => by rw [set_other (by omega), k2 k hk.2])
  · exact hB.keep (by rw [World.size_setCell]; omega) (fun k hk => by rw [set_other (by omega)])
  · omega
  · omega
  · omega
theorem two_of2 {w0 : World} {l : List On} {n0 bl ca cb : Nat} {sa sb : Int → Option Hd} {W0 W : World} (h : Two w0 l n0 bl ca cb sa sb W0) (g : Gr W0 W) (i : Int) : Calls Try.prog 11 #[.pointer (some ⟨ca, 0, none⟩), .int .i64 i] W fun e w' => OfA w0 l n0 bl ca cb sa sb i e w' ∧ ∀ k, W0.heap.size ≤ k → k < W.heap.size → w'.heap[k]? = W.heap[k]? := by
  obtain ⟨Ya, Yb, h1, h2, h3, h4, h5⟩ := h.x
  have hlt := h1.lt
  have lb := (h.gr g).lb
  have bb := (h.gr g).b
  refine (cache_of' (h1.gr g) i).mono ?_
  rintro e w' ⟨v0, v1, v2, b, rfl, hv, hz, s⟩
  exact ⟨⟨v0, v1, v2, b, rfl, ⟨hv, hz⟩, two_step bb lb h.n (h2.gr g) h3 h4 h5 s⟩, fun k hk hk2 => s.o.k k hk2 (fun hy => by have := hlt k hy; omega)⟩
theorem chars_cells {w : World} {b : Nat} {d0 d1 d2 : Int} (h : w.heap[b]? = some (.cells #[.int .i64 d0, .int .i64 d1, .int .i64 d2] 36)) : w.cell? ⟨b, 0, none⟩ = some (.int .i64 d0) ∧ w.cell? ⟨b, 1, none⟩ = some (.int .i64 d1) ∧ w.cell? ⟨b, 2, none⟩ = some (.int .i64 d2) :=
  have hb : w.heap[b]? = some (.cells [Value.int .i64 d0, Value.int .i64 d1, Value.int .i64 d2].toArray 36) := h
  ⟨hold_cell (blk_hold hb) (j := 0) rfl, hold_cell (blk_hold hb) (j := 1) rfl, hold_cell (blk_hold hb) (j := 2) rfl⟩
theorem Lb.rows {l : List On} {n0 bl : Nat} {w : World} (h : Lb l n0 bl w) {i : Nat} {x : On} (hx : l[i]? = some x) : ∃ (b o cc : Nat), w.cell? ⟨bl, 0, none⟩ = some (.slice (some ⟨b, o, none⟩) l.length cc) ∧ w.cell? ⟨b, o + i * 4 + 1, none⟩ = some (.int .u8 x.c) := by
  obtain ⟨la, cc, h1, h2⟩ := h.x
  have hm : (l.map encO)[i]? = some (encO x) := by rw [List.getElem?_map, hx]; rfl
  obtain ⟨b, o, rfl, _, hb, h3⟩ := h2.resolve_left (by rintro e; rw [e] at hm; cases hm)
  exact ⟨b, o, cc, hold_cell (blk_hold h1) (j := 0) rfl, h3 i _ hm 1 _ rfl⟩
theorem Lb.box {l : List On} {n0 bl : Nat} {w : World} (h : Lb l n0 bl w) : ∃ (la : Option Addr) (cc : Nat), w.cell? ⟨bl, 0, none⟩ = some (.slice la l.length cc) := by
  obtain ⟨la, cc, h1, _⟩ := h.x
  exact ⟨la, cc, hold_cell (blk_hold h1) (j := 0) rfl⟩
set_option maxHeartbeats 40000000 in
set_option maxRecDepth 100000 in
theorem law_calls {L : List On} {la : Option Addr} {lc : Nat} {w : World} (hR : RowsZ (fun b => b < w.heap.size) w la 4 (L.map encO)) (hok : ∀ (i : Nat) x, L[i]? = some x → x.ok) (hlc : L.length ≤ lc) (asked : Int) : Calls Try.prog 3 #[.slice la L.length lc, .int .u16 asked] w fun e w' => e = .returned (.bool true) ∧ Below w.heap.size w w' := by
  have mixed := mixedT
  have HR : Aside (RowsZ (fun b => b < w.heap.size) w la 4 (L.map encO)) := hR
  have HO : Aside (∀ (i : Nat) x, L[i]? = some x → x.ok) := hok
  have HL : Aside (L.length ≤ lc) := hlc
  clear hR hok hlc
  go_enter Try.func3, Try.ntmps3
  go_upto_region 1 with fail
  have bb := blk_new w (.cells #[.slice la L.length lc] 22)
  have BB : Aside _ := bb
  clear bb
  have M1 : True := trivial
  have M2 : True := trivial
  go_upto_region 4 with (first | (go_at_call 8; have chk := M1; refine (few_calls _).mono ?_; rintro e w1 ⟨a1, c1, rfl, hc1, g1⟩; clear M1 chk) | (go_at_call 7; have chk := M2; refine (cache_new2 g1 hc1 c1).mono ?_; rintro e w2 ⟨ca, rfl, hA, bA⟩; have HA : Aside (Hold _ _ _ _ _) := hA; have BA : Aside (Below _ _ _) := bA; clear M2 chk hc1 g1 hA bA) | (go_at_call 8; refine (few_calls _).mono ?_; rintro e w3 ⟨a2, c2, rfl, hc2, g2⟩) | (go_at_call 7; refine (cache_new2 g2 hc2 c2).mono ?_; rintro e w4 ⟨cb, rfl, hB, bB⟩; have HB : Aside (Hold _ _ _ _ _) := hB; have BB2 : Aside (Below _ _ _) := bB; clear hc2 g2 hB bB))
  obtain ⟨m0, hm0⟩ : ∃ m, min L.length 16 = m := ⟨_, rfl⟩
  have hmz : min ((L.length : Nat) : Int) 16 = (m0 : Int) := by omega
  have hm2 : m0 ≤ lc := by have := HL.out; omega
  obtain ⟨hb4, l, hl, T0⟩ := two_start HR.out HO.out hm0 HA.out BA.out HB.out BB2.out
  have T1 : Aside (Two _ _ _ _ _ _ _ _ _) := T0
  have hl16 : l.length ≤ 16 := T0.lb.n
  have cc := hold_cell (blk_hold hb4) (j := 0) (v := .slice la L.length lc) rfl
  have ff := (blk_hold hb4 0 (by show 0 < 1; decide)).2
  clear HR HO HL HA BA HB BB2 BB hm0 T0 hb4
  go_upto_region 5 with fail
  clear cc ff hmz hm2
  subst hl
  generalize w4.setCell ⟨w.heap.size, 0, none⟩ (.slice la l.length lc) = W5 at T1 ⊢
  generalize hbl : w.heap.size = bl at T1 ⊢
  have HBL : Aside (w.heap.size = bl) := hbl
  clear hbl
  have T2 : Aside (Two w l bl bl ca cb (sOf l 0 0) (fun _ => none) W5) := by rw [sOf_none]; exact T1.out
  clear T1
  go_wp2
  go_loopg [8] l.length (fun kx s8 wr => ∃ i : Nat, s8 = .int .i64 i ∧ i ≤ l.length ∧ l.length - i ≤ kx ∧ Aside (Two w l bl bl ca cb (sOf l 0 i) (fun _ => none) wr))
  case atStart => exact ⟨0, rfl, Nat.zero_le _, Nat.le_refl _, T2⟩
  case round =>
    clear T2
    obtain ⟨i, rfl, hi, hkx, N1⟩ := hrel
    obtain ⟨l1, c1, b1⟩ := N1.out.lb.box
    have wj : IntKind.i64.wrap ((i : Int) + 1) = (i : Int) + 1 := by rw [IntKind.wrap_i64]; omega
    by_cases hlt : i < l.length
    · have hltz : (i : Int) < (l.length : Int) := by omega
      obtain ⟨x, hx⟩ : ∃ x, l[i]? = some x := ⟨_, List.getElem?_eq_getElem hlt⟩
      go_upto_region 10 with (first | (go_at_call 9; refine (obj_calls N1.out.lb hx).mono ?_; rintro e w6 ⟨rfl, g6⟩) | (go_at_call 10; refine (two_put (N1.out.gr g6) (i := i) (by omega) (by omega) _ _ _).mono ?_; rintro e w7 ⟨rfl, T7⟩; have T8 : Aside (Two w l bl bl ca cb (sOf l 0 ((i : Int) + 1)) (fun _ => none) w7) := (by rw [← sOf_up hx]; exact T7); clear T7 g6))
      have hOf := two_of T8.out i
      go_wp2_with (go_at_call 11; refine hOf.mono ?_; rintro e w8 ⟨v0, v1, v2, b, rfl, hv, T9⟩; have T10 : Aside (Two _ _ _ _ _ _ _ _ _) := T9; clear T9 hv)
      · go_roundg (l.length - (i + 1))
        case measure => omega
        case rel => exact ⟨i + 1, by first | rfl | go_num, by omega, by omega, T10⟩
      · go_roundg (l.length - (i + 1))
        case measure => omega
        case rel => exact ⟨i + 1, by first | rfl | go_num, by omega, by omega, T8⟩
    · obtain rfl : i = l.length := by omega
      have wk : IntKind.i64.wrap ((l.length : Int) - 1) = (l.length : Int) - 1 := by rw [IntKind.wrap_i64]; omega
      have T3 : Aside (Two w l bl bl cb ca (sOf l l.length l.length) (sOf l 0 l.length) wr) := by rw [sOf_none]; exact N1.out.symm
      clear N1
      go_wp2
      go_loopg [9] l.length (fun kx s9 wr => ∃ i : Nat, s9 = .int .i64 ((i : Int) - 1) ∧ i ≤ l.length ∧ i ≤ kx ∧ Aside (Two w l bl bl cb ca (sOf l i l.length) (sOf l 0 l.length) wr))
      case atStart => exact ⟨l.length, rfl, Nat.le_refl _, Nat.le_refl _, T3⟩
      case round =>
        clear T3 b1 wk wj
        obtain ⟨i, rfl, hi, hkx, N1⟩ := hrel
        by_cases hlt : 0 < i
        · obtain ⟨j, rfl⟩ : ∃ j, i = j + 1 := ⟨i - 1, by omega⟩
          obtain ⟨x, hx⟩ : ∃ x, l[j]? = some x := ⟨_, List.getElem?_eq_getElem (by omega)⟩
          have e0 : (((j + 1 : Nat) : Int) - 1) = (j : Int) := by omega
          have wk : IntKind.i64.wrap ((j : Int) - 1) = (j : Int) - 1 := by rw [IntKind.wrap_i64]; omega
          rw [e0]
          go_upto_region 16 with (first | (go_at_call 9; refine (obj_calls N1.out.lb hx).mono ?_; rintro e w6 ⟨rfl, g6⟩) | (go_at_call 10; refine (two_put (N1.out.gr g6) (i := j) (by omega) (by omega) _ _ _).mono ?_; rintro e w7 ⟨rfl, T7⟩; have T8 : Aside (Two w l bl bl cb ca (sOf l j l.length) (sOf l 0 l.length) w7) := (by rw [← sOf_dn hx (by omega)]; exact T7); clear T7 g6))
          have hOf := two_of T8.out j
          go_wp2_with (go_at_call 11; refine hOf.mono ?_; rintro e w8 ⟨v0, v1, v2, b, rfl, hv, T9⟩; have T10 : Aside (Two _ _ _ _ _ _ _ _ _) := T9; clear T9 hv)
          · go_roundg j
            case measure => omega
            case rel => exact ⟨j, by first | rfl | go_num, by omega, by omega, T10⟩
          · go_roundg j
            case measure => omega
            case rel => exact ⟨j, by first | rfl | go_num, by omega, by omega, T8⟩
        · obtain rfl : i = 0 := by omega
          have T3 : Aside (Two w l bl bl ca cb (sOf l 0 l.length) (sOf l 0 l.length) wr) := N1.out.symm
          clear N1
          go_wp2
          go_loopg [10] 16 (fun kx s10 wr => ∃ i : Nat, s10 = .int .i64 i ∧ i ≤ 16 ∧ 16 - i ≤ kx ∧ Aside (Two w l bl bl ca cb (sOf l 0 l.length) (sOf l 0 l.length) wr))
          case atStart => exact ⟨0, rfl, Nat.zero_le _, Nat.le_refl _, T3⟩
          case round =>
            clear T3
            obtain ⟨i, rfl, hi, hkx, N1⟩ := hrel
            have wj : IntKind.i64.wrap ((i : Int) + 1) = (i : Int) + 1 := by rw [IntKind.wrap_i64]; omega
            by_cases hlt : i < 16
            · have hltz : (i : Int) < 16 := by omega
              go_upto_region 22 with (go_at_call 11; refine (two_of N1.out i).mono ?_; rintro e w6 ⟨v0, v1, v2, b, rfl, hv, T6⟩; have HV : Aside (OfS (sOf l 0 l.length) i (optR b (v0, v1, v2)) ∧ (b = false → v0 = 0 ∧ v1 = 0 ∧ v2 = 0)) := hv; have T7 : Aside (Two w l bl bl ca cb (sOf l 0 l.length) (sOf l 0 l.length) w6) := T6; clear hv T6 N1)
              have h22 := two_of2 T7.out.symm ((Gr.refl w6).alloc (.cells #[.int .i64 v0, .int .i64 v1, .int .i64 v2] 36)) i
              have X7 : Aside ((w6.alloc (.cells #[.int .i64 v0, .int .i64 v1, .int .i64 v2] 36)).heap[w6.heap.size]? = some (.cells #[.int .i64 v0, .int .i64 v1, .int .i64 v2] 36)) := blk_new w6 _
              clear T7
              go_upto_region 23 with (go_at_call 11; refine h22.mono ?_; rintro e w7 ⟨⟨u0, u1, u2, c, rfl, hu, T8⟩, k8⟩; have HU : Aside (OfS (sOf l 0 l.length) i (optR c (u0, u1, u2)) ∧ (c = false → u0 = 0 ∧ u1 = 0 ∧ u2 = 0)) := hu; have T9 : Aside (Two w l bl bl cb ca (sOf l 0 l.length) (sOf l 0 l.length) w7) := T8; have K8 : Aside (w7.heap[w6.heap.size]? = some (.cells #[.int .i64 v0, .int .i64 v1, .int .i64 v2] 36)) := (k8 _ (Nat.le_refl _) (by simp)).trans X7.out; clear hu T8 k8)
              clear h22 X7
              obtain ⟨rfl, rfl, rfl, rfl⟩ := two_same HV.out HU.out
              have hb := ofS_isC (fun k y hy => T9.out.lb.ok k y hy) HV.out.1
              have T10 : Aside (Two w l bl bl cb ca (sOf l 0 l.length) (sOf l 0 l.length) (w7.alloc (.cells #[.int .i64 v0, .int .i64 v1, .int .i64 v2] 36))) := T9.out.gr ((Gr.refl _).alloc _)
              obtain ⟨x0, x1, x2⟩ := chars_cells (blk_old K8.out (.cells #[.int .i64 v0, .int .i64 v1, .int .i64 v2] 36))
              obtain ⟨y0, y1, y2⟩ := chars_cells (blk_new w7 (.cells #[.int .i64 v0, .int .i64 v1, .int .i64 v2] 36))
              clear T9 K8 HV HU
              cases hx : l[i]? with
              | none =>
                have hge : l.length ≤ i := List.getElem?_eq_none_iff.1 hx
                have hgz : ¬ ((i : Int) < (l.length : Int)) := by omega
                obtain ⟨la2, cc2, b2⟩ := T10.out.lb.box
                unfold isC at hb
                rw [hx] at hb
                obtain rfl : b = false := hb
                clear hx
                go_wp2
                go_roundg (16 - (i + 1))
                case measure => omega
                case rel => exact ⟨i + 1, by first | rfl | go_num, by omega, by omega, T10.out.symm⟩
              | some x =>
                have hlt2 : i < l.length := (List.getElem?_eq_some_iff.1 hx).1
                have hgz : ((i : Int) < (l.length : Int)) := by omega
                obtain ⟨bb, oo, cc2, b2, b3⟩ := T10.out.lb.rows hx
                have hk := T10.out.lb.ok i x hx
                have hm : x.c.tmod 5 = x.c % 5 := Int.tmod_eq_emod_of_nonneg hk.2.1.1
                unfold isC at hb
                rw [hx] at hb
                replace hb : b = (x.c % 5 == 0 || x.c % 5 == 1 || x.c % 5 == 3) := hb
                clear hx hk
                obtain h | h | h | h | h : x.c % 5 = 0 ∨ x.c % 5 = 1 ∨ x.c % 5 = 2 ∨ x.c % 5 = 3 ∨ x.c % 5 = 4 := by omega
                · rw [h] at hb hm
                  obtain rfl : b = true := hb.trans (by decide)
                  clear h hb
                  go_wp2
                  go_roundg (16 - (i + 1))
                  case measure => omega
                  case rel => exact ⟨i + 1, by first | rfl | go_num, by omega, by omega, T10.out.symm⟩
                · rw [h] at hb hm
                  obtain rfl : b = true := hb.trans (by decide)
                  clear h hb
                  go_wp2
                  go_roundg (16 - (i + 1))
                  case measure => omega
                  case rel => exact ⟨i + 1, by first | rfl | go_num, by omega, by omega, T10.out.symm⟩
                · rw [h] at hb hm
                  obtain rfl : b = false := hb.trans (by decide)
                  clear h hb
                  go_wp2
                  go_roundg (16 - (i + 1))
                  case measure => omega
                  case rel => exact ⟨i + 1, by first | rfl | go_num, by omega, by omega, T10.out.symm⟩
                · rw [h] at hb hm
                  obtain rfl : b = true := hb.trans (by decide)
                  clear h hb
                  go_wp2
                  go_roundg (16 - (i + 1))
                  case measure => omega
                  case rel => exact ⟨i + 1, by first | rfl | go_num, by omega, by omega, T10.out.symm⟩
                · rw [h] at hb hm
                  obtain rfl : b = false := hb.trans (by decide)
                  clear h hb
                  go_wp2
                  go_roundg (16 - (i + 1))
                  case measure => omega
                  case rel => exact ⟨i + 1, by first | rfl | go_num, by omega, by omega, T10.out.symm⟩
            · obtain rfl : i = 16 := by omega
              go_wp2_with (go_at_call 12; refine (works_calls _).mono ?_; rintro e w9 ⟨rfl, h9⟩; have H9 : Aside (Below _ _ _) := h9; clear h9)
              go_returns
              refine ⟨rfl, ?_⟩
              have hb := N1.out.b
              rw [← HBL.out] at hb
              exact hb.trans (H9.out.mono hb.size)
end Go.Proofs.Yticgadnmlbfmfaa.cacheOrder
