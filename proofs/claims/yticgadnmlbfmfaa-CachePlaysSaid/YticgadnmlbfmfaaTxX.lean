/-
  Chapter 25: the answer's small functions and Fold, walked.
-/
import Derived.Shelf.RegionOpenPlain
import Derived.Test.YticgadnmlbfmfaaTxW
namespace Go.Proofs.Yticgadnmlbfmfaa.cachePlays
open Go.Shelf Go.RowKit Go.Lib Go.Sort
theorem rsmall_calls (n : Int) (w : World) : Calls Try.prog 61 #[.int .i64 n] w fun e w' => e = .returned (.int .i64 (sml n)) ∧ w' = w := by
  go_enter Try.func61, Try.ntmps61
  go_wp2
  go_ret
  exact ⟨rfl, rfl⟩
theorem rlayer_calls (op : Int) (w : World) : Calls Try.prog 43 #[.int .i64 op] w fun e w' => e = .returned (.int .i64 (lyr op)) ∧ w' = w := by
  by_cases h1 : op = 1
  · subst h1
    go_enter Try.func43, Try.ntmps43
    go_wp2
    go_ret
    exact ⟨rfl, rfl⟩
  · by_cases h2 : op = 2
    · subst h2
      go_enter Try.func43, Try.ntmps43
      go_wp2
      go_ret
      exact ⟨rfl, rfl⟩
    · by_cases h3 : op = 3
      · subst h3
        go_enter Try.func43, Try.ntmps43
        go_wp2
        go_ret
        exact ⟨rfl, rfl⟩
      · by_cases h4 : op = 4
        · subst h4
          go_enter Try.func43, Try.ntmps43
          go_wp2
          go_ret
          exact ⟨rfl, rfl⟩
        · have e : lyr op = 0 := by
            unfold lyr
            rw [if_neg (by omega), if_neg h3, if_neg h4]
          rw [e]
          have k1 : (op == 1) = false := beq_eq_false_iff_ne.2 h1
          have k2 : (op == 2) = false := beq_eq_false_iff_ne.2 h2
          have k3 : (op == 3) = false := beq_eq_false_iff_ne.2 h3
          have k4 : (op == 4) = false := beq_eq_false_iff_ne.2 h4
          clear h1 h2 h3 h4 e
          go_enter Try.func43, Try.ntmps43
          go_wp2
          go_ret
          exact ⟨rfl, rfl⟩
theorem stepE_1 {x : Ef} (h : x.1 = 1) (v : Int × Int × Int) : stepE x v = (v.1, v.2.1, bits .or .i64 v.2.2 x.2.1) := by
  unfold stepE
  rw [if_pos h]
theorem stepE_2 {x : Ef} (h : x.1 = 2) (v : Int × Int × Int) : stepE x v = (v.1, v.2.1, bits .andNot .i64 v.2.2 x.2.1) := by
  unfold stepE
  rw [if_neg (by omega), if_pos h]
theorem stepE_3 {x : Ef} (h : x.1 = 3) (v : Int × Int × Int) : stepE x v = (sml x.2.1, sml x.2.2.1, v.2.2) := by
  unfold stepE
  rw [if_neg (by omega), if_neg (by omega), if_pos h]
theorem stepE_4 {x : Ef} (h : x.1 = 4) (v : Int × Int × Int) : stepE x v = (wrap64 (v.1 + sml x.2.1), wrap64 (v.2.1 + sml x.2.2.1), v.2.2) := by
  unfold stepE
  rw [if_neg (by omega), if_neg (by omega), if_neg (by omega), if_pos h]
theorem stepE_0 {x : Ef} (h : x.1 ≠ 1 ∧ x.1 ≠ 2 ∧ x.1 ≠ 3 ∧ x.1 ≠ 4) (v : Int × Int × Int) : stepE x v = v := by
  unfold stepE
  rw [if_neg h.1, if_neg h.2.1, if_neg h.2.2.1, if_neg h.2.2.2]
theorem do_end4 {w : World} {b : Nat} {p t k : Int} (hb : w.heap[b]? = some (.cells (encV (p, t, k)).toArray 36)) (y : Int) : w.grownBy (w.setCell ⟨b, 2, none⟩ (.int .i64 y)) (some b) ∧ (w.setCell ⟨b, 2, none⟩ (.int .i64 y)).heap[b]? = some (.cells (encV (p, t, y)).toArray 36) := by
  have h1 : (w.setCell ⟨b, 2, none⟩ (.int .i64 y)).heap[b]? = some (.cells (encV (p, t, y)).toArray 36) := by
    simp only [World.setCell, Array.getElem?_modify, hb, encV]
    simp
  refine ⟨⟨rfl, rfl, rfl, ?_, fun j hj hn => ?_⟩, h1⟩
  · simp only [World.size_setCell]
    omega
  · rw [Below.heap_setCell _ _ _ _ (fun e => hn (by rw [e]))]
set_option maxHeartbeats 4000000 in
set_option maxRecDepth 100000 in
theorem rfold_calls (v : Int × Int × Int) (R : List Ef) (a : Option Addr) (c : Nat) (w : World) (hl : R.length ≤ 1000000) (hR : R = [] ∨ ∃ g o, a = some ⟨g, o, none⟩ ∧ g < w.heap.size ∧ HoldsK encE 4 w g o R.toArray) :
    Calls Try.prog 44 #[.agg (encV v).toArray, .slice a R.length c] w fun e w' => e = .returned (.agg (encV (foldE R v)).toArray) ∧ Below w.heap.size w w' := by
  have mixed := mixedT
  obtain ⟨p, t, k⟩ := v
  have S0 := Fo.start w (p, t, k)
  simp only [encV] at S0 ⊢
  have SS : Aside _ := S0
  have HR : Aside _ := hR
  clear S0 hR
  go_enter Try.func44, Try.ntmps44
  go_upto_region 1 with fail
  generalize ((w.alloc (.cells #[.int .i64 p, .int .i64 t, .int .i64 k] 36)).alloc (.cells #[.int .i64 0, .int .i64 0, .int .i64 0] 36)) = W at SS ⊢
  obtain ⟨c0, f0⟩ := blk_hold SS.out.v 0 (by simp [encV])
  obtain ⟨c1, f1⟩ := blk_hold SS.out.v 1 (by simp [encV])
  change World.cell? _ ⟨w.heap.size, 0, none⟩ = some (.int .i64 p) at c0
  change World.frozen? _ ⟨w.heap.size, 0, none⟩ = false at f0
  change World.cell? _ ⟨w.heap.size, 1, none⟩ = some (.int .i64 t) at c1
  change World.frozen? _ ⟨w.heap.size, 1, none⟩ = false at f1
  go_wp2_with (go_at_call 61; refine (rsmall_calls _ _).mono ?_; rintro e w' ⟨rfl, hw⟩; have hw := hw.symm; subst hw)
  have F1 : Fo w (finE (p, t, k)) ((W.setCell ⟨w.heap.size, 0, none⟩ (.int .i64 (sml p))).setCell ⟨w.heap.size, 1, none⟩ (.int .i64 (sml t))) := by
    have := do_end3 SS.out.v (sml p) (sml t)
    exact SS.out.own this.1 this.2
  clear c0 c1 f0 f1 SS
  generalize ((W.setCell ⟨w.heap.size, 0, none⟩ (.int .i64 (sml p))).setCell ⟨w.heap.size, 1, none⟩ (.int .i64 (sml t))) = W1 at F1 ⊢
  have FA : Aside _ := F1
  clear F1
  go_loopg [5] R.length (fun kx s5 wr => ∃ (i : Nat), s5 = .int .i64 i ∧ i ≤ R.length ∧ R.length - i ≤ kx ∧ Aside (Fo w (runE (R.take i) (finE (p, t, k))) wr))
  case atStart => exact ⟨0, rfl, Nat.zero_le _, Nat.le_refl _, FA⟩
  case round =>
    clear FA
    obtain ⟨i, rfl, hid, hkx, A1⟩ := hrel
    have wj : IntKind.i64.wrap ((i : Int) + 1) = (i : Int) + 1 := by rw [IntKind.wrap_i64]; omega
    by_cases hlt : i < R.length
    · have hltz : (i : Int) < (R.length : Int) := by omega
      have hne : R ≠ [] := by rintro rfl; simp at hlt
      obtain ⟨g, o, rfl, hg, hH⟩ := HR.out.resolve_left hne
      have h2 := holds_below hH A1.out.b hg
      have oo := fun c (hc : c < 4) => HoldsK.cell h2 (i := i) (by simpa using hlt) (c := c) hc
      have hT : R.take (i + 1) = R.take i ++ [R[i]] := List.take_succ_eq_append_getElem hlt
      obtain ⟨x, hx⟩ : ∃ x, x = R[i] := ⟨_, rfl⟩
      rw [← hx] at hT
      have hx2 : R.toArray[i]! = x := by rw [getElem!_pos R.toArray i (by simpa using hlt), hx]; simp
      rw [hx2] at oo
      obtain ⟨x0, x1, x2, x3⟩ := x
      have HT : Hid _ := (show runE (R.take (i + 1)) (finE (p, t, k)) = stepE (x0, x1, x2, x3) (runE (R.take i) (finE (p, t, k))) by rw [hT, runE_snoc])
      have hgb : g ≠ w.heap.size := Nat.ne_of_lt hg
      clear hT hx hx2 h2 hH hne hg
      obtain ⟨o0, _⟩ : wr.cell? ⟨g, o + i * 4, none⟩ = some (.int .i64 x0) ∧ _ := oo 0 (by omega)
      obtain ⟨o1, _⟩ : wr.cell? ⟨g, o + i * 4 + 1, none⟩ = some (.int .i64 x1) ∧ _ := oo 1 (by omega)
      obtain ⟨o2, _⟩ : wr.cell? ⟨g, o + i * 4 + 2, none⟩ = some (.int .i64 x2) ∧ _ := oo 2 (by omega)
      clear oo
      generalize hv : runE (R.take i) (finE (p, t, k)) = v at A1 HT
      clear hv
      obtain ⟨vp, vt, vk⟩ := v
      obtain ⟨c0, f0⟩ := blk_hold A1.out.v 0 (by simp [encV])
      obtain ⟨c1, f1⟩ := blk_hold A1.out.v 1 (by simp [encV])
      obtain ⟨c2, f2⟩ := blk_hold A1.out.v 2 (by simp [encV])
      change World.cell? _ ⟨w.heap.size, 0, none⟩ = some (.int .i64 vp) at c0
      change World.frozen? _ ⟨w.heap.size, 0, none⟩ = false at f0
      change World.cell? _ ⟨w.heap.size, 1, none⟩ = some (.int .i64 vt) at c1
      change World.frozen? _ ⟨w.heap.size, 1, none⟩ = false at f1
      change World.cell? _ ⟨w.heap.size, 2, none⟩ = some (.int .i64 vk) at c2
      change World.frozen? _ ⟨w.heap.size, 2, none⟩ = false at f2


      by_cases h1 : x0 = 1
      · subst h1
        have hs : Hid _ := stepE_1 (x := (1, x1, x2, x3)) rfl (vp, vt, vk)
        go_wp2_with fail
        go_region
        have F3 : Aside (Fo w _ _) := (fun h => A1.out.own h.1 h.2) (do_drew (do_end4 A1.out.v (bits .or .i64 vk x1)))
        clear c0 c1 c2 f0 f1 f2 o0 o1 o2
        go_wp2
        go_roundg (R.length - (i + 1))
        case measure => omega
        case rel => exact ⟨i + 1, by first | rfl | go_num, by omega, Nat.le_refl _, by rw [HT.out, hs.out]; exact F3⟩
      · skip
        by_cases h2 : x0 = 2
        · subst h2
          have hs : Hid _ := stepE_2 (x := (2, x1, x2, x3)) rfl (vp, vt, vk)
          go_wp2_with fail
          go_region
          have F3 : Aside (Fo w _ _) := (fun h => A1.out.own h.1 h.2) (do_drew (do_end4 A1.out.v (bits .andNot .i64 vk x1)))
          clear c0 c1 c2 f0 f1 f2 o0 o1 o2
          go_wp2
          go_roundg (R.length - (i + 1))
          case measure => omega
          case rel => exact ⟨i + 1, by first | rfl | go_num, by omega, Nat.le_refl _, by rw [HT.out, hs.out]; exact F3⟩
        · skip
          by_cases h3 : x0 = 3
          · subst h3
            have hs : Hid _ := stepE_3 (x := (3, x1, x2, x3)) rfl (vp, vt, vk)
            have hF := do_end3 A1.out.v (sml x1) (sml x2)
            have HFF : Aside _ := hF
            clear hF
            go_wp2_with (first | (go_at_call_of 61 (Value.int IntKind.i64 x1); refine (rsmall_calls _ _).mono ?_; rintro e w' ⟨rfl, hw⟩; have hw := hw.symm; subst hw) | (go_at_call_of 61 (Value.int IntKind.i64 x2); refine (rsmall_calls _ _).mono ?_; rintro e w' ⟨rfl, hw⟩; have hw := hw.symm; subst hw))
            have F3 : Aside (Fo w _ _) := A1.out.own HFF.out.1 HFF.out.2
            clear c0 c1 c2 f0 f1 f2 o0 o1 o2
            go_roundg (R.length - (i + 1))
            case measure => omega
            case rel => exact ⟨i + 1, by first | rfl | go_num, by omega, Nat.le_refl _, by rw [HT.out, hs.out]; exact F3⟩
          · skip
            by_cases h4 : x0 = 4
            · subst h4
              have hs : Hid _ := stepE_4 (x := (4, x1, x2, x3)) rfl (vp, vt, vk)
              go_wp2_with fail
              refine still_tail_drew 9 mixed (by kernel_rfl) ?_
              simp only [List.take_succ_cons, List.take_zero, List.drop_succ_cons, List.drop_zero]
              repeat still_step
              still_call (rsmall_calls x1 _)
              repeat still_step
              refine wpStill_nil ?_
              go_wp2_with fail
              refine still_tail_drew 9 mixed (by kernel_rfl) ?_
              simp only [List.take_succ_cons, List.take_zero, List.drop_succ_cons, List.drop_zero]
              repeat still_step
              still_call (rsmall_calls x2 _)
              repeat still_step
              refine wpStill_nil ?_
              go_wp2_with fail
              have F3 : Aside (Fo w _ _) := (fun h => A1.out.own h.1 h.2) (do_drew (do_drew (do_end3 A1.out.v (wrap64 (vp + sml x1)) (wrap64 (vt + sml x2)))))
              clear c0 c1 c2 f0 f1 f2 o0 o1 o2
              go_roundg (R.length - (i + 1))
              case measure => omega
              case rel => exact ⟨i + 1, by first | rfl | go_num, by omega, Nat.le_refl _, by rw [HT.out, hs.out]; exact F3⟩
            · skip
              have hs : Hid _ := stepE_0 (x := (x0, x1, x2, x3)) ⟨h1, h2, h3, h4⟩ (vp, vt, vk)
              have k1 : (x0 == 1) = false := beq_eq_false_iff_ne.2 h1
              have k2 : (x0 == 2) = false := beq_eq_false_iff_ne.2 h2
              have k3 : (x0 == 3) = false := beq_eq_false_iff_ne.2 h3
              have k4 : (x0 == 4) = false := beq_eq_false_iff_ne.2 h4
              clear h1 h2 h3 h4 c0 c1 c2 f0 f1 f2 o1 o2
              go_wp2
              go_roundg (R.length - (i + 1))
              case measure => omega
              case rel => exact ⟨i + 1, by first | rfl | go_num, by omega, Nat.le_refl _, by rw [HT.out, hs.out]; exact A1⟩
    · have hltz : ¬ (i : Int) < (R.length : Int) := by omega
      obtain rfl : i = R.length := by omega
      have A2 := A1.out
      rw [List.take_length] at A2
      clear A1
      obtain ⟨⟨p2, t2, k2⟩, hv2⟩ : ∃ v2, runE R (finE (p, t, k)) = v2 := ⟨_, rfl⟩
      rw [hv2] at A2
      have HV : Hid (foldE R (p, t, k) = finE (p2, t2, k2)) := (show finE (runE R (finE (p, t, k))) = _ by rw [hv2])
      clear hv2
      obtain ⟨c0, f0⟩ := blk_hold A2.v 0 (by simp [encV])
      obtain ⟨c1, f1⟩ := blk_hold A2.v 1 (by simp [encV])
      change World.cell? _ ⟨w.heap.size, 0, none⟩ = some (.int .i64 p2) at c0
      change World.frozen? _ ⟨w.heap.size, 0, none⟩ = false at f0
      change World.cell? _ ⟨w.heap.size, 1, none⟩ = some (.int .i64 t2) at c1
      change World.frozen? _ ⟨w.heap.size, 1, none⟩ = false at f1
      have HF : Aside _ := do_end3 A2.v (sml p2) (sml t2)
      have SS : Aside _ := A2
      clear A2 hid hkx wj
      go_upto_region 19 with (first | (go_at_call_of 61 (Value.int IntKind.i64 p2); refine (rsmall_calls _ _).mono ?_; rintro e w' ⟨rfl, hw⟩; have hw := hw.symm; subst hw) | (go_at_call_of 61 (Value.int IntKind.i64 t2); refine (rsmall_calls _ _).mono ?_; rintro e w' ⟨rfl, hw⟩; have hw := hw.symm; subst hw))
      have F1 : Fo w (finE (p2, t2, k2)) ((wr.setCell ⟨w.heap.size, 0, none⟩ (.int .i64 (sml p2))).setCell ⟨w.heap.size, 1, none⟩ (.int .i64 (sml t2))) := SS.out.own HF.out.1 HF.out.2
      clear c0 c1 f0 f1 HF SS
      generalize ((wr.setCell ⟨w.heap.size, 0, none⟩ (.int .i64 (sml p2))).setCell ⟨w.heap.size, 1, none⟩ (.int .i64 (sml t2))) = W2 at F1 ⊢
      have d0 : W2.cell? ⟨w.heap.size, 0, none⟩ = some (.int .i64 (sml p2)) := (blk_hold F1.v 0 (by simp [encV])).1
      have d1 : W2.cell? ⟨w.heap.size, 1, none⟩ = some (.int .i64 (sml t2)) := (blk_hold F1.v 1 (by simp [encV])).1
      have d2 : W2.cell? ⟨w.heap.size, 2, none⟩ = some (.int .i64 k2) := (blk_hold F1.v 2 (by simp [encV])).1
      obtain ⟨r0, s0⟩ := blk_hold F1.r 0 (by simp [encV])
      obtain ⟨r1, s1⟩ := blk_hold F1.r 1 (by simp [encV])
      obtain ⟨r2, s2⟩ := blk_hold F1.r 2 (by simp [encV])
      change W2.cell? ⟨w.heap.size + 1, 0, none⟩ = some (.int .i64 0) at r0
      change W2.cell? ⟨w.heap.size + 1, 1, none⟩ = some (.int .i64 0) at r1
      change W2.cell? ⟨w.heap.size + 1, 2, none⟩ = some (.int .i64 0) at r2
      change W2.frozen? ⟨w.heap.size + 1, 0, none⟩ = false at s0
      change W2.frozen? ⟨w.heap.size + 1, 1, none⟩ = false at s1
      change W2.frozen? ⟨w.heap.size + 1, 2, none⟩ = false at s2
      have FF : Aside _ := F1.b
      clear F1
      go_wp2
      refine bodyPost_ret (v := .agg #[.int .i64 (sml p2), .int .i64 (sml t2), .int .i64 k2]) (by simp [results, Try.results44, go_sem, r0, r1, r2]) rfl ?_
      refine ⟨by rw [HV.out]; rfl, ?_⟩
      exact ((FF.out.setCell (p := ⟨w.heap.size + 1, 0, none⟩) (Nat.le_succ _) _).setCell (p := ⟨w.heap.size + 1, 1, none⟩) (Nat.le_succ _) _).setCell (p := ⟨w.heap.size + 1, 2, none⟩) (Nat.le_succ _) _
end Go.Proofs.Yticgadnmlbfmfaa.cachePlays
/-
  Chapter 25: the answer's cache in memory.
-/
namespace Go.Proofs.Yticgadnmlbfmfaa.cachePlays
open Go.Shelf Go.RowKit Go.Lib Go.Sort Go.Maps
/-- The answer's cache: who is there, what was put last, who is dirty. -/
structure Rc where
  cards : List Cd
  is : Nat → Bool
  h : Nat → Hd
  dt : Nat → Bool
/-- Its block's cells. -/
structure RcC (F : Array Value) (ca : Option Addr) (n cc : Nat) (is dt : Nat → Bool) (row : Nat → List Value) : Prop where
  z : F.size = 4097
  c : F[0]? = some (.slice ca n cc)
  i : ∀ k, k < 256 → F[1 + k]? = some (.bool (is k))
  o : ∀ k, k < 256 → ∀ j v, (row k)[j]? = some v → F[257 + k * 14 + j]? = some v
  d : ∀ k, k < 256 → F[3841 + k]? = some (.bool (dt k))
  l : ∀ k, k < 256 → (row k).length = 14
/-- It lies in memory: its block rb; what else it reads lies in Z. -/
structure RcAt (Z : Nat → Prop) (w : World) (rb : Nat) (R : Rc) : Prop where
  x : ∃ (F : Array Value) (ca : Option Addr) (cc : Nat) (rs : List (List Value)) (row : Nat → List Value), w.heap[rb]? = some (.cells F 59) ∧ RcC F ca R.cards.length cc R.is R.dt row ∧ RowsZ Z w ca 11 rs ∧ rs.length = R.cards.length ∧ (∀ (i : Nat) (r : List Value) (x : Cd), rs[i]? = some r → R.cards[i]? = some x → CdR Z w r x) ∧ ∀ k, k < 256 → ObR Z w (row k) (R.h k).card (R.h k).ctrl (R.h k).stamp (R.h k).effs
  n : R.cards.length ≤ 1000
  r : ¬ Z rb
  zl : ∀ b, Z b → b < w.heap.size
theorem ObR.keep {Z : Nat → Prop} {w w' : World} {ob : List Value} {card ctrl stamp : Int} {effs : List Ef} (h : ObR Z w ob card ctrl stamp effs) (g : Kz Z w w') : ObR Z w' ob card ctrl stamp effs := by
  obtain ⟨ea, ec, e1, e2⟩ := h.ef
  exact ⟨h.len, h.one, h.q1, h.q3, h.q9, ⟨ea, ec, e1, e2.keep g⟩, h.n⟩
theorem RcAt.keep {Z : Nat → Prop} {w w' : World} {rb : Nat} {R : Rc} (h : RcAt Z w rb R) (g : Kz Z w w') (g1 : w'.heap[rb]? = w.heap[rb]?) : RcAt Z w' rb R := by
  obtain ⟨F, ca, cc, rs, row, c1, c2, c3, c4, c5, c6⟩ := h.x
  exact ⟨⟨F, ca, cc, rs, row, g1.trans c1, c2, c3.keep g, c4, fun i r x hr hx => (c5 i r x hr hx).keep g, fun k hk => (c6 k hk).keep g⟩, h.n, h.r, fun b hb => Nat.lt_of_lt_of_le (h.zl b hb) g.s⟩
theorem RcAt.lt {Z : Nat → Prop} {w : World} {rb : Nat} {R : Rc} (h : RcAt Z w rb R) : rb < w.heap.size := by
  obtain ⟨F, ca, cc, rs, row, c1, _⟩ := h.x
  exact blk_lt c1
theorem RcAt.below {Z : Nat → Prop} {w w' : World} {rb : Nat} {R : Rc} (h : RcAt Z w rb R) (g : Below w.heap.size w w') : RcAt Z w' rb R := h.keep (Kz.below g) (g.block _ h.lt)
theorem RcAt.gr {Z : Nat → Prop} {w w' : World} {rb : Nat} {R : Rc} (h : RcAt Z w rb R) (g : Gr w w') : RcAt Z w' rb R := h.below (gr_below (.refl _ _) (Nat.le_refl _) g)
/-- One cell of the bools changes. -/
theorem RcC.setI {F : Array Value} {ca : Option Addr} {n cc : Nat} {is dt : Nat → Bool} {row : Nat → List Value} (h : RcC F ca n cc is dt row) {k : Nat} (hk : k < 256) (b : Bool) : RcC (F.setIfInBounds (1 + k) (.bool b)) ca n cc (fun q => if q = k then b else is q) dt row := by
  have hz := h.z
  refine ⟨by simpa using hz, ?_, fun q hq => ?_, fun q hq j v hv => ?_, fun q hq => ?_, h.l⟩
  · rw [Array.getElem?_setIfInBounds, if_neg (by omega)]
    exact h.c
  · rw [Array.getElem?_setIfInBounds]
    by_cases e : q = k
    · subst e
      rw [if_pos rfl, if_pos (by omega), if_pos rfl]
    · rw [if_neg (by omega), if_neg e]
      exact h.i q hq
  · have hj : j < 14 := by
      rw [← h.l q hq]
      exact (List.getElem?_eq_some_iff.1 hv).1
    rw [Array.getElem?_setIfInBounds, if_neg (by omega)]
    exact h.o q hq j v hv
  · rw [Array.getElem?_setIfInBounds, if_neg (by omega)]
    exact h.d q hq
theorem RcC.setD {F : Array Value} {ca : Option Addr} {n cc : Nat} {is dt : Nat → Bool} {row : Nat → List Value} (h : RcC F ca n cc is dt row) {k : Nat} (hk : k < 256) (b : Bool) : RcC (F.setIfInBounds (3841 + k) (.bool b)) ca n cc is (fun q => if q = k then b else dt q) row := by
  have hz := h.z
  refine ⟨by simpa using hz, ?_, fun q hq => ?_, fun q hq j v hv => ?_, fun q hq => ?_, h.l⟩
  · rw [Array.getElem?_setIfInBounds, if_neg (by omega)]
    exact h.c
  · rw [Array.getElem?_setIfInBounds, if_neg (by omega)]
    exact h.i q hq
  · have hj : j < 14 := by
      rw [← h.l q hq]
      exact (List.getElem?_eq_some_iff.1 hv).1
    rw [Array.getElem?_setIfInBounds, if_neg (by omega)]
    exact h.o q hq j v hv
  · rw [Array.getElem?_setIfInBounds]
    by_cases e : q = k
    · subst e
      rw [if_pos rfl, if_pos (by omega), if_pos rfl]
    · rw [if_neg (by omega), if_neg e]
      exact h.d q hq
theorem RcC.setO {F : Array Value} {ca : Option Addr} {n cc : Nat} {is dt : Nat → Bool} {row : Nat → List Value} (h : RcC F ca n cc is dt row) {k : Nat} (hk : k < 256) {vs : List Value} (hv : vs.length = 14) : RcC (setMany F (257 + k * 14) vs) ca n cc is dt (fun q => if q = k then vs else row q) := by
  have hz := h.z
  have g : ∀ t, t < 4097 → (setMany F (257 + k * 14) vs)[t]? = if 257 + k * 14 ≤ t ∧ t < 257 + k * 14 + 14 then vs[t - (257 + k * 14)]? else F[t]? := fun t ht => by
    have h1 : (setMany F (257 + k * 14) vs).size = 4097 := by simpa using hz
    have h2 := get_setMany vs (257 + k * 14) F t (by omega)
    rw [hv] at h2
    rw [Array.getElem?_eq_getElem (by omega), ← getElem!_pos _ t (by omega), h2]
    split
    · rename_i hh
      rw [getElem!_pos vs _ (by omega), List.getElem?_eq_getElem (by omega)]
    · rw [getElem!_pos F t (by omega), Array.getElem?_eq_getElem (by omega)]
  refine ⟨by simpa using hz, ?_, fun q hq => ?_, fun q hq j v hj => ?_, fun q hq => ?_, fun q hq => ?_⟩
  · rw [g 0 (by omega), if_neg (by omega)]
    exact h.c
  · rw [g _ (by omega), if_neg (by omega)]
    exact h.i q hq
  · by_cases e : q = k
    · subst e
      rw [if_pos rfl] at hj
      have hj' : j < 14 := by
        rw [← hv]
        exact (List.getElem?_eq_some_iff.1 hj).1
      rw [g _ (by omega), if_pos (by omega), show 257 + q * 14 + j - (257 + q * 14) = j by omega]
      exact hj
    · rw [if_neg e] at hj
      have hj' : j < 14 := by
        rw [← h.l q hq]
        exact (List.getElem?_eq_some_iff.1 hj).1
      rw [g _ (by omega), if_neg (by omega)]
      exact h.o q hq j v hj
  · rw [g _ (by omega), if_neg (by omega)]
    exact h.d q hq
  · split
    · exact hv
    · exact h.l q hq
end Go.Proofs.Yticgadnmlbfmfaa.cachePlays
/-
  Chapter 25: what the walks of the answer's cache need of the program; its small functions.
-/
namespace Go.Proofs.Yticgadnmlbfmfaa.cachePlays
open Go.Shelf Go.RowKit Go.Lib Go.Sort Go.Maps
/-- The types, sizes, functions. -/
structure LayV (P : Program) (k59 : Nat) (y59 : List Value) : Prop where
  f14 : P.funcs[14]? = some Try.f14
  f16 : P.funcs[16]? = some Try.f16
  f18 : P.funcs[18]? = some Try.f18
  f19 : P.funcs[19]? = some Try.f19
  f39 : P.funcs[39]? = some Try.f39
  f40 : P.funcs[40]? = some Try.f40
  f41 : P.funcs[41]? = some Try.f41
  f42 : P.funcs[42]? = some Try.f42
  e38 : ∀ args w, (callFunc 38 args).run P w = .ok (.enter 38 args) w
  e39 : ∀ args w, (callFunc 39 args).run P w = .ok (.enter 39 args) w
  e40 : ∀ args w, (callFunc 40 args).run P w = .ok (.enter 40 args) w
  e41 : ∀ args w, (callFunc 41 args).run P w = .ok (.enter 41 args) w
  e42 : ∀ args w, (callFunc 42 args).run P w = .ok (.enter 42 args) w
  e43 : ∀ args w, (callFunc 43 args).run P w = .ok (.enter 43 args) w
  e44 : ∀ args w, (callFunc 44 args).run P w = .ok (.enter 44 args) w
  t43 : P.underlying 43 = some (TypeDesc.pointer 59)
  a43 : ∀ w, (isAgg 43).run P w = .ok false w
  z43 : ∀ w, (Go.sizeOf 43).run P w = .ok 1 w
  v43 : ∀ w, (zeroValue 43).run P w = .ok (Value.pointer none) w
  t59 : P.underlying 59 = some (TypeDesc.struct #[{ name := "Cards", type := 26, offset := 0, embedded := false, tag := "", pkgPath := "", byteOffset := 0 }, { name := "Is", type := 56, offset := 1, embedded := false, tag := "", pkgPath := "", byteOffset := 24 }, { name := "O", type := 57, offset := 257, embedded := false, tag := "", pkgPath := "", byteOffset := 280 }, { name := "Dirt", type := 56, offset := 3841, embedded := false, tag := "", pkgPath := "", byteOffset := 28952 }])
  a59 : ∀ w, (isAgg 59).run P w = .ok true w
  z59 : ∀ w, (Go.sizeOf 59).run P w = .ok k59 w
  v59 : ∀ w, (zeroValue 59).run P w = .ok (.agg y59.toArray) w
  t56 : P.underlying 56 = some (TypeDesc.array 256 4)
  a56 : ∀ w, (isAgg 56).run P w = .ok true w
  z56 : ∀ w, (Go.sizeOf 56).run P w = .ok 256 w
  t57 : P.underlying 57 = some (TypeDesc.array 256 30)
  a57 : ∀ w, (isAgg 57).run P w = .ok true w
  z57 : ∀ w, (Go.sizeOf 57).run P w = .ok 3584 w
  z9 : ∀ w, (Go.sizeOf 9).run P w = .ok 1 w
  z79 : ∀ w, (Go.sizeOf 79).run P w = .ok 4 w
theorem rplace_calls (k : Int) (w : World) : Calls Try.prog 38 #[.int .i64 k] w fun e w' => e = .returned (.bool (decide (0 ≤ k) && decide (k < 256))) ∧ w' = w := by
  by_cases h1 : 0 ≤ k
  · by_cases h2 : k < 256
    · go_enter Try.func38, Try.ntmps38
      go_wp2
      go_returns
      exact ⟨by rw [decide_eq_true (show 0 ≤ k by omega), decide_eq_true (show k < 256 by omega)]; rfl, rfl⟩
    · go_enter Try.func38, Try.ntmps38
      go_wp2
      go_returns
      exact ⟨by rw [decide_eq_false (show ¬ k < 256 by omega)]; first | rfl | (rw [Bool.and_false]; rfl), rfl⟩
  · go_enter Try.func38, Try.ntmps38
    go_wp2
    go_returns
    exact ⟨by rw [decide_eq_false (show ¬ 0 ≤ k by omega)]; rfl, rfl⟩
end Go.Proofs.Yticgadnmlbfmfaa.cachePlays
/-
  Chapter 25: the answer's card, walked.
-/
namespace Go.Proofs.Yticgadnmlbfmfaa.cachePlays
open Go.Shelf Go.RowKit Go.Lib Go.Sort Go.Maps
/-- A slot's card. -/
def Rc.cd (R : Rc) (k : Nat) : Cd := if R.is k = true then cdOf R.cards (R.h k).card else zCd
def CardOK (Z : Nat → Prop) (w : World) (c : Cd) (e : Ending) (w' : World) : Prop := ∃ r, e = .returned (.agg r.toArray) ∧ CdR Z w' r c ∧ Gr w w'
set_option maxHeartbeats 8000000 in
set_option maxRecDepth 100000 in
theorem rcard_calls {P : Program} {k30 k82 k89 k92 k59 : Nat} {y30 y82 y89 y92 y59 : List Value} (L : LayQ P k30 k82 k89 k92 y30 y82 y89 y92) (V : LayV P k59 y59) (h30 : k30 = 14) (h82 : k82 = 11) (hy82 : y82.length = k82) (oy82 : ∀ v ∈ y82, v.oneCell' = true) (hz : ∀ Z w, CdR Z w y82 zCd) {Z : Nat → Prop} {w : World} {rb : Nat} {R : Rc} (h : RcAt Z w rb R) {k : Nat} (hk : k < 256) : Calls P 41 #[.pointer (some ⟨rb, 0, none⟩), .int .i64 k] w (CardOK Z w (R.cd k)) := by
  have mixed := L.mixed; have t3 := L.t3; have qt3 := run_underlying L.t3; have a3 := L.a3; have z3 := L.z3; have v3 := L.v3; have t4 := L.t4; have qt4 := run_underlying L.t4; have a4 := L.a4; have z4 := L.z4; have v4 := L.v4; have t26 := L.t26; have qt26 := run_underlying L.t26; have a26 := L.a26; have z26 := L.z26; have v26 := L.v26; have t28 := L.t28; have qt28 := run_underlying L.t28; have a28 := L.a28; have z28 := L.z28; have v28 := L.v28; have t80 := L.t80; have qt80 := run_underlying L.t80; have a80 := L.a80; have z80 := L.z80; have v80 := L.v80; have t30 := L.t30; have qt30 := run_underlying L.t30; have a30 := L.a30; have z30 := L.z30; have v30 := L.v30; have t82 := L.t82; have qt82 := run_underlying L.t82; have a82 := L.a82; have z82 := L.z82; have v82 := L.v82; have e38 := V.e38; have e39 := V.e39; have e40 := V.e40; have e41 := V.e41; have e42 := V.e42; have e43 := V.e43; have e44 := V.e44; have t43 := V.t43; have qt43 := run_underlying V.t43; have a43 := V.a43; have z43 := V.z43; have v43 := V.v43; have t59 := V.t59; have qt59 := run_underlying V.t59; have a59 := V.a59; have z59 := V.z59; have v59 := V.v59; have t56 := V.t56; have qt56 := run_underlying V.t56; have a56 := V.a56; have z56 := V.z56; have t57 := V.t57; have qt57 := run_underlying V.t57; have a57 := V.a57; have z57 := V.z57; have z9 := V.z9; have z79 := V.z79
  have hkz : (k : Int) < 256 := by omega
  have g1 : Gr w (w.alloc (.cells y82.toArray 82)) := (Gr.refl w).alloc _
  obtain ⟨F, ca, cc, rs, row, c1', c2, c3', c4, c5, c6⟩ := h.x
  have c1 := blk_old c1' (.cells y82.toArray 82)
  have c3 := c3'.keep (Kz.gr g1)
  clear c1' c3'
  have cell : ∀ j v, F[j]? = some v → (w.alloc (.cells y82.toArray 82)).cell? ⟨rb, j, none⟩ = some v := fun j v hv => hold_cell (l := F.toList) (blk_hold (l := F.toList) (by simpa using c1)) (by simpa using hv)
  have i0 := cell _ _ (c2.i k hk)
  have bw := blk_new w (.cells y82.toArray 82)
  clear c1
  unfold CardOK Rc.cd
  cases hi : R.is k with
  | false =>
    rw [hi] at i0
    have sA := hold_st P (blk_hold bw) y82 rfl oy82
    go_enter V.f41, Try.ntmps41
    go_upto_region 1 with fail
    go_big_region_o
    have G1 : Aside (Gr w (w.alloc (.cells y82.toArray 82)).drew) := g1.drew
    have bw2 : (w.alloc (.cells y82.toArray 82)).drew.heap[w.heap.size]? = some (.cells y82.toArray 82) := bw
    clear bw sA i0 cell
    generalize (w.alloc (.cells y82.toArray 82)).drew = W1 at G1 bw2 ⊢
    have HN : Aside (w.heap.size ≤ w.heap.size) := Nat.le_refl _
    have sA := hold_st P (blk_hold bw2) y82 rfl oy82
    have lA := hold_ld P (blk_hold (blk_put bw2 y82 rfl)) hy82
    have G2 : Aside (Gr w (W1.setCells w.heap.size 0 y82)) := Gr.sets (W := W1) (w := w) _ (Nat.le_refl _) _ _ G1.out
    clear bw2 G1
    go_wp2
    refine bodyPost_ret (v := .agg y82.toArray) (by simp [results, go_sem, Try.results41, a82, z82, lA]) rfl ?_
    exact ⟨y82, rfl, by simpa using hz Z _, G2.out⟩
  | true =>
    rw [hi] at i0
    have o0 : (w.alloc (.cells y82.toArray 82)).cell? ⟨rb, 257 + k * k30 + 1, none⟩ = some (.int .i64 (R.h k).card) := by rw [h30]; exact cell _ _ (c2.o k hk 1 _ (c6 k hk).q1)
    have a0 := cell _ _ c2.c
    have H30 : Aside (k30 = 14) := h30
    clear h30
    rw [if_pos rfl]
    generalize (R.h k).card = cd at o0 ⊢
    have bw2 : (w.alloc (.cells y82.toArray 82)).drew.heap[w.heap.size]? = some (.cells y82.toArray 82) := bw
    have G1 : Aside (Gr w (w.alloc (.cells y82.toArray 82)).drew) := g1.drew
    by_cases h1 : cd < 0
    · have e1 : cdOf R.cards cd = zCd := by unfold cdOf; rw [if_neg (by omega)]
      rw [e1]
      clear cell e1
      go_enter V.f41, Try.ntmps41
      go_upto_region 1 with fail
      go_big_region_o
      clear bw i0 o0 a0
      generalize (w.alloc (.cells y82.toArray 82)).drew = W1 at G1 bw2 ⊢
      have sA := hold_st P (blk_hold bw2) y82 rfl oy82
      have lA := hold_ld P (blk_hold (blk_put bw2 y82 rfl)) hy82
      have G2 : Aside (Gr w (W1.setCells w.heap.size 0 y82)) := Gr.sets (W := W1) (w := w) _ (Nat.le_refl _) _ _ G1.out
      clear bw2 G1
      go_wp2
      refine bodyPost_ret (v := .agg y82.toArray) (by simp [results, go_sem, Try.results41, a82, z82, lA]) rfl ?_
      exact ⟨y82, rfl, hz Z _, G2.out⟩
    · have h1' : ¬ cd < 0 := h1
      by_cases h2 : (R.cards.length : Int) ≤ cd
      · have e1 : cdOf R.cards cd = zCd := by unfold cdOf; rw [if_neg (by omega)]
        rw [e1]
        clear cell e1
        go_enter V.f41, Try.ntmps41
        go_upto_region 1 with fail
        go_big_region_o
        clear bw i0 o0 a0
        generalize (w.alloc (.cells y82.toArray 82)).drew = W1 at G1 bw2 ⊢
        have sA := hold_st P (blk_hold bw2) y82 rfl oy82
        have lA := hold_ld P (blk_hold (blk_put bw2 y82 rfl)) hy82
        have G2 : Aside (Gr w (W1.setCells w.heap.size 0 y82)) := Gr.sets (W := W1) (w := w) _ (Nat.le_refl _) _ _ G1.out
        clear bw2 G1
        go_wp2
        refine bodyPost_ret (v := .agg y82.toArray) (by simp [results, go_sem, Try.results41, a82, z82, lA]) rfl ?_
        exact ⟨y82, rfl, hz Z _, G2.out⟩
      · obtain ⟨c, rfl⟩ : ∃ c : Nat, cd = (c : Int) := ⟨cd.toNat, by omega⟩
        have hcl : c < rs.length := by omega
        obtain ⟨CB, CO, rfl, hcz, hcb, hcr⟩ := c3.ld P (i := c) (x := rs[c]) (List.getElem?_eq_getElem hcl) (c5 c rs[c] R.cards[c] (List.getElem?_eq_getElem hcl) (List.getElem?_eq_getElem (by omega))).len
        have CDK : Aside (∀ w', Gr w w' → CdR Z w' rs[c] (cdOf R.cards (c : Int))) := fun w' g => by
          have := (c5 c rs[c] R.cards[c] (List.getElem?_eq_getElem hcl) (List.getElem?_eq_getElem (by omega))).keep (Kz.gr g)
          unfold cdOf
          rw [if_pos ⟨by omega, by omega⟩, Int.toNat_natCast, List.getElem?_eq_getElem (by omega)]
          exact this
        have rl0 : rs[c].length = 11 := (CDK.out w (.refl w)).len
        have RO : Aside (∀ v ∈ rs[c], v.oneCell' = true) := (CDK.out w (.refl w)).one
        have h2z : (c : Int) < (R.cards.length : Int) := by omega
        clear cell
        go_enter V.f41, Try.ntmps41
        go_upto_region 1 with fail
        go_big_region_o
        have a1 : (w.alloc (.cells y82.toArray 82)).drew.cell? ⟨rb, 0, none⟩ = some (.slice (some ⟨CB, CO, none⟩) R.cards.length cc) := a0
        have o1 : (w.alloc (.cells y82.toArray 82)).drew.cell? ⟨rb, 257 + k * k30 + 1, none⟩ = some (.int .i64 (c : Int)) := o0
        have lC : Sem.run P (loadCellsFrom ⟨CB, CO + c * k82, none⟩ 0 k82 #[]) (w.alloc (.cells y82.toArray 82)).drew.drew = .ok rs[c].toArray (w.alloc (.cells y82.toArray 82)).drew.drew := by
          rw [h82]
          exact hcr _ (Kz.gr ((Gr.refl _).drew.drew))
        have rl : rs[c].length = k82 := by rw [h82]; exact rl0
        have H82 : Aside (k82 = 11) := h82
        clear h82 bw i0 o0 a0 hcr rl0
        go_upto_region 3 with fail
        generalize rs[c] = rr at lC rl RO CDK
        generalize (w.alloc (.cells y82.toArray 82)).drew = W1 at G1 bw2 a1 o1 lC ⊢
        have sA := hold_st P (W := W1.drew) (blk_hold bw2) rr (by rw [rl]; exact hy82.symm) RO.out
        have lA := hold_ld P (blk_hold (blk_put (W := W1.drew) bw2 rr (by rw [rl]; exact hy82.symm))) rl
        have G2 : Aside (Gr w (W1.drew.setCells w.heap.size 0 rr)) := Gr.sets (W := W1.drew) (w := w) _ (Nat.le_refl _) _ _ G1.out.drew
        have KZ : Aside (CdR Z (W1.drew.setCells w.heap.size 0 rr) rr (cdOf R.cards (c : Int))) := CDK.out _ G2.out
        clear bw2 G1
        go_still_tail 13, mixed
        go_wp2
        refine bodyPost_ret (v := .agg rr.toArray) (by simp [results, go_sem, Try.results41, a82, z82, lA]) rfl ?_
        exact ⟨rr, rfl, KZ.out, G2.out⟩
end Go.Proofs.Yticgadnmlbfmfaa.cachePlays
