/-
  The stable sort's functions: what is asked; swapRange, rotate.
-/
import Derived.Test.YticgadnmlbfmfaaProg
import Derived.Shelf.SlSortCmp.KitK
import Derived.KernelRfl
import Derived.Deep.Cut
import Derived.Test.YticgadnmlbfmfaaTxA
namespace Go.Proofs.Yticgadnmlbfmfaa.cachePlays
open Go.Shelf Go.RowKit Go.Lib Go.Sort
variable {α : Type} [Inhabited α]
/-- What the program's text holds of the sort. -/
structure Lay (P : Program) (k : Nat) : Prop where
  mixed : P.follows .mixedOrders = true
  f75 : P.funcs[75]? = some Try.f75
  f76 : P.funcs[76]? = some Try.f76
  f85 : P.funcs[85]? = some Try.f85
  f101 : P.funcs[101]? = some Try.f101
  f57 : P.funcs[57]? = some Try.f57
  f32 : P.funcs[32]? = some Try.f32
  t0 : P.underlying 0 = some (TypeDesc.tuple #[])
  a0 : ∀ w, (isAgg 0).run P w = .ok false w
  z0 : ∀ w, (Go.sizeOf 0).run P w = .ok 1 w
  v0 : ∀ w, (zeroValue 0).run P w = .ok (Value.tuple #[]) w
  t3 : P.underlying 3 = some (TypeDesc.int IntKind.i64)
  a3 : ∀ w, (isAgg 3).run P w = .ok false w
  z3 : ∀ w, (Go.sizeOf 3).run P w = .ok 1 w
  v3 : ∀ w, (zeroValue 3).run P w = .ok (Value.int IntKind.i64 0) w
  t4 : P.underlying 4 = some (TypeDesc.bool)
  a4 : ∀ w, (isAgg 4).run P w = .ok false w
  z4 : ∀ w, (Go.sizeOf 4).run P w = .ok 1 w
  v4 : ∀ w, (zeroValue 4).run P w = .ok (Value.bool false) w
  t28 : P.underlying 28 = some (TypeDesc.slice 49)
  a28 : ∀ w, (isAgg 28).run P w = .ok false w
  z28 : ∀ w, (Go.sizeOf 28).run P w = .ok 1 w
  v28 : ∀ w, (zeroValue 28).run P w = .ok (Value.slice none 0 0) w
  t146 : P.underlying 146 = some (TypeDesc.int IntKind.u64)
  a146 : ∀ w, (isAgg 146).run P w = .ok false w
  z146 : ∀ w, (Go.sizeOf 146).run P w = .ok 1 w
  v146 : ∀ w, (zeroValue 146).run P w = .ok (Value.int IntKind.u64 0) w
  t103 : P.underlying 103 = some (TypeDesc.func #[49, 49] #[3] false)
  a103 : ∀ w, (isAgg 103).run P w = .ok false w
  z103 : ∀ w, (Go.sizeOf 103).run P w = .ok 1 w
  v103 : ∀ w, (zeroValue 103).run P w = .ok (Value.nilFunc) w
  aE : ∀ w, (isAgg 49).run P w = .ok true w
  zE : ∀ w, (Go.sizeOf 49).run P w = .ok k w
theorem lay : Lay Try.prog 4 where
  mixed := by kernel_rfl
  f75 := Try.func75
  f76 := Try.func76
  f85 := Try.func85
  f101 := Try.func101
  f57 := Try.func57
  f32 := Try.func32
  t0 := Try.underlying0
  a0 := Try.isAgg0
  z0 := Try.sizeOf0
  v0 := Try.zeroValue0
  t3 := Try.underlying3
  a3 := Try.isAgg3
  z3 := Try.sizeOf3
  v3 := Try.zeroValue3
  t4 := Try.underlying4
  a4 := Try.isAgg4
  z4 := Try.sizeOf4
  v4 := Try.zeroValue4
  t28 := Try.underlying28
  a28 := Try.isAgg28
  z28 := Try.sizeOf28
  v28 := Try.zeroValue28
  t146 := Try.underlying146
  a146 := Try.isAgg146
  z146 := Try.sizeOf146
  v146 := Try.zeroValue146
  t103 := Try.underlying103
  a103 := Try.isAgg103
  z103 := Try.sizeOf103
  v103 := Try.zeroValue103
  aE := Try.isAgg49
  zE := Try.sizeOf49
set_option maxHeartbeats 4000000 in
set_option maxRecDepth 1000000 in
theorem swr_calls {P : Program} {k : Nat} (L : Lay P k) (enc : α → List Value) (blk off cap a b n : Nat) (cv : Value) (d0 d : Array α) (w0 w : World) (R : RowK enc k w0 blk off d0) (hs : d0.size = d.size) (S : SWK enc k w0 blk off d w) (ha : a + n ≤ d.size) (hb : b + n ≤ d.size) (hsz : d.size < 4611686018427387904) :
    Calls P 101 #[.slice (some ⟨blk, off, none⟩) d.size cap, .int .i64 a, .int .i64 b, .int .i64 n, cv] w fun e w' =>
      e = .returned (.tuple #[]) ∧ SWK enc k w0 blk off (swr d a b n) w' := by
  have mixed := L.mixed; have t0 := L.t0; have a0 := L.a0; have z0 := L.z0; have v0 := L.v0; have t3 := L.t3; have a3 := L.a3; have z3 := L.z3; have v3 := L.v3; have t4 := L.t4; have a4 := L.a4; have z4 := L.z4; have v4 := L.v4; have t28 := L.t28; have a28 := L.a28; have z28 := L.z28; have v28 := L.v28; have t146 := L.t146; have a146 := L.a146; have z146 := L.z146; have v146 := L.v146; have t103 := L.t103; have a103 := L.a103; have z103 := L.z103; have v103 := L.v103; have aE := L.aE; have zE := L.zE
  have S0 : Aside _ := S
  clear S
  go_enter L.f101, Try.ntmps101
  go_wp2
  go_loopg [10] n (fun kx s10 wr => ∃ (i : Nat) (dk : Array α), s10 = .int .i64 i ∧ i ≤ n ∧ n - i ≤ kx ∧ dk.size = d.size ∧ Aside (SWK enc k w0 blk off dk wr) ∧ Hid (dk = swr d a b i))
  case atStart => exact ⟨0, d, rfl, Nat.zero_le _, Nat.le_refl _, rfl, S0, rfl⟩
  case round =>
    obtain ⟨i, dk, rfl, hi, hkx, hds, S1, HE⟩ := hrel
    clear S0
    by_cases hlt : i < n
    · have hltz : (i : Int) < (n : Int) := by omega
      have ea : ((a : Int) + (i : Int)).toNat = a + i := by omega
      have pa : (0 : Int) ≤ (a : Int) + (i : Int) := by omega
      have ba : (a : Int) + (i : Int) < (d.size : Int) := by omega
      have ra : IntKind.i64.wrap ((a : Int) + (i : Int)) = (a : Int) + (i : Int) := by rw [IntKind.wrap_i64]; omega
      have ec : ((b : Int) + (i : Int)).toNat = b + i := by omega
      have pc : (0 : Int) ≤ (b : Int) + (i : Int) := by omega
      have bc : (b : Int) + (i : Int) < (d.size : Int) := by omega
      have rc : IntKind.i64.wrap ((b : Int) + (i : Int)) = (b : Int) + (i : Int) := by rw [IntKind.wrap_i64]; omega
      have S2 : Aside (SWK enc k w0 blk off (swp dk (a + i) (b + i)) ((wr.drew.setCells blk (off + (a + i) * k) (enc dk[b + i]!)).setCells blk (off + (b + i) * k) (enc dk[a + i]!))) := S1.out.swapped R (a + i) (b + i) (by omega) (by omega)
      have la := S1.out.ld1 R (by omega) P (a + i) (by omega)
      have lb := S1.out.ld1 R (by omega) P (b + i) (by omega)
      have sa := S1.out.st1 R (by omega) P (a + i) (by omega) dk[b + i]!
      have sb := S1.out.st2 R (by omega) P (a + i) (b + i) (by omega) (by omega) dk[b + i]! dk[a + i]!
      have na : (enc dk[a + i]!).length = k := R.hk _
      have nb : (enc dk[b + i]!).length = k := R.hk _
      generalize enc dk[a + i]! = cI at S2 la sb na
      generalize enc dk[b + i]! = cJ at S2 lb sa sb nb
      clear S1
      go_wp2_with fail
      go_big_region_o
      clear la lb sa sb
      generalize (wr.drew.setCells blk (off + (a + i) * k) cJ).setCells blk (off + (b + i) * k) cI = w2 at S2 ⊢
      go_wp2_with fail
      go_roundg (n - (i + 1))
      case measure => omega
      case rel => exact ⟨i + 1, swp dk (a + i) (b + i), by go_num, by omega, Nat.le_refl _, by rw [size_swp]; exact hds, S2, (show _ = _ by rw [HE.out, swr])⟩
    · have hltz : ¬ (i : Int) < (n : Int) := by omega
      go_wp2
      go_end0
      have e : i = n := by omega
      subst e
      rw [← HE.out]
      exact ⟨rfl, S1.out⟩
set_option maxHeartbeats 4000000 in
set_option maxRecDepth 1000000 in
theorem rot_calls {P : Program} {k : Nat} (L : Lay P k) (enc : α → List Value) (blk off cap a m b : Nat) (cv : Value) (d0 d : Array α) (w0 w : World) (R : RowK enc k w0 blk off d0) (hs : d0.size = d.size) (S : SWK enc k w0 blk off d w) (ham : a < m) (hmb : m < b) (hb : b ≤ d.size) (hsz : d.size < 4611686018427387904) :
    Calls P 85 #[.slice (some ⟨blk, off, none⟩) d.size cap, .int .i64 a, .int .i64 m, .int .i64 b, cv] w fun e w' =>
      e = .returned (.tuple #[]) ∧ ∃ d', Rot a m b d d' ∧ SWK enc k w0 blk off d' w' := by
  have mixed := L.mixed; have t0 := L.t0; have a0 := L.a0; have z0 := L.z0; have v0 := L.v0; have t3 := L.t3; have a3 := L.a3; have z3 := L.z3; have v3 := L.v3; have t4 := L.t4; have a4 := L.a4; have z4 := L.z4; have v4 := L.v4; have t28 := L.t28; have a28 := L.a28; have z28 := L.z28; have v28 := L.v28; have t146 := L.t146; have a146 := L.a146; have z146 := L.z146; have v146 := L.v146; have t103 := L.t103; have a103 := L.a103; have z103 := L.z103; have v103 := L.v103; have aE := L.aE; have zE := L.zE
  have e101 : ∀ args w, (callFunc 101 args).run P w = .ok (.enter 101 args) w := enters_of L.f101 (by kernel_rfl) rfl
  have S0 : Aside _ := S
  clear S
  have rm : IntKind.i64.wrap ((m : Int) - (a : Int)) = (m : Int) - (a : Int) := by rw [IntKind.wrap_i64]; omega
  have rb : IntKind.i64.wrap ((b : Int) - (m : Int)) = (b : Int) - (m : Int) := by rw [IntKind.wrap_i64]; omega
  go_enter L.f85, Try.ntmps85
  go_wp2
  go_loopg [10, 11] (b - a) (fun kx s10 s11 wr => ∃ (i j : Nat) (dk : Array α), s10 = .int .i64 i ∧ s11 = .int .i64 j ∧ 0 < i ∧ 0 < j ∧ i ≤ m ∧ m + j ≤ d.size ∧ i + j ≤ kx ∧ dk.size = d.size ∧ Aside (SWK enc k w0 blk off dk wr) ∧ Hid (∀ d', Rot (m - i) m (m + j) dk d' → Rot a m b d d'))
  case atStart =>
    refine ⟨m - a, b - m, d, ?_, ?_, by omega, by omega, by omega, by omega, by omega, rfl, S0, fun d' h => ?_⟩
    · congr 1
      omega
    · congr 1
      omega
    · rw [show m - (m - a) = a by omega, show m + (b - m) = b by omega] at h
      exact h
  case round =>
    obtain ⟨i, j, dk, rfl, rfl, hi, hj, him, hjm, hkx, hds, S1, HE⟩ := hrel
    clear S0
    have ri : IntKind.i64.wrap ((m : Int) - (i : Int)) = (m : Int) - (i : Int) := by rw [IntKind.wrap_i64]; omega
    by_cases hij : i = j
    · subst hij
      have hc := swr_calls L enc blk off cap (m - i) m i cv d0 dk w0 wr R (by omega) S1.out (by omega) (by omega) (by omega)
      rw [show ((m - i : Nat) : Int) = (m : Int) - (i : Int) by omega, hds] at hc
      clear S1
      go_wp2_with (go_at_fn 101; refine hc.mono ?_; rintro e w1 ⟨rfl, S2⟩)
      go_end0
      exact ⟨rfl, _, HE.out _ (rot_end him (by omega)), S2⟩
    · have hijz : ¬ ((i : Int) = (j : Int)) := by omega
      rcases Nat.lt_or_ge j i with h | h
      · have hz : (j : Int) < (i : Int) := by omega
        have r2 : IntKind.i64.wrap ((i : Int) - (j : Int)) = (i : Int) - (j : Int) := by rw [IntKind.wrap_i64]; omega
        have hc := swr_calls L enc blk off cap (m - i) m j cv d0 dk w0 wr R (by omega) S1.out (by omega) (by omega) (by omega)
        rw [show ((m - i : Nat) : Int) = (m : Int) - (i : Int) by omega, hds] at hc
        clear S1
        go_wp2_with (go_at_fn 101; refine hc.mono ?_; rintro e w1 ⟨rfl, S2⟩)
        go_roundg (i - j + j)
        case measure => omega
        case rel =>
          refine ⟨i - j, j, swr dk (m - i) m j, ?_, rfl, by omega, hj, by omega, hjm, by omega, by rw [swr_size]; exact hds, S2, fun d' h' => ?_⟩
          · congr 1
            omega
          · rw [show m - (i - j) = m - i + j by omega] at h'
            exact HE.out _ (rot_step1 h him (by omega) h')
      · have hz : ¬ ((j : Int) < (i : Int)) := by omega
        have r2 : IntKind.i64.wrap ((j : Int) - (i : Int)) = (j : Int) - (i : Int) := by rw [IntKind.wrap_i64]; omega
        have r3 : IntKind.i64.wrap ((m : Int) + (j : Int)) = (m : Int) + (j : Int) := by rw [IntKind.wrap_i64]; omega
        have r4 : IntKind.i64.wrap ((m : Int) + (j : Int) - (i : Int)) = (m : Int) + (j : Int) - (i : Int) := by rw [IntKind.wrap_i64]; omega
        have hc := swr_calls L enc blk off cap (m - i) (m + j - i) i cv d0 dk w0 wr R (by omega) S1.out (by omega) (by omega) (by omega)
        rw [show ((m - i : Nat) : Int) = (m : Int) - (i : Int) by omega, show ((m + j - i : Nat) : Int) = (m : Int) + (j : Int) - (i : Int) by omega, hds] at hc
        clear S1
        go_wp2_with (go_at_fn 101; refine hc.mono ?_; rintro e w1 ⟨rfl, S2⟩)
        go_roundg (j - i + i)
        case measure => omega
        case rel =>
          refine ⟨i, j - i, swr dk (m - i) (m + j - i) i, rfl, ?_, hi, by omega, him, by omega, by omega, by rw [swr_size]; exact hds, S2, fun d' h' => ?_⟩
          · congr 1
            omega
          · rw [show m + (j - i) = m + j - i by omega] at h'
            exact HE.out _ (rot_step2 (by omega) him (by omega) h')
end Go.Proofs.Yticgadnmlbfmfaa.cachePlays
/-
  The stable sort's functions: insertion, merging.
-/
namespace Go.Proofs.Yticgadnmlbfmfaa.cachePlays
open Go.Shelf Go.RowKit Go.Lib Go.Sort
variable {α : Type} [Inhabited α]
/-- What the comparing method does, in every world of the sort's. -/
def CmpL (P : Program) (g : Nat) (rs : Array Value) (enc : α → List Value) (k : Nat) (cf : α → α → Int) (blk off size : Nat) (w : World) : Prop :=
  ∀ (m : Nat) (os : Array Obj) (dk : Array α), dk.size = size → ∀ x y : α,
    Calls P g (rs ++ #[.agg (enc x).toArray, .agg (enc y).toArray]) (sortWorldK enc k w blk off m dk os) fun e w' => e = .returned (.int .i64 (cf x y)) ∧ ∃ q os', w' = grow ((sortWorldK enc k w blk off m dk os).drewN q) os'
theorem cmpL {P : Program} {g : Nat} {rs : Array Value} {enc : α → List Value} {k : Nat} {cf : α → α → Int} {blk off size : Nat} {w0 W : World} {dk : Array α} (h : SWK enc k w0 blk off dk W) (hC : CmpL P g rs enc k cf blk off size w0) (hs : dk.size = size) (x y : α) (n : Nat) (os : Array Obj) :
    Calls P g (rs ++ #[.agg (enc x).toArray, .agg (enc y).toArray]) (grow (W.drewN n) os) fun e w' => e = .returned (.int .i64 (cf x y)) ∧ ∃ q os', w' = grow ((grow (W.drewN n) os).drewN q) os' := by
  obtain ⟨m, os0, hw⟩ := h.grown n os
  rw [hw]
  exact hC m os0 dk hs x y
set_option maxHeartbeats 4000000 in
set_option maxRecDepth 1000000 in
theorem ins_calls {P : Program} {k : Nat} (L : Lay P k) (enc : α → List Value) (cf : α → α → Int) (g : Nat) (rs : Array Value) (blk off cap a b : Nat) (d0 d : Array α) (w0 w : World) (eg : ∀ args w, (callFunc g args).run P w = .ok (.enter g args) w) (hcmp : CmpL P g rs enc k cf blk off d0.size w0) (R : RowK enc k w0 blk off d0) (hs : d0.size = d.size) (S : SWK enc k w0 blk off d w) (hab : a ≤ b) (hb : b ≤ d.size) (hsz : d.size < 4611686018427387904) :
    Calls P 75 #[.slice (some ⟨blk, off, none⟩) d.size cap, .int .i64 a, .int .i64 b, .func (.func g) rs #[]] w fun e w' =>
      e = .returned (.tuple #[]) ∧ SWK enc k w0 blk off (Sort.insertionSort (ltOf cf) d a b) w' := by
  have mixed := L.mixed; have t0 := L.t0; have a0 := L.a0; have z0 := L.z0; have v0 := L.v0; have t3 := L.t3; have a3 := L.a3; have z3 := L.z3; have v3 := L.v3; have t4 := L.t4; have a4 := L.a4; have z4 := L.z4; have v4 := L.v4; have t28 := L.t28; have a28 := L.a28; have z28 := L.z28; have v28 := L.v28; have t146 := L.t146; have a146 := L.a146; have z146 := L.z146; have v146 := L.v146; have t103 := L.t103; have a103 := L.a103; have z103 := L.z103; have v103 := L.v103; have aE := L.aE; have zE := L.zE
  have HC : Aside _ := hcmp
  have S0 : Aside _ := S
  clear hcmp S
  go_enter L.f75, Try.ntmps75
  go_wp2
  go_loopg [8] (b - a) (fun g1 vi wr => ∃ (i : Nat) (dk : Array α), vi = .int .i64 i ∧ a < i ∧ i ≤ b + 1 ∧ b + 1 - i ≤ g1 + 1 ∧ dk.size = d.size ∧ Aside (SWK enc k w0 blk off dk wr) ∧ Hid (insOuter (ltOf cf) a b i dk = insOuter (ltOf cf) a b (a + 1) d))
  case atStart => exact ⟨a + 1, d, by go_num, by omega, by omega, by omega, rfl, S0, rfl⟩
  case round =>
    obtain ⟨i, dk, rfl, hai, hib, hg1, hsk, S1, HO⟩ := hrel
    clear S0
    by_cases hlt : i < b
    · have hltz : (i : Int) < (b : Int) := by omega
      go_wp2
      go_loopg [9] i (fun g2 vj wr2 => ∃ (j : Nat) (dj : Array α), vj = .int .i64 j ∧ a ≤ j ∧ j ≤ i ∧ j ≤ g2 ∧ dj.size = d.size ∧ Aside (SWK enc k w0 blk off dj wr2) ∧ Hid (insInner (ltOf cf) a j dj = insInner (ltOf cf) a i dk))
      case atStart => exact ⟨i, dk, rfl, by omega, Nat.le_refl _, Nat.le_refl _, hsk, S1, rfl⟩
      case round =>
        clear S1
        obtain ⟨j, dj, rfl, haj, hji, hg2, hsj, S1, HI⟩ := hrel
        have out : (j ≤ a ∨ ltOf cf dj[j]! dj[j - 1]! = false) → Hid (insOuter (ltOf cf) a b (i + 1) dj = insOuter (ltOf cf) a b (a + 1) d) := fun hs => by
          show _ = _
          rw [← HO.out, insOuter_go _ _ _ _ _ hlt, ← HI.out, insInner_stop _ _ _ _ hs]
        have OUT : Aside _ := out
        clear out
        by_cases hja : a < j
        · have hjaz : (a : Int) < (j : Int) := by omega
          obtain ⟨jp, rfl⟩ : ∃ jp, j = jp + 1 := ⟨j - 1, by omega⟩
          have hwp : IntKind.i64.wrap (jp : Int) = (jp : Int) := by rw [IntKind.wrap_i64]; omega
          have hjaz' : (a : Int) < (jp : Int) + 1 := by omega
          cases hL : ltOf cf dj[jp + 1]! dj[jp]! with
          | true =>
            have ea1 : ((jp : Int) + 1).toNat = jp + 1 := by omega
            have pa1 : (0 : Int) ≤ (jp : Int) + 1 := by omega
            have ba1 : (jp : Int) + 1 < (d.size : Int) := by omega
            have ec1 : ((jp : Int)).toNat = jp := by omega
            have pc1 : (0 : Int) ≤ (jp : Int) := by omega
            have bc1 : (jp : Int) < (d.size : Int) := by omega
            obtain ⟨x1, hx1⟩ : ∃ x, x = dj[jp + 1]! := ⟨_, rfl⟩
            obtain ⟨y1, hy1⟩ : ∃ x, x = dj[jp]! := ⟨_, rfl⟩
            have l1a := S1.out.ld R (by omega) P (jp + 1) (by omega)
            have l1b := S1.out.ld R (by omega) P (jp) (by omega)
            rw [← hx1] at l1a
            rw [← hy1] at l1b
            have hc1 := cmpL S1.out HC.out (by omega) x1 y1
            have hv1 : cf x1 y1 < 0 := by rw [hx1, hy1]; exact of_decide_eq_true hL
            clear hx1 hy1
            go_wp2_with fail
            go_quiet_grown (first | (go_at_fn g; refine Calls.grown_of (hc1 _ _)))
            have S1' : Aside (SWK enc k w0 blk off dj (grow (wr.drewN nq) osq)) := S1.out.grown nq osq
            clear l1a l1b hc1 S1
            generalize grow (wr.drewN nq) osq = wr' at S1' ⊢
            clear nq osq
            go_wp2_with fail
            have ea2 : ((jp : Int) + 1).toNat = jp + 1 := by omega
            have pa2 : (0 : Int) ≤ (jp : Int) + 1 := by omega
            have ba2 : (jp : Int) + 1 < (d.size : Int) := by omega
            have ec2 : ((jp : Int)).toNat = jp := by omega
            have pc2 : (0 : Int) ≤ (jp : Int) := by omega
            have bc2 : (jp : Int) < (d.size : Int) := by omega
            have T2 : Aside (SWK enc k w0 blk off (swp dj (jp + 1) (jp)) ((wr'.drew.setCells blk (off + (jp + 1) * k) (enc dj[jp]!)).setCells blk (off + (jp) * k) (enc dj[jp + 1]!))) := S1'.out.swapped R (jp + 1) (jp) (by omega) (by omega)
            have l2a := S1'.out.ld1 R (by omega) P (jp + 1) (by omega)
            have l2b := S1'.out.ld1 R (by omega) P (jp) (by omega)
            have s2a := S1'.out.st1 R (by omega) P (jp + 1) (by omega) dj[jp]!
            have s2b := S1'.out.st2 R (by omega) P (jp + 1) (jp) (by omega) (by omega) dj[jp]! dj[jp + 1]!
            have n2a : (enc dj[jp + 1]!).length = k := R.hk _
            have n2b : (enc dj[jp]!).length = k := R.hk _
            generalize enc dj[jp + 1]! = cI2 at T2 l2a s2b n2a
            generalize enc dj[jp]! = cJ2 at T2 l2b s2a s2b n2b
            clear S1'
            go_wp2_with fail
            go_big_region_o
            clear l2a l2b s2a s2b
            generalize (wr'.drew.setCells blk (off + (jp + 1) * k) cJ2).setCells blk (off + (jp) * k) cI2 = w2 at T2 ⊢
            all_goals go_wp2
            go_roundg jp
            case measure => omega
            case rel =>
              refine ⟨jp, swp dj (jp + 1) jp, by first | rfl | go_num | (congr 1; omega), by omega, by omega, Nat.le_refl _, by rw [size_swp]; exact hsj, T2, (show _ = _ from ?_)⟩
              have := insInner_go (ltOf cf) a (jp + 1) dj hja (by simp only [Nat.add_sub_cancel]; exact hL)
              simp only [Nat.add_sub_cancel] at this
              rw [← HI.out, this]
          | false =>
            have ea1 : ((jp : Int) + 1).toNat = jp + 1 := by omega
            have pa1 : (0 : Int) ≤ (jp : Int) + 1 := by omega
            have ba1 : (jp : Int) + 1 < (d.size : Int) := by omega
            have ec1 : ((jp : Int)).toNat = jp := by omega
            have pc1 : (0 : Int) ≤ (jp : Int) := by omega
            have bc1 : (jp : Int) < (d.size : Int) := by omega
            obtain ⟨x1, hx1⟩ : ∃ x, x = dj[jp + 1]! := ⟨_, rfl⟩
            obtain ⟨y1, hy1⟩ : ∃ x, x = dj[jp]! := ⟨_, rfl⟩
            have l1a := S1.out.ld R (by omega) P (jp + 1) (by omega)
            have l1b := S1.out.ld R (by omega) P (jp) (by omega)
            rw [← hx1] at l1a
            rw [← hy1] at l1b
            have hc1 := cmpL S1.out HC.out (by omega) x1 y1
            have hv1 : ¬ cf x1 y1 < 0 := by rw [hx1, hy1]; exact of_decide_eq_false hL
            clear hx1 hy1
            go_wp2_with fail
            go_quiet_grown (first | (go_at_fn g; refine Calls.grown_of (hc1 _ _)))
            have S1' : Aside (SWK enc k w0 blk off dj (grow (wr.drewN nq) osq)) := S1.out.grown nq osq
            clear l1a l1b hc1 S1
            generalize grow (wr.drewN nq) osq = wr' at S1' ⊢
            clear nq osq
            go_wp2
            go_roundg (b - (i + 1))
            case measure => omega
            case rel => exact ⟨i + 1, dj, by go_num, by omega, by omega, by omega, hsj, S1', OUT.out (Or.inr (by simp only [Nat.add_sub_cancel]; exact hL))⟩
        · have hjaz : decide ((j : Int) > (a : Int)) = false := decide_eq_false (by omega)
          have hjaz' : ¬ (a : Int) < (j : Int) := by omega
          have S2 : Aside (SWK enc k w0 blk off dj wr.drew) := S1.out.drew
          clear S1
          go_wp2_with fail
          go_big_region_o
          all_goals go_wp2
          go_roundg (b - (i + 1))
          case measure => omega
          case rel => exact ⟨i + 1, dj, by go_num, by omega, by omega, by omega, hsj, S2, OUT.out (Or.inl (by omega))⟩
    · have hltz : ¬ (i : Int) < (b : Int) := by omega
      go_wp2
      go_end0
      refine ⟨rfl, ?_⟩
      unfold Sort.insertionSort
      rw [← HO.out, insOuter_stop _ _ _ _ _ hlt]
      exact S1.out
end Go.Proofs.Yticgadnmlbfmfaa.cachePlays
/-
  The stable sort's functions: symMerge.
-/
namespace Go.Proofs.Yticgadnmlbfmfaa.cachePlays
open Go.Shelf Go.RowKit Go.Lib Go.Sort
variable {α : Type} [Inhabited α]
theorem rot_id {p m q : Nat} {d : Array α} (h : p = m ∨ m = q) : Rot p m q d d := ⟨rfl, fun x => by
  congr 1
  unfold rotI
  repeat' split
  all_goals omega⟩
theorem rot_up {a m x : Nat} {d dk : Array α} (h : Rot a m (x + 1) d dk) (hm : m = a + 1) (hx : a ≤ x ∧ x + 1 < d.size) : Rot a m (x + 1 + 1) d (swp dk x (x + 1)) := ⟨by rw [size_swp]; exact h.sz, fun y => by
  rw [swp_get _ (by rw [h.sz]; omega) (by rw [h.sz]; omega), h.at_, h.at_, h.at_]
  unfold rotI
  repeat' split
  all_goals first | rfl | (congr 1; omega) | (exfalso; omega)⟩
theorem rot_dn {m b y : Nat} {d dk : Array α} (h : Rot (y + 1) m b d dk) (hb : b = m + 1) (hy : y + 1 ≤ m) (hs : b ≤ d.size) : Rot y m b d (swp dk (y + 1) y) := ⟨by rw [size_swp]; exact h.sz, fun x => by
  rw [swp_get _ (by rw [h.sz]; omega) (by rw [h.sz]; omega), h.at_, h.at_, h.at_]
  unfold rotI
  repeat' split
  all_goals first | rfl | (congr 1; omega) | (exfalso; omega)⟩
section
variable {lt : α → α → Bool}
theorem ins_left (hS : SWO lt) {a m b i : Nat} {d d' : Array α} (hm : m = a + 1) (h1 : m ≤ i) (h2 : i ≤ b) (s2 : SortedIn lt m b d) (lo : m < i → lt d[i - 1]! d[a]! = true) (hi : i < b → lt d[i]! d[a]! = false) (R : Rot a m i d d') : StbIn lt a b d d' ∧ SortedIn lt a b d' := by
  have l : ∀ j, m ≤ j → j < i → lt d[j]! d[a]! = true := fun j h3 h4 => by
    rcases Nat.lt_or_ge j (i - 1) with h | h
    · exact ltn2 hS (lo (by omega)) (s2 j (i - 1) h3 h (by omega)) |> fun e => by
        cases e' : lt d[j]! d[a]! with
        | true => rfl
        | false =>
          have := hS.ntrans _ _ _ (s2 j (i - 1) h3 h (by omega)) e'
          rw [lo (by omega)] at this
          cases this
    · rw [show j = i - 1 by omega]
      exact lo (by omega)
  have g : ∀ j, i ≤ j → j < b → lt d[j]! d[a]! = false := fun j h3 h4 => by
    rcases Nat.lt_or_ge i j with h | h
    · exact hS.ntrans _ _ _ (s2 i j h1 h h4) (hi (by omega))
    · rw [show j = i by omega]
      exact hi (by omega)
  have o := R.at_
  refine ⟨(rot_stb hS R (by omega) h1 fun x y h3 h4 h5 h6 => by rw [show x = a by omega]; exact l y h5 h6).mono (Nat.le_refl _) (by omega) h2, fun x y h3 h4 h5 => ?_⟩
  rw [o x, o y]
  unfold rotI
  repeat' split
  all_goals first
    | (exfalso; omega)
    | exact s2 _ _ (by omega) (by omega) (by omega)
    | (rw [show a + (x - (a + (i - m))) = a by omega]; exact g _ (by omega) (by omega))
    | (rw [show a + (y - (a + (i - m))) = a by omega]; exact asym hS (l _ (by omega) (by omega)))
theorem ins_right (hS : SWO lt) {a m b i : Nat} {d d' : Array α} (hb : b = m + 1) (h1 : a ≤ i) (h2 : i ≤ m) (s1 : SortedIn lt a m d) (lo : a < i → lt d[m]! d[i - 1]! = false) (hi : i < m → lt d[m]! d[i]! = true) (R : Rot i m b d d') : StbIn lt a b d d' ∧ SortedIn lt a b d' := by
  have l : ∀ j, a ≤ j → j < i → lt d[m]! d[j]! = false := fun j h3 h4 => by
    rcases Nat.lt_or_ge j (i - 1) with h | h
    · exact hS.ntrans _ _ _ (lo (by omega)) (s1 j (i - 1) h3 h (by omega))
    · rw [show j = i - 1 by omega]
      exact lo (by omega)
  have g : ∀ j, i ≤ j → j < m → lt d[m]! d[j]! = true := fun j h3 h4 => by
    rcases Nat.lt_or_ge i j with h | h
    · exact ltn hS (hi (by omega)) (s1 i j h1 h h4)
    · rw [show j = i by omega]
      exact hi (by omega)
  have o := R.at_
  refine ⟨(rot_stb hS R h2 (by omega) fun x y h3 h4 h5 h6 => by rw [show y = m by omega]; exact g x h3 h4).mono h1 (by omega) (Nat.le_refl _), fun x y h3 h4 h5 => ?_⟩
  rw [o x, o y]
  unfold rotI
  repeat' split
  all_goals first
    | (exfalso; omega)
    | exact s1 _ _ (by omega) (by omega) (by omega)
    | (rw [show m + (x - i) = m by omega]; exact asym hS (g _ (by omega) (by omega)))
    | (rw [show m + (y - i) = m by omega]; exact l _ (by omega) (by omega))
end
set_option maxHeartbeats 16000000 in
set_option maxRecDepth 1000000 in
theorem sym_left {P : Program} {k : Nat} (L : Lay P k) (enc : α → List Value) (cf : α → α → Int) (g : Nat) (rs : Array Value) (blk off cap : Nat) (d0 : Array α) (w0 : World) (eg : ∀ args w, (callFunc g args).run P w = .ok (.enter g args) w) (hcmp : CmpL P g rs enc k cf blk off d0.size w0) (R : RowK enc k w0 blk off d0) (hO : SWO (ltOf cf))
    (a m b : Nat) (d : Array α) (w : World) (hs : d0.size = d.size) (S : SWK enc k w0 blk off d w) (hmb : m < b) (hb : b ≤ d.size) (hsz : d.size < 4611686018427387904) (hs1 : SortedIn (ltOf cf) a m d) (hs2 : SortedIn (ltOf cf) m b d) (h1 : m = a + 1) :
    Calls P 76 #[.slice (some ⟨blk, off, none⟩) d.size cap, .int .i64 a, .int .i64 m, .int .i64 b, .func (.func g) rs #[]] w fun e w' =>
      e = .returned (.tuple #[]) ∧ ∃ d', StbIn (ltOf cf) a b d d' ∧ SortedIn (ltOf cf) a b d' ∧ SWK enc k w0 blk off d' w' := by
  have mixed := L.mixed; have t0 := L.t0; have a0 := L.a0; have z0 := L.z0; have v0 := L.v0; have t3 := L.t3; have a3 := L.a3; have z3 := L.z3; have v3 := L.v3; have t4 := L.t4; have a4 := L.a4; have z4 := L.z4; have v4 := L.v4; have t28 := L.t28; have a28 := L.a28; have z28 := L.z28; have v28 := L.v28; have t146 := L.t146; have a146 := L.a146; have z146 := L.z146; have v146 := L.v146; have t103 := L.t103; have a103 := L.a103; have z103 := L.z103; have v103 := L.v103; have aE := L.aE; have zE := L.zE
  have HC : Aside _ := hcmp
  clear hcmp
  have S0 : Aside _ := S
  have HSS : Aside (SortedIn (ltOf cf) a m d ∧ SortedIn (ltOf cf) m b d) := ⟨hs1, hs2⟩
  clear S hs1 hs2
  have rm : IntKind.i64.wrap ((m : Int) - (a : Int)) = (m : Int) - (a : Int) := by rw [IntKind.wrap_i64]; omega
  have rb : IntKind.i64.wrap ((b : Int) - (m : Int)) = (b : Int) - (m : Int) := by rw [IntKind.wrap_i64]; omega
  go_enter L.f76, Try.ntmps76
  have h1z : (m : Int) - (a : Int) = 1 := by omega
  clear h1
  go_wp2
  go_loopg [10, 11] (b - m) (fun kx s10 s11 wr => ∃ (i j : Nat), s10 = .int .i64 i ∧ s11 = .int .i64 j ∧ m ≤ i ∧ i ≤ j ∧ j ≤ b ∧ j - i ≤ kx ∧ Aside (SWK enc k w0 blk off d wr) ∧ Hid ((m < i → ltOf cf d[i - 1]! d[a]! = true) ∧ (j < b → ltOf cf d[j]! d[a]! = false)))
  case atStart => exact ⟨m, b, rfl, rfl, Nat.le_refl _, by omega, Nat.le_refl _, Nat.le_refl _, S0, ⟨fun h => absurd h (by omega), fun h => absurd h (by omega)⟩⟩
  case round =>
    clear S0
    obtain ⟨i, j, rfl, rfl, hmi, hij, hjb, hkx, S1, HE⟩ := hrel
    by_cases hlt : i < j
    · have hltz : (i : Int) < (j : Int) := by omega
      cases hL : ltOf cf d[(i + j) / 2]! d[a]! with
      | true =>
        have ea1 : (((i : Int) + (j : Int)) / 2).toNat = (i + j) / 2 := by omega
        have pa1 : (0 : Int) ≤ ((i : Int) + (j : Int)) / 2 := by omega
        have ba1 : ((i : Int) + (j : Int)) / 2 < (d.size : Int) := by omega
        have ec1 : ((a : Int)).toNat = a := by omega
        have pc1 : (0 : Int) ≤ (a : Int) := by omega
        have bc1 : (a : Int) < (d.size : Int) := by omega
        obtain ⟨x1, hx1⟩ : ∃ x, x = d[(i + j) / 2]! := ⟨_, rfl⟩
        obtain ⟨y1, hy1⟩ : ∃ x, x = d[a]! := ⟨_, rfl⟩
        have l1a := S1.out.ld R (by omega) P ((i + j) / 2) (by omega)
        have l1b := S1.out.ld R (by omega) P (a) (by omega)
        rw [← hx1] at l1a
        rw [← hy1] at l1b
        have hc1 := cmpL S1.out HC.out (by omega) x1 y1
        have hv1 : cf x1 y1 < 0 := by rw [hx1, hy1]; exact of_decide_eq_true hL
        clear hx1 hy1
        go_wp2_with fail
        go_quiet_grown (first | (go_at_fn g; refine Calls.grown_of (hc1 _ _)))
        have S1' : Aside (SWK enc k w0 blk off d (grow (wr.drewN nq) osq)) := S1.out.grown nq osq
        clear l1a l1b hc1 S1
        generalize grow (wr.drewN nq) osq = wr' at S1' ⊢
        clear nq osq
        go_wp2
        go_roundg (j - ((i + j) / 2 + 1))
        case measure => omega
        case rel => exact ⟨(i + j) / 2 + 1, j, by go_num, rfl, by omega, by omega, hjb, Nat.le_refl _, S1', ⟨fun _ => by rw [Nat.add_sub_cancel]; exact hL, HE.out.2⟩⟩
      | false =>
        have ea1 : (((i : Int) + (j : Int)) / 2).toNat = (i + j) / 2 := by omega
        have pa1 : (0 : Int) ≤ ((i : Int) + (j : Int)) / 2 := by omega
        have ba1 : ((i : Int) + (j : Int)) / 2 < (d.size : Int) := by omega
        have ec1 : ((a : Int)).toNat = a := by omega
        have pc1 : (0 : Int) ≤ (a : Int) := by omega
        have bc1 : (a : Int) < (d.size : Int) := by omega
        obtain ⟨x1, hx1⟩ : ∃ x, x = d[(i + j) / 2]! := ⟨_, rfl⟩
        obtain ⟨y1, hy1⟩ : ∃ x, x = d[a]! := ⟨_, rfl⟩
        have l1a := S1.out.ld R (by omega) P ((i + j) / 2) (by omega)
        have l1b := S1.out.ld R (by omega) P (a) (by omega)
        rw [← hx1] at l1a
        rw [← hy1] at l1b
        have hc1 := cmpL S1.out HC.out (by omega) x1 y1
        have hv1 : ¬ cf x1 y1 < 0 := by rw [hx1, hy1]; exact of_decide_eq_false hL
        clear hx1 hy1
        go_wp2_with fail
        go_quiet_grown (first | (go_at_fn g; refine Calls.grown_of (hc1 _ _)))
        have S1' : Aside (SWK enc k w0 blk off d (grow (wr.drewN nq) osq)) := S1.out.grown nq osq
        clear l1a l1b hc1 S1
        generalize grow (wr.drewN nq) osq = wr' at S1' ⊢
        clear nq osq
        go_wp2
        go_roundg ((i + j) / 2 - i)
        case measure => omega
        case rel => exact ⟨i, (i + j) / 2, rfl, by go_num, hmi, by omega, by omega, Nat.le_refl _, S1', ⟨HE.out.1, fun _ => hL⟩⟩
    · have hltz : ¬ (i : Int) < (j : Int) := by omega
      obtain rfl : i = j := by omega
      go_wp2
      go_loopg [13] (i - a) (fun kx s13 wr2 => ∃ (x : Nat) (dk : Array α), s13 = .int .i64 x ∧ a ≤ x ∧ x + 1 ≤ i ∧ i - x ≤ kx ∧ dk.size = d.size ∧ Aside (SWK enc k w0 blk off dk wr2) ∧ Hid (Rot a m (x + 1) d dk))
      case atStart => exact ⟨a, d, rfl, Nat.le_refl _, by omega, Nat.le_refl _, rfl, S1, rot_id (.inr (by omega))⟩
      case round =>
        clear S1
        obtain ⟨x, dk, rfl, hax, hxi, hkx2, hds, S1, HR⟩ := hrel
        by_cases hlx : x + 1 < i
        · have hlz : (x : Int) < (i : Int) - 1 := by omega
          have ea2 : ((x : Int)).toNat = x := by omega
          have pa2 : (0 : Int) ≤ (x : Int) := by omega
          have ba2 : (x : Int) < (d.size : Int) := by omega
          have ec2 : ((x : Int) + 1).toNat = x + 1 := by omega
          have pc2 : (0 : Int) ≤ (x : Int) + 1 := by omega
          have bc2 : (x : Int) + 1 < (d.size : Int) := by omega
          have T2 : Aside (SWK enc k w0 blk off (swp dk (x) (x + 1)) ((wr.drew.setCells blk (off + (x) * k) (enc dk[x + 1]!)).setCells blk (off + (x + 1) * k) (enc dk[x]!))) := S1.out.swapped R (x) (x + 1) (by omega) (by omega)
          have l2a := S1.out.ld1 R (by omega) P (x) (by omega)
          have l2b := S1.out.ld1 R (by omega) P (x + 1) (by omega)
          have s2a := S1.out.st1 R (by omega) P (x) (by omega) dk[x + 1]!
          have s2b := S1.out.st2 R (by omega) P (x) (x + 1) (by omega) (by omega) dk[x + 1]! dk[x]!
          have n2a : (enc dk[x]!).length = k := R.hk _
          have n2b : (enc dk[x + 1]!).length = k := R.hk _
          generalize enc dk[x]! = cI2 at T2 l2a s2b n2a
          generalize enc dk[x + 1]! = cJ2 at T2 l2b s2a s2b n2b
          clear S1
          go_wp2_with fail
          go_big_region_o
          clear l2a l2b s2a s2b
          generalize (wr.drew.setCells blk (off + (x) * k) cJ2).setCells blk (off + (x + 1) * k) cI2 = w2 at T2 ⊢
          go_wp2_with fail
          go_roundg (i - (x + 1))
          case measure => omega
          case rel => exact ⟨x + 1, swp dk x (x + 1), by go_num, by omega, by omega, Nat.le_refl _, by rw [size_swp]; exact hds, T2, rot_up HR.out (by omega) (by omega)⟩
        · have hlz : ¬ (x : Int) < (i : Int) - 1 := by omega
          have hR := HR.out
          rw [show x + 1 = i by omega] at hR
          have hF := ins_left hO (by omega) hmi hjb HSS.out.2 HE.out.1 HE.out.2 hR
          go_wp2
          (try simp only [Exit.inBlock, Exit.then]); refine bodyPost_ret (results_none rfl _ _ _) rfl ?_
          exact ⟨rfl, dk, hF.1, hF.2, S1.out⟩
set_option maxHeartbeats 16000000 in
set_option maxRecDepth 1000000 in
theorem sym_right {P : Program} {k : Nat} (L : Lay P k) (enc : α → List Value) (cf : α → α → Int) (g : Nat) (rs : Array Value) (blk off cap : Nat) (d0 : Array α) (w0 : World) (eg : ∀ args w, (callFunc g args).run P w = .ok (.enter g args) w) (hcmp : CmpL P g rs enc k cf blk off d0.size w0) (R : RowK enc k w0 blk off d0) (hO : SWO (ltOf cf))
    (a m b : Nat) (d : Array α) (w : World) (hs : d0.size = d.size) (S : SWK enc k w0 blk off d w) (ham : a < m) (hb : b ≤ d.size) (hsz : d.size < 4611686018427387904) (hs1 : SortedIn (ltOf cf) a m d) (hs2 : SortedIn (ltOf cf) m b d) (h1 : ¬ m = a + 1) (h2 : b = m + 1) :
    Calls P 76 #[.slice (some ⟨blk, off, none⟩) d.size cap, .int .i64 a, .int .i64 m, .int .i64 b, .func (.func g) rs #[]] w fun e w' =>
      e = .returned (.tuple #[]) ∧ ∃ d', StbIn (ltOf cf) a b d d' ∧ SortedIn (ltOf cf) a b d' ∧ SWK enc k w0 blk off d' w' := by
  have mixed := L.mixed; have t0 := L.t0; have a0 := L.a0; have z0 := L.z0; have v0 := L.v0; have t3 := L.t3; have a3 := L.a3; have z3 := L.z3; have v3 := L.v3; have t4 := L.t4; have a4 := L.a4; have z4 := L.z4; have v4 := L.v4; have t28 := L.t28; have a28 := L.a28; have z28 := L.z28; have v28 := L.v28; have t146 := L.t146; have a146 := L.a146; have z146 := L.z146; have v146 := L.v146; have t103 := L.t103; have a103 := L.a103; have z103 := L.z103; have v103 := L.v103; have aE := L.aE; have zE := L.zE
  have HC : Aside _ := hcmp
  clear hcmp
  have S0 : Aside _ := S
  have HSS : Aside (SortedIn (ltOf cf) a m d ∧ SortedIn (ltOf cf) m b d) := ⟨hs1, hs2⟩
  clear S hs1 hs2
  have rm : IntKind.i64.wrap ((m : Int) - (a : Int)) = (m : Int) - (a : Int) := by rw [IntKind.wrap_i64]; omega
  have rb : IntKind.i64.wrap ((b : Int) - (m : Int)) = (b : Int) - (m : Int) := by rw [IntKind.wrap_i64]; omega
  have h1z : ((m : Int) - (a : Int) == 1) = false := beq_eq_false_iff_ne.2 (by omega)
  go_enter L.f76, Try.ntmps76
  have h2z : (b : Int) - (m : Int) = 1 := by omega
  clear h2
  go_wp2
  go_loopg [14, 15] (m - a) (fun kx s14 s15 wr => ∃ (i j : Nat), s14 = .int .i64 i ∧ s15 = .int .i64 j ∧ a ≤ i ∧ i ≤ j ∧ j ≤ m ∧ j - i ≤ kx ∧ Aside (SWK enc k w0 blk off d wr) ∧ Hid ((a < i → ltOf cf d[m]! d[i - 1]! = false) ∧ (j < m → ltOf cf d[m]! d[j]! = true)))
  case atStart => exact ⟨a, m, rfl, rfl, Nat.le_refl _, by omega, Nat.le_refl _, Nat.le_refl _, S0, ⟨fun h => absurd h (by omega), fun h => absurd h (by omega)⟩⟩
  case round =>
    clear S0
    obtain ⟨i, j, rfl, rfl, hai, hij, hjm, hkx, S1, HE⟩ := hrel
    by_cases hlt : i < j
    · have hltz : (i : Int) < (j : Int) := by omega
      cases hL : ltOf cf d[m]! d[(i + j) / 2]! with
      | true =>
        have ea1 : ((m : Int)).toNat = m := by omega
        have pa1 : (0 : Int) ≤ (m : Int) := by omega
        have ba1 : (m : Int) < (d.size : Int) := by omega
        have ec1 : (((i : Int) + (j : Int)) / 2).toNat = (i + j) / 2 := by omega
        have pc1 : (0 : Int) ≤ ((i : Int) + (j : Int)) / 2 := by omega
        have bc1 : ((i : Int) + (j : Int)) / 2 < (d.size : Int) := by omega
        obtain ⟨x1, hx1⟩ : ∃ x, x = d[m]! := ⟨_, rfl⟩
        obtain ⟨y1, hy1⟩ : ∃ x, x = d[(i + j) / 2]! := ⟨_, rfl⟩
        have l1a := S1.out.ld R (by omega) P (m) (by omega)
        have l1b := S1.out.ld R (by omega) P ((i + j) / 2) (by omega)
        rw [← hx1] at l1a
        rw [← hy1] at l1b
        have hc1 := cmpL S1.out HC.out (by omega) x1 y1
        have hv1 : cf x1 y1 < 0 := by rw [hx1, hy1]; exact of_decide_eq_true hL
        have hd1 : decide (cf x1 y1 < 0) = true := decide_eq_true hv1
        clear hx1 hy1
        go_wp2_with fail
        go_quiet_grown (first | (go_at_fn g; refine Calls.grown_of (hc1 _ _)))
        have S1' : Aside (SWK enc k w0 blk off d (grow (wr.drewN nq) osq)) := S1.out.grown nq osq
        clear l1a l1b hc1 S1
        generalize grow (wr.drewN nq) osq = wr' at S1' ⊢
        clear nq osq
        go_wp2
        go_roundg ((i + j) / 2 - i)
        case measure => omega
        case rel => exact ⟨i, (i + j) / 2, rfl, by go_num, hai, by omega, by omega, Nat.le_refl _, S1', ⟨HE.out.1, fun _ => hL⟩⟩
      | false =>
        have ea1 : ((m : Int)).toNat = m := by omega
        have pa1 : (0 : Int) ≤ (m : Int) := by omega
        have ba1 : (m : Int) < (d.size : Int) := by omega
        have ec1 : (((i : Int) + (j : Int)) / 2).toNat = (i + j) / 2 := by omega
        have pc1 : (0 : Int) ≤ ((i : Int) + (j : Int)) / 2 := by omega
        have bc1 : ((i : Int) + (j : Int)) / 2 < (d.size : Int) := by omega
        obtain ⟨x1, hx1⟩ : ∃ x, x = d[m]! := ⟨_, rfl⟩
        obtain ⟨y1, hy1⟩ : ∃ x, x = d[(i + j) / 2]! := ⟨_, rfl⟩
        have l1a := S1.out.ld R (by omega) P (m) (by omega)
        have l1b := S1.out.ld R (by omega) P ((i + j) / 2) (by omega)
        rw [← hx1] at l1a
        rw [← hy1] at l1b
        have hc1 := cmpL S1.out HC.out (by omega) x1 y1
        have hv1 : ¬ cf x1 y1 < 0 := by rw [hx1, hy1]; exact of_decide_eq_false hL
        have hd1 : decide (cf x1 y1 < 0) = false := decide_eq_false hv1
        clear hx1 hy1
        go_wp2_with fail
        go_quiet_grown (first | (go_at_fn g; refine Calls.grown_of (hc1 _ _)))
        have S1' : Aside (SWK enc k w0 blk off d (grow (wr.drewN nq) osq)) := S1.out.grown nq osq
        clear l1a l1b hc1 S1
        generalize grow (wr.drewN nq) osq = wr' at S1' ⊢
        clear nq osq
        go_wp2
        go_roundg (j - ((i + j) / 2 + 1))
        case measure => omega
        case rel => exact ⟨(i + j) / 2 + 1, j, by go_num, rfl, by omega, by omega, hjm, Nat.le_refl _, S1', ⟨fun _ => by rw [Nat.add_sub_cancel]; exact hL, HE.out.2⟩⟩
    · have hltz : ¬ (i : Int) < (j : Int) := by omega
      obtain rfl : i = j := by omega
      go_wp2
      go_loopg [17] (m - i) (fun kx s17 wr2 => ∃ (x : Nat) (dk : Array α), s17 = .int .i64 x ∧ i ≤ x ∧ x ≤ m ∧ x - i ≤ kx ∧ dk.size = d.size ∧ Aside (SWK enc k w0 blk off dk wr2) ∧ Hid (Rot x m b d dk))
      case atStart => exact ⟨m, d, rfl, by omega, Nat.le_refl _, Nat.le_refl _, rfl, S1, rot_id (.inl rfl)⟩
      case round =>
        clear S1
        obtain ⟨x, dk, rfl, hix, hxm, hkx2, hds, S1, HR⟩ := hrel
        by_cases hlx : i < x
        · have hlz : (i : Int) < (x : Int) := by omega
          obtain ⟨y, rfl⟩ : ∃ y, x = y + 1 := ⟨x - 1, by omega⟩
          have hlz' : (i : Int) < (y : Int) + 1 := by omega
          have ry : IntKind.i64.wrap ((y : Int)) = (y : Int) := by rw [IntKind.wrap_i64]; omega
          have ea2 : ((y : Int) + 1).toNat = y + 1 := by omega
          have pa2 : (0 : Int) ≤ (y : Int) + 1 := by omega
          have ba2 : (y : Int) + 1 < (d.size : Int) := by omega
          have ec2 : ((y : Int)).toNat = y := by omega
          have pc2 : (0 : Int) ≤ (y : Int) := by omega
          have bc2 : (y : Int) < (d.size : Int) := by omega
          have T2 : Aside (SWK enc k w0 blk off (swp dk (y + 1) (y)) ((wr.drew.setCells blk (off + (y + 1) * k) (enc dk[y]!)).setCells blk (off + (y) * k) (enc dk[y + 1]!))) := S1.out.swapped R (y + 1) (y) (by omega) (by omega)
          have l2a := S1.out.ld1 R (by omega) P (y + 1) (by omega)
          have l2b := S1.out.ld1 R (by omega) P (y) (by omega)
          have s2a := S1.out.st1 R (by omega) P (y + 1) (by omega) dk[y]!
          have s2b := S1.out.st2 R (by omega) P (y + 1) (y) (by omega) (by omega) dk[y]! dk[y + 1]!
          have n2a : (enc dk[y + 1]!).length = k := R.hk _
          have n2b : (enc dk[y]!).length = k := R.hk _
          generalize enc dk[y + 1]! = cI2 at T2 l2a s2b n2a
          generalize enc dk[y]! = cJ2 at T2 l2b s2a s2b n2b
          clear S1
          go_wp2_with fail
          go_big_region_o
          clear l2a l2b s2a s2b
          generalize (wr.drew.setCells blk (off + (y + 1) * k) cJ2).setCells blk (off + (y) * k) cI2 = w2 at T2 ⊢
          go_wp2_with fail
          go_roundg (y - i)
          case measure => omega
          case rel => exact ⟨y, swp dk (y + 1) y, by first | rfl | go_num | (congr 1; omega), by omega, by omega, Nat.le_refl _, by rw [size_swp]; exact hds, T2, rot_dn HR.out (by omega) hxm (by omega)⟩
        · have hlz : ¬ (i : Int) < (x : Int) := by omega
          have hR := HR.out
          rw [show x = i by omega] at hR
          have hF := ins_right hO (by omega) hai hjm HSS.out.1 HE.out.1 HE.out.2 hR
          go_wp2
          (try simp only [Exit.inBlock, Exit.then]); refine bodyPost_ret (results_none rfl _ _ _) rfl ?_
          exact ⟨rfl, dk, hF.1, hF.2, S1.out⟩
end Go.Proofs.Yticgadnmlbfmfaa.cachePlays
/-
  The stable sort's functions: symMerge, the general case.
-/
namespace Go.Proofs.Yticgadnmlbfmfaa.cachePlays
open Go.Shelf Go.RowKit Go.Lib Go.Sort
variable {α : Type} [Inhabited α]
set_option maxHeartbeats 16000000 in
set_option maxRecDepth 1000000 in
theorem sym_gen {P : Program} {k : Nat} (L : Lay P k) (enc : α → List Value) (cf : α → α → Int) (g : Nat) (rs : Array Value) (blk off cap : Nat) (d0 : Array α) (w0 : World) (eg : ∀ args w, (callFunc g args).run P w = .ok (.enter g args) w) (hcmp : CmpL P g rs enc k cf blk off d0.size w0) (R : RowK enc k w0 blk off d0) (hO : SWO (ltOf cf))
    (a m b : Nat) (d : Array α) (w : World) (hs : d0.size = d.size) (S : SWK enc k w0 blk off d w) (ham : a < m) (hmb : m < b) (hb : b ≤ d.size) (hsz : d.size < 4611686018427387904) (hs1 : SortedIn (ltOf cf) a m d) (hs2 : SortedIn (ltOf cf) m b d) (h1 : ¬ m = a + 1) (h2 : ¬ b = m + 1) (ih : ∀ (a' m' b' : Nat) (d' : Array α) (w' : World), b' - a' < b - a → d0.size = d'.size → SWK enc k w0 blk off d' w' → a' < m' → m' < b' → b' ≤ d'.size → d'.size < 4611686018427387904 → SortedIn (ltOf cf) a' m' d' → SortedIn (ltOf cf) m' b' d' →
    Calls P 76 #[.slice (some ⟨blk, off, none⟩) d'.size cap, .int .i64 a', .int .i64 m', .int .i64 b', .func (.func g) rs #[]] w' fun e w'' =>
      e = .returned (.tuple #[]) ∧ ∃ d'', StbIn (ltOf cf) a' b' d' d'' ∧ SortedIn (ltOf cf) a' b' d'' ∧ SWK enc k w0 blk off d'' w'') :
    Calls P 76 #[.slice (some ⟨blk, off, none⟩) d.size cap, .int .i64 a, .int .i64 m, .int .i64 b, .func (.func g) rs #[]] w fun e w' =>
      e = .returned (.tuple #[]) ∧ ∃ d', StbIn (ltOf cf) a b d d' ∧ SortedIn (ltOf cf) a b d' ∧ SWK enc k w0 blk off d' w' := by
  have mixed := L.mixed; have t0 := L.t0; have a0 := L.a0; have z0 := L.z0; have v0 := L.v0; have t3 := L.t3; have a3 := L.a3; have z3 := L.z3; have v3 := L.v3; have t4 := L.t4; have a4 := L.a4; have z4 := L.z4; have v4 := L.v4; have t28 := L.t28; have a28 := L.a28; have z28 := L.z28; have v28 := L.v28; have t146 := L.t146; have a146 := L.a146; have z146 := L.z146; have v146 := L.v146; have t103 := L.t103; have a103 := L.a103; have z103 := L.z103; have v103 := L.v103; have aE := L.aE; have zE := L.zE
  have HC : Aside _ := hcmp
  clear hcmp
  have S0 : Aside _ := S
  have HSS : Aside (SortedIn (ltOf cf) a m d ∧ SortedIn (ltOf cf) m b d) := ⟨hs1, hs2⟩
  clear S hs1 hs2
  have rm : IntKind.i64.wrap ((m : Int) - (a : Int)) = (m : Int) - (a : Int) := by rw [IntKind.wrap_i64]; omega
  have rb : IntKind.i64.wrap ((b : Int) - (m : Int)) = (b : Int) - (m : Int) := by rw [IntKind.wrap_i64]; omega
  have e76 : ∀ args w, (callFunc 76 args).run P w = .ok (.enter 76 args) w := enters_of L.f76 (by kernel_rfl) rfl
  have e85 : ∀ args w, (callFunc 85 args).run P w = .ok (.enter 85 args) w := enters_of L.f85 (by kernel_rfl) rfl
  have IH : Aside _ := ih
  clear ih
  have h1z : ((m : Int) - (a : Int) == 1) = false := beq_eq_false_iff_ne.2 (by omega)
  have h2z : ((b : Int) - (m : Int) == 1) = false := beq_eq_false_iff_ne.2 (by omega)
  clear h1 h2
  go_enter L.f76, Try.ntmps76
  obtain ⟨mid, hmid⟩ : ∃ mid : Nat, mid = (a + b) / 2 := ⟨_, rfl⟩
  have hmz : ((a : Int) + (b : Int)) / 2 = (mid : Int) := by omega
  have hm1 : a ≤ mid := by omega
  have hm2 : mid < b := by omega
  have HM : Hid (mid = (a + b) / 2) := hmid
  clear hmid
  go_upto_if 140 with fail
  go_cut [20, 21, 140] from 220 (fun s20 s21 _ wc => ∃ (st0 r0 : Nat), s20 = .int .i64 st0 ∧ s21 = .int .i64 r0 ∧ a ≤ st0 ∧ st0 ≤ r0 ∧ (st0 = a ∨ st0 + b = mid + m) ∧ r0 ≤ m ∧ r0 ≤ mid ∧ (r0 = m ∨ r0 = mid) ∧ mid + m ≤ b + st0 ∧ Aside (SWK enc k w0 blk off d wc))
  case first =>
    by_cases hmm : mid < m
    · have hmmz : (mid : Int) < (m : Int) := by omega
      go_wp2_with fail
      go_meet
      case rel =>
        have hmid := HM.out
        refine ⟨mid + m - b, mid, ?_, rfl, by omega, by omega, .inr (by omega), by omega, Nat.le_refl _, .inr rfl, by omega, S0⟩
        congr 1
        omega
    · have hmmz : ¬ ((mid : Int) < (m : Int)) := by omega
      go_wp2_with fail
      go_meet
      case rel =>
        have hmid := HM.out
        exact ⟨a, m, rfl, rfl, Nat.le_refl _, by omega, .inl rfl, Nat.le_refl _, by omega, .inl rfl, by omega, S0⟩
  case rest =>
    obtain ⟨st0, r0, rfl, rfl, c1, c2, c3, c4, c5, c6, c7, S1⟩ := hcut
    have C : Hid ((st0 = a ∨ st0 + b = mid + m) ∧ (r0 = m ∨ r0 = mid)) := ⟨c3, c6⟩
    clear c3 c6 S0
    go_wp2
    go_loopg [20, 21] (r0 - st0) (fun kx s20 s21 wr => ∃ (st r : Nat), s20 = .int .i64 st ∧ s21 = .int .i64 r ∧ st0 ≤ st ∧ st ≤ r ∧ r ≤ r0 ∧ r - st ≤ kx ∧ Aside (SWK enc k w0 blk off d wr) ∧ Hid ((st0 < st → ltOf cf d[mid + m - st]! d[st - 1]! = false) ∧ (r < r0 → ltOf cf d[mid + m - 1 - r]! d[r]! = true)))
    case atStart => exact ⟨st0, r0, rfl, rfl, Nat.le_refl _, c2, Nat.le_refl _, Nat.le_refl _, S1, ⟨fun h => absurd h (by omega), fun h => absurd h (by omega)⟩⟩
    case round =>
      clear S1
      obtain ⟨st, r, rfl, rfl, b1, b2, b3, hkx, S1, HE⟩ := hrel
      by_cases hlt : st < r
      · have hltz : (st : Int) < (r : Int) := by omega
        obtain ⟨c, hc⟩ : ∃ c : Nat, c = (st + r) / 2 := ⟨_, rfl⟩
        have hcz : ((st : Int) + (r : Int)) / 2 = (c : Int) := by omega
        have k1 : st ≤ c := by omega
        have k2 : c < r := by omega
        clear hc
        have rs : IntKind.i64.wrap ((st : Int) + (r : Int)) = (st : Int) + (r : Int) := by rw [IntKind.wrap_i64]; omega
        obtain ⟨e, he⟩ : ∃ e : Nat, e = mid + m - 1 - c := ⟨_, rfl⟩
        have hez : (mid : Int) + (m : Int) - 1 - (c : Int) = (e : Int) := by omega
        have k5 : m ≤ e := by omega
        have k6 : e < b := by omega
        have HEe : Hid (e = mid + m - 1 - c) := he
        clear he
        have rc : IntKind.i64.wrap (e : Int) = (e : Int) := by rw [IntKind.wrap_i64]; omega
        cases hL : ltOf cf d[e]! d[c]! with
        | true =>
          have ea1 : ((e : Int)).toNat = e := by omega
          have pa1 : (0 : Int) ≤ (e : Int) := by omega
          have ba1 : (e : Int) < (d.size : Int) := by omega
          have ec1 : ((c : Int)).toNat = c := by omega
          have pc1 : (0 : Int) ≤ (c : Int) := by omega
          have bc1 : (c : Int) < (d.size : Int) := by omega
          obtain ⟨x1, hx1⟩ : ∃ x, x = d[e]! := ⟨_, rfl⟩
          obtain ⟨y1, hy1⟩ : ∃ x, x = d[c]! := ⟨_, rfl⟩
          have l1a := S1.out.ld R (by omega) P (e) (by omega)
          have l1b := S1.out.ld R (by omega) P (c) (by omega)
          rw [← hx1] at l1a
          rw [← hy1] at l1b
          have hc1 := cmpL S1.out HC.out (by omega) x1 y1
          have hv1 : cf x1 y1 < 0 := by rw [hx1, hy1]; exact of_decide_eq_true hL
          have hd1 : decide (cf x1 y1 < 0) = true := decide_eq_true hv1
          clear hx1 hy1
          go_wp2_with fail
          go_quiet_grown (first | (go_at_fn g; refine Calls.grown_of (hc1 _ _)))
          have S1' : Aside (SWK enc k w0 blk off d (grow (wr.drewN nq) osq)) := S1.out.grown nq osq
          clear l1a l1b hc1 S1
          generalize grow (wr.drewN nq) osq = wr' at S1' ⊢
          clear nq osq
          go_wp2
          go_roundg (c - st)
          case measure => omega
          case rel => exact ⟨st, c, rfl, by first | rfl | go_num, b1, k1, by omega, Nat.le_refl _, S1', ⟨HE.out.1, fun _ => by rw [← HEe.out]; exact hL⟩⟩
        | false =>
          have ea1 : ((e : Int)).toNat = e := by omega
          have pa1 : (0 : Int) ≤ (e : Int) := by omega
          have ba1 : (e : Int) < (d.size : Int) := by omega
          have ec1 : ((c : Int)).toNat = c := by omega
          have pc1 : (0 : Int) ≤ (c : Int) := by omega
          have bc1 : (c : Int) < (d.size : Int) := by omega
          obtain ⟨x1, hx1⟩ : ∃ x, x = d[e]! := ⟨_, rfl⟩
          obtain ⟨y1, hy1⟩ : ∃ x, x = d[c]! := ⟨_, rfl⟩
          have l1a := S1.out.ld R (by omega) P (e) (by omega)
          have l1b := S1.out.ld R (by omega) P (c) (by omega)
          rw [← hx1] at l1a
          rw [← hy1] at l1b
          have hc1 := cmpL S1.out HC.out (by omega) x1 y1
          have hv1 : ¬ cf x1 y1 < 0 := by rw [hx1, hy1]; exact of_decide_eq_false hL
          have hd1 : decide (cf x1 y1 < 0) = false := decide_eq_false hv1
          clear hx1 hy1
          go_wp2_with fail
          go_quiet_grown (first | (go_at_fn g; refine Calls.grown_of (hc1 _ _)))
          have S1' : Aside (SWK enc k w0 blk off d (grow (wr.drewN nq) osq)) := S1.out.grown nq osq
          clear l1a l1b hc1 S1
          generalize grow (wr.drewN nq) osq = wr' at S1' ⊢
          clear nq osq
          go_wp2
          go_roundg (r - (c + 1))
          case measure => omega
          case rel => exact ⟨c + 1, r, by go_num, rfl, by omega, by omega, b3, Nat.le_refl _, S1', ⟨fun _ => by rw [Nat.add_sub_cancel, show mid + m - (c + 1) = mid + m - 1 - c by omega, ← HEe.out]; exact hL, HE.out.2⟩⟩
      · have hltz : ¬ (st : Int) < (r : Int) := by omega
        obtain rfl : st = r := by omega
        obtain ⟨en, hen⟩ : ∃ en : Nat, en = mid + m - st := ⟨_, rfl⟩
        have henz : (mid : Int) + (m : Int) - (st : Int) = (en : Int) := by omega
        have hF : Found (ltOf cf) a m b st en d := by
          refine ⟨by omega, by omega, by omega, by omega, fun h3 h4 => ?_, fun h3 h4 => ?_⟩
          · rw [hen]
            rcases Nat.lt_or_ge st0 st with h | h
            · exact HE.out.1 h
            · have := C.out.1
              omega
          · rw [show en - 1 = mid + m - 1 - st by omega]
            rcases Nat.lt_or_ge st r0 with h | h
            · exact HE.out.2 h
            · have := C.out.2
              omega
        have f1 := hF.h1
        have f2 := hF.h2
        have f3 := hF.h3
        have f4 := hF.h4
        have hms : mid = st + (en - m) := by omega
        have HF : Aside (Found (ltOf cf) a m b st en d ∧ mid = st + (en - m)) := ⟨hF, hms⟩
        have k3 : st ≤ mid := by omega
        have k4 : mid ≤ en := by omega
        clear hF hen HE C hms hkx b1 b3
        have re : IntKind.i64.wrap ((mid : Int) + (m : Int) - (st : Int)) = (mid : Int) + (m : Int) - (st : Int) := by rw [IntKind.wrap_i64]; omega
        go_upto_region 39 with fail
        go_cut [185] from 220 (fun s wc => ∃ bb : Bool, s = .bool bb ∧ Aside (SWK enc k w0 blk off d wc) ∧ Hid (bb = true ↔ st < m ∧ m < en))
        case first =>
          by_cases q1 : st < m
          · have q1z : (st : Int) < (m : Int) := by omega
            by_cases q2 : m < en
            · have q2z : (m : Int) < (en : Int) := by omega
              go_wp2_with fail
              go_meet
              case rel => exact ⟨true, by simp [*], S1, ⟨fun _ => ⟨q1, q2⟩, fun _ => rfl⟩⟩
            · have q2z : ¬ ((m : Int) < (en : Int)) := by omega
              have q2d : decide ((m : Int) < (en : Int)) = false := decide_eq_false q2z
              go_wp2_with fail
              go_meet
              case rel => exact ⟨false, by simp [*], S1, ⟨fun h => (by cases h), fun h => absurd h.2 q2⟩⟩
          · have q1z : ¬ ((st : Int) < (m : Int)) := by omega
            have q1d : decide ((st : Int) < (m : Int)) = false := decide_eq_false q1z
            go_wp2_with fail
            go_meet
            case rel => exact ⟨false, by simp [*], S1, ⟨fun h => (by cases h), fun h => absurd h.1 q1⟩⟩
        case rest =>
          clear S1
          obtain ⟨bb, rfl, S2, HB⟩ := hcut
          go_upto_if 185 with fail
          go_cut [185] from 220 (fun _ wc => ∃ d1, Aside (SWK enc k w0 blk off d1 wc) ∧ Hid (Rot st m en d d1))
          case first =>
            cases bb with
            | true =>
              obtain ⟨q1, q2⟩ := HB.out.1 rfl
              have hc := rot_calls L enc blk off cap st m en (.func (.func g) rs #[]) d0 d w0 wc R hs S2.out q1 q2 (by omega) hsz
              clear S2
              go_wp2_with (go_at_fn 85; refine hc.mono ?_; rintro e w1 ⟨rfl, d1, hR1, S3⟩)
              go_meet
              case rel => exact ⟨d1, S3, hR1⟩
            | false =>
              have HN : Hid (¬ (st < m ∧ m < en)) := fun h => by have := HB.out.2 h; cases this
              go_wp2_with fail
              go_meet
              case rel => exact ⟨d, S2, rot_id (by have := HN.out; omega)⟩
          case rest =>
            clear S2 HB
            obtain ⟨d1, S2, HR⟩ := hcut
            have hG := HF.out.1.rot hO HSS.out.1 HSS.out.2 HR.out HF.out.2
            have hsz1 : d1.size = d.size := hG.1.sz
            have HG : Aside _ := hG
            clear hG HR
            go_upto_region 41 with fail
            go_cut [199] from 220 (fun s wc => ∃ bb : Bool, s = .bool bb ∧ Aside (SWK enc k w0 blk off d1 wc) ∧ Hid (bb = true ↔ a < st ∧ st < mid))
            case first =>
              by_cases q1 : a < st
              · have q1z : (a : Int) < (st : Int) := by omega
                by_cases q2 : st < mid
                · have q2z : (st : Int) < (mid : Int) := by omega
                  go_wp2_with fail
                  go_meet
                  case rel => exact ⟨true, by simp [*], S2, ⟨fun _ => ⟨q1, q2⟩, fun _ => rfl⟩⟩
                · have q2z : ¬ ((st : Int) < (mid : Int)) := by omega
                  have q2d : decide ((st : Int) < (mid : Int)) = false := decide_eq_false q2z
                  go_wp2_with fail
                  go_meet
                  case rel => exact ⟨false, by simp [*], S2, ⟨fun h => (by cases h), fun h => absurd h.2 q2⟩⟩
              · have q1z : ¬ ((a : Int) < (st : Int)) := by omega
                have q1d : decide ((a : Int) < (st : Int)) = false := decide_eq_false q1z
                go_wp2_with fail
                go_meet
                case rel => exact ⟨false, by simp [*], S2, ⟨fun h => (by cases h), fun h => absurd h.1 q1⟩⟩
            case rest =>
              clear S2
              obtain ⟨bb, rfl, S3, HB⟩ := hcut
              go_upto_if 199 with fail
              go_cut [199] from 220 (fun _ wc => ∃ d2, Aside (SWK enc k w0 blk off d2 wc) ∧ Hid (StbIn (ltOf cf) a mid d1 d2 ∧ SortedIn (ltOf cf) a mid d2))
              case first =>
                cases bb with
                | true =>
                  obtain ⟨q1, q2⟩ := HB.out.1 rfl
                  have hc := IH.out a st mid d1 wc (by omega) (by omega) S3.out q1 q2 (by omega) (by omega) HG.out.2.1 HG.out.2.2.1
                  rw [hsz1] at hc
                  clear S3
                  go_wp2_with (go_at_fn 76; refine hc.mono ?_; rintro e w1 ⟨rfl, d2, hS1, hS2, S4⟩)
                  go_meet
                  case rel => exact ⟨d2, S4, hS1, hS2⟩
                | false =>
                  have HN : Hid (¬ (a < st ∧ st < mid)) := fun h => by have := HB.out.2 h; cases this
                  go_wp2_with fail
                  go_meet
                  case rel =>
                    refine ⟨d1, S3, .refl _ _ _, ?_⟩
                    rcases Nat.lt_or_ge a st with h | h
                    · have := HN.out
                      rw [show mid = st by omega]
                      exact HG.out.2.1
                    · rw [show a = st by omega]
                      exact HG.out.2.2.1
              case rest =>
                clear S3 HB
                obtain ⟨d2, S3, HD⟩ := hcut
                have hsz2 : d2.size = d.size := by rw [HD.out.1.sz, hsz1]
                go_upto_region 43 with fail
                go_cut [213] from 220 (fun s wc => ∃ bb : Bool, s = .bool bb ∧ Aside (SWK enc k w0 blk off d2 wc) ∧ Hid (bb = true ↔ mid < en ∧ en < b))
                case first =>
                  by_cases q1 : mid < en
                  · have q1z : (mid : Int) < (en : Int) := by omega
                    by_cases q2 : en < b
                    · have q2z : (en : Int) < (b : Int) := by omega
                      go_wp2_with fail
                      go_meet
                      case rel => exact ⟨true, by simp [*], S3, ⟨fun _ => ⟨q1, q2⟩, fun _ => rfl⟩⟩
                    · have q2z : ¬ ((en : Int) < (b : Int)) := by omega
                      have q2d : decide ((en : Int) < (b : Int)) = false := decide_eq_false q2z
                      go_wp2_with fail
                      go_meet
                      case rel => exact ⟨false, by simp [*], S3, ⟨fun h => (by cases h), fun h => absurd h.2 q2⟩⟩
                  · have q1z : ¬ ((mid : Int) < (en : Int)) := by omega
                    have q1d : decide ((mid : Int) < (en : Int)) = false := decide_eq_false q1z
                    go_wp2_with fail
                    go_meet
                    case rel => exact ⟨false, by simp [*], S3, ⟨fun h => (by cases h), fun h => absurd h.1 q1⟩⟩
                case rest =>
                  clear S3
                  obtain ⟨bb, rfl, S4, HB⟩ := hcut
                  have t1 : SortedIn (ltOf cf) mid en d2 := fun i j h3 h4 h5 => by
                    rw [HD.out.1.out i (.inr (by omega)), HD.out.1.out j (.inr (by omega))]
                    exact HG.out.2.2.2.1 i j h3 h4 h5
                  have t2 : SortedIn (ltOf cf) en b d2 := fun i j h3 h4 h5 => by
                    rw [HD.out.1.out i (.inr (by omega)), HD.out.1.out j (.inr (by omega))]
                    exact HG.out.2.2.2.2.1 i j h3 h4 h5
                  have TT : Aside (SortedIn (ltOf cf) mid en d2 ∧ SortedIn (ltOf cf) en b d2) := ⟨t1, t2⟩
                  clear t1 t2
                  cases bb with
                  | true =>
                    obtain ⟨q1, q2⟩ := HB.out.1 rfl
                    have hc := IH.out mid en b d2 wc (by omega) (by omega) S4.out q1 q2 (by omega) (by omega) TT.out.1 TT.out.2
                    rw [hsz2] at hc
                    clear S4
                    go_wp2_with (go_at_fn 76; refine hc.mono ?_; rintro e w1 ⟨rfl, d3, hS1, hS2, S5⟩)
                    go_end0
                    have hM := merged hO (a := a) (b := b) (by omega) (by omega) HD.out.1 HD.out.2 hS1 hS2 HG.out.2.2.2.2.2
                    exact ⟨rfl, d3, HG.out.1.trans hM.1, hM.2, S5⟩
                  | false =>
                    have HN : Hid (¬ (mid < en ∧ en < b)) := fun h => by have := HB.out.2 h; cases this
                    go_wp2_with fail
                    go_end0
                    have hS2 : SortedIn (ltOf cf) mid b d2 := by
                      rcases Nat.lt_or_ge mid en with h | h
                      · have := HN.out
                        rw [show b = en by omega]
                        exact TT.out.1
                      · rw [show mid = en by omega]
                        exact TT.out.2
                    have hM := merged hO (a := a) (b := b) (by omega) (by omega) HD.out.1 HD.out.2 (.refl _ _ _) hS2 HG.out.2.2.2.2.2
                    exact ⟨rfl, d2, HG.out.1.trans hM.1, hM.2, S4⟩
end Go.Proofs.Yticgadnmlbfmfaa.cachePlays
/-
  The stable sort: stableCmpFunc, SortStableFunc.
-/
namespace Go.Proofs.Yticgadnmlbfmfaa.cachePlays
open Go.Shelf Go.RowKit Go.Lib Go.Sort
variable {α : Type} [Inhabited α]
section
variable {lt : α → α → Bool}
theorem sorted_out {x y a b : Nat} {d d' : Array α} (h : SortedIn lt x y d) (k : StbIn lt a b d d') (ho : y ≤ a ∨ b ≤ x) : SortedIn lt x y d' := fun i j h1 h2 h3 => by
  rw [k.out i (by omega), k.out j (by omega)]
  exact h i j h1 h2 h3
/-- Each block of so many is in order. -/
def Blk (lt : α → α → Bool) (bs n : Nat) (d : Array α) : Prop := ∀ q, SortedIn lt (q * bs) (min ((q + 1) * bs) n) d
/-- So many blocks of twice as many are; the others of so many. -/
def Half (lt : α → α → Bool) (bs p n : Nat) (d : Array α) : Prop := (∀ q, q < p → SortedIn lt (q * (2 * bs)) ((q + 1) * (2 * bs)) d) ∧ ∀ q, 2 * p ≤ q → SortedIn lt (q * bs) (min ((q + 1) * bs) n) d
omit [Inhabited α] in
theorem dbl (p bs : Nat) : 2 * p * bs = p * (2 * bs) ∧ (2 * p + 1) * bs = p * (2 * bs) + bs ∧ (2 * p + 1 + 1) * bs = p * (2 * bs) + 2 * bs ∧ (p + 1) * (2 * bs) = p * (2 * bs) + 2 * bs := by
  have h : 2 * p * bs = p * (2 * bs) := by rw [Nat.mul_comm 2 p, Nat.mul_assoc]
  refine ⟨h, by rw [Nat.succ_mul, h], by rw [Nat.succ_mul, Nat.succ_mul, h]; omega, by rw [Nat.succ_mul]⟩
theorem half_start {bs n : Nat} {d : Array α} (h : Blk lt bs n d) : Half lt bs 0 n d := ⟨fun q hq => by omega, fun q _ => h q⟩
theorem half_sorted {bs p n : Nat} {d : Array α} (h : Half lt bs p n d) : SortedIn lt (p * (2 * bs)) (min (p * (2 * bs) + bs) n) d ∧ SortedIn lt (p * (2 * bs) + bs) (min (p * (2 * bs) + 2 * bs) n) d := by
  obtain ⟨e1, e2, e3, _⟩ := dbl p bs
  have h1 := h.2 (2 * p) (by omega)
  have h2 := h.2 (2 * p + 1) (by omega)
  rw [e2] at h1 h2
  rw [e1] at h1
  rw [e3] at h2
  exact ⟨h1, h2⟩
theorem half_step {bs p n : Nat} {d d' : Array α} (h : Half lt bs p n d) (k : StbIn lt (p * (2 * bs)) (p * (2 * bs) + 2 * bs) d d') (s : SortedIn lt (p * (2 * bs)) (p * (2 * bs) + 2 * bs) d') : Half lt bs (p + 1) n d' := by
  obtain ⟨e1, e2, e3, e4⟩ := dbl p bs
  refine ⟨fun q hq => ?_, fun q hq => ?_⟩
  · rcases Nat.lt_or_ge q p with hp | hp
    · refine sorted_out (h.1 q hp) k (.inl ?_)
      exact Nat.mul_le_mul_right _ hp
    · rw [show q = p by omega, e4]
      exact s
  · refine sorted_out (h.2 q (by omega)) k (.inr ?_)
    have := Nat.mul_le_mul_right bs (show 2 * p + 1 + 1 ≤ q by omega)
    rw [e3] at this
    exact this
theorem half_end {bs p n : Nat} {d d' : Array α} (h : Half lt bs p n d) (hn : n < p * (2 * bs) + 2 * bs) (k : StbIn lt (p * (2 * bs)) n d d') (s : SortedIn lt (p * (2 * bs)) n d') : Blk lt (bs * 2) n d' := fun q => by
  obtain ⟨_, _, _, e4⟩ := dbl p bs
  rw [Nat.mul_comm bs 2]
  rcases Nat.lt_trichotomy q p with hp | rfl | hp
  · have hle := Nat.mul_le_mul_right (2 * bs) (show q + 1 ≤ p from hp)
    intro i j h1 h2 h3
    exact sorted_out (h.1 q hp) k (.inl hle) i j h1 h2 (by omega)
  · intro i j h1 h2 h3
    exact s i j h1 h2 (by omega)
  · have hle := Nat.mul_le_mul_right (2 * bs) (show p + 1 ≤ q from hp)
    intro i j h1 h2 h3
    omega
theorem half_end2 {bs p n : Nat} {d : Array α} (h : Half lt bs p n d) (hn : n ≤ p * (2 * bs) + bs) : Blk lt (bs * 2) n d := by
  have h1 := (half_sorted h).1
  rw [Nat.min_eq_right hn] at h1
  rcases Nat.eq_zero_or_pos bs with rfl | hb
  · intro q i j h1 h2 h3
    simp at h3
  · exact half_end h (by omega) (.refl _ _ _) h1
theorem blk_all {bs n : Nat} {d : Array α} (h : Blk lt bs n d) (hn : n ≤ bs) : SortedIn lt 0 n d := by
  have := h 0
  rw [Nat.zero_mul, Nat.zero_add, Nat.one_mul, Nat.min_eq_right hn] at this
  exact this
/-- Blocks of twenty, one behind the other. -/
def Twenty (lt : α → α → Bool) (p : Nat) (d : Array α) : Prop := ∀ q, q < p → SortedIn lt (q * 20) ((q + 1) * 20) d
theorem twenty_step {p : Nat} {d d' : Array α} (h : Twenty lt p d) (k : StbIn lt (p * 20) (p * 20 + 20) d d') (s : SortedIn lt (p * 20) (p * 20 + 20) d') : Twenty lt (p + 1) d' := fun q hq => by
  rcases Nat.lt_or_ge q p with hp | hp
  · exact sorted_out (h q hp) k (.inl (by omega))
  · rw [show q = p by omega, show (p + 1) * 20 = p * 20 + 20 by omega]
    exact s
theorem twenty_end {p n : Nat} {d d' : Array α} (h : Twenty lt p d) (hn : n < p * 20 + 20) (k : StbIn lt (p * 20) n d d') (s : SortedIn lt (p * 20) n d') : Blk lt 20 n d' := fun q => by
  intro i j h1 h2 h3
  rcases Nat.lt_trichotomy q p with hp | rfl | hp
  · exact sorted_out (h q hp) k (.inl (by omega)) i j h1 h2 (by omega)
  · exact s i j h1 h2 (by omega)
  · omega
end
theorem sym_calls {P : Program} {k : Nat} (L : Lay P k) (enc : α → List Value) (cf : α → α → Int) (g : Nat) (rs : Array Value) (blk off cap : Nat) (d0 : Array α) (w0 : World) (eg : ∀ args w, (callFunc g args).run P w = .ok (.enter g args) w) (hcmp : CmpL P g rs enc k cf blk off d0.size w0) (R : RowK enc k w0 blk off d0) (hO : SWO (ltOf cf)) :
    ∀ (N a m b : Nat) (d : Array α) (w : World), b - a ≤ N → d0.size = d.size → SWK enc k w0 blk off d w → a < m → m < b → b ≤ d.size → d.size < 4611686018427387904 → SortedIn (ltOf cf) a m d → SortedIn (ltOf cf) m b d →
    Calls P 76 #[.slice (some ⟨blk, off, none⟩) d.size cap, .int .i64 a, .int .i64 m, .int .i64 b, .func (.func g) rs #[]] w fun e w' =>
      e = .returned (.tuple #[]) ∧ ∃ d', StbIn (ltOf cf) a b d d' ∧ SortedIn (ltOf cf) a b d' ∧ SWK enc k w0 blk off d' w'
  | 0, a, m, b, d, w, hN, hs, S, ham, hmb, hb, hsz, s1, s2 => by omega
  | N + 1, a, m, b, d, w, hN, hs, S, ham, hmb, hb, hsz, s1, s2 => by
    by_cases h1 : m = a + 1
    · exact sym_left L enc cf g rs blk off cap d0 w0 eg hcmp R hO a m b d w hs S hmb hb hsz s1 s2 h1
    · by_cases h2 : b = m + 1
      · exact sym_right L enc cf g rs blk off cap d0 w0 eg hcmp R hO a m b d w hs S ham hb hsz s1 s2 h1 h2
      · exact sym_gen L enc cf g rs blk off cap d0 w0 eg hcmp R hO a m b d w hs S ham hmb hb hsz s1 s2 h1 h2 fun a' m' b' d' w' hN' hs' S' ham' hmb' hb' hsz' s1' s2' =>
          sym_calls L enc cf g rs blk off cap d0 w0 eg hcmp R hO N a' m' b' d' w' (by omega) hs' S' ham' hmb' hb' hsz' s1' s2'
set_option maxHeartbeats 16000000 in
set_option maxRecDepth 1000000 in
theorem stable_calls {P : Program} {k : Nat} (L : Lay P k) (enc : α → List Value) (cf : α → α → Int) (g : Nat) (rs : Array Value) (blk off cap : Nat) (d0 d : Array α) (w0 w : World) (eg : ∀ args w, (callFunc g args).run P w = .ok (.enter g args) w) (hcmp : CmpL P g rs enc k cf blk off d0.size w0) (R : RowK enc k w0 blk off d0) (hO : SWO (ltOf cf))
    (hs : d0.size = d.size) (S : SWK enc k w0 blk off d w) (hsz : d.size < 2305843009213693952) :
    Calls P 57 #[.slice (some ⟨blk, off, none⟩) d.size cap, .int .i64 d.size, .func (.func g) rs #[]] w fun e w' =>
      e = .returned (.tuple #[]) ∧ ∃ d', StbIn (ltOf cf) 0 d.size d d' ∧ SortedIn (ltOf cf) 0 d.size d' ∧ SWK enc k w0 blk off d' w' := by
  have mixed := L.mixed; have t0 := L.t0; have a0 := L.a0; have z0 := L.z0; have v0 := L.v0; have t3 := L.t3; have a3 := L.a3; have z3 := L.z3; have v3 := L.v3; have t4 := L.t4; have a4 := L.a4; have z4 := L.z4; have v4 := L.v4; have t28 := L.t28; have a28 := L.a28; have z28 := L.z28; have v28 := L.v28; have t146 := L.t146; have a146 := L.a146; have z146 := L.z146; have v146 := L.v146; have t103 := L.t103; have a103 := L.a103; have z103 := L.z103; have v103 := L.v103; have aE := L.aE; have zE := L.zE
  have e75 : ∀ args w, (callFunc 75 args).run P w = .ok (.enter 75 args) w := enters_of L.f75 (by kernel_rfl) rfl
  have e76 : ∀ args w, (callFunc 76 args).run P w = .ok (.enter 76 args) w := enters_of L.f76 (by kernel_rfl) rfl
  have HC : Aside _ := hcmp
  have S0 : Aside _ := S
  clear hcmp S
  go_enter L.f57, Try.ntmps57
  go_wp2
  go_loopg [7, 8] d.size (fun kx s7 s8 wr => ∃ (p a : Nat) (dk : Array α), s7 = .int .i64 a ∧ s8 = .int .i64 ((a : Int) + 20) ∧ a ≤ d.size ∧ d.size - a ≤ kx ∧ dk.size = d.size ∧ Aside (SWK enc k w0 blk off dk wr) ∧ Hid (a = p * 20 ∧ StbIn (ltOf cf) 0 d.size d dk ∧ Twenty (ltOf cf) p dk))
  case atStart => exact ⟨0, 0, d, rfl, rfl, Nat.zero_le _, Nat.le_refl _, rfl, S0, ⟨by omega, .refl _ _ _, fun q hq => by omega⟩⟩
  case round =>
    clear S0
    obtain ⟨p, a, dk, rfl, rfl, han, hkx, hds, S1, HE⟩ := hrel
    by_cases hlt : a + 20 ≤ d.size
    · have hltz : (a : Int) + 20 ≤ (d.size : Int) := by omega
      have hc := ins_calls L enc cf g rs blk off cap a (a + 20) d0 dk w0 wr eg HC.out R (by omega) S1.out (by omega) (by omega) (by omega)
      have hI := ins_stb hO (lt := ltOf cf) (a := a) (b := a + 20) (d := dk) (by omega) (by omega)
      rw [hds, show ((a + 20 : Nat) : Int) = (a : Int) + 20 by omega] at hc
      have HI : Aside _ := hI
      clear S1 hI
      go_wp2_with (go_at_fn 75; refine hc.mono ?_; rintro e w1 ⟨rfl, S2⟩)
      go_roundg (d.size - (a + 20))
      case measure => omega
      case rel =>
        refine ⟨p + 1, a + 20, _, by first | rfl | go_num, by first | rfl | go_num | (congr 1; omega), hlt, Nat.le_refl _, by rw [HI.out.1.sz]; exact hds, S2, ⟨?_, HE.out.2.1.trans (HI.out.1.mono (Nat.zero_le _) (by omega) hlt), ?_⟩⟩
        · have := HE.out.1
          omega
        · have e := HE.out.1
          have h1 := HI.out
          rw [e] at h1 ⊢
          exact twenty_step HE.out.2.2 h1.1 h1.2
    · have hltz : ¬ ((a : Int) + 20 ≤ (d.size : Int)) := by omega
      have hc := ins_calls L enc cf g rs blk off cap a d.size d0 dk w0 wr eg HC.out R (by omega) S1.out (by omega) (by omega) (by omega)
      have hI := ins_stb hO (lt := ltOf cf) (a := a) (b := d.size) (d := dk) (by omega) (by omega)
      rw [hds] at hc
      have HI : Aside _ := hI
      clear S1 hI
      go_wp2_with (go_at_fn 75; refine hc.mono ?_; rintro e w1 ⟨rfl, S2⟩)
      have HJ : Hid (StbIn (ltOf cf) 0 d.size d (Sort.insertionSort (ltOf cf) dk a d.size) ∧ Blk (ltOf cf) 20 d.size (Sort.insertionSort (ltOf cf) dk a d.size) ∧ (Sort.insertionSort (ltOf cf) dk a d.size).size = d.size) := by
        refine ⟨HE.out.2.1.trans (HI.out.1.mono (Nat.zero_le _) (by omega) (Nat.le_refl _)), ?_, by rw [HI.out.1.sz]; exact hds⟩
        have e := HE.out.1
        have h1 := HI.out
        rw [e] at h1 ⊢
        exact twenty_end HE.out.2.2 (by omega) h1.1 h1.2
      have S2 : Aside _ := S2
      generalize Sort.insertionSort (ltOf cf) dk a d.size = d1 at S2 HJ
      clear HI HE hc hltz hlt hkx han
      go_loopg [6] d.size (fun kx s6 wr2 => ∃ (bs : Nat) (dk : Array α), s6 = .int .i64 bs ∧ 0 < bs ∧ bs < 4611686018427387904 ∧ d.size - bs ≤ kx ∧ dk.size = d.size ∧ Aside (SWK enc k w0 blk off dk wr2) ∧ Hid (StbIn (ltOf cf) 0 d.size d dk ∧ Blk (ltOf cf) bs d.size dk))
      case atStart => exact ⟨20, d1, rfl, by omega, by omega, by omega, HJ.out.2.2, S2, ⟨HJ.out.1, HJ.out.2.1⟩⟩
      case round =>
        clear S2 HJ
        obtain ⟨bs, dj, rfl, hb0, hbM, hkx, hdj, S2, HJ⟩ := hrel
        by_cases hbn : bs < d.size
        · have hbz : (bs : Int) < (d.size : Int) := by omega
          go_wp2
          go_loopg [7, 8] d.size (fun kx s7 s8 wr3 => ∃ (p a : Nat) (dk : Array α), s7 = .int .i64 a ∧ s8 = .int .i64 ((a : Int) + 2 * (bs : Int)) ∧ a ≤ d.size ∧ d.size - a ≤ kx ∧ dk.size = d.size ∧ Aside (SWK enc k w0 blk off dk wr3) ∧ Hid (a = p * (2 * bs) ∧ StbIn (ltOf cf) 0 d.size d dk ∧ Half (ltOf cf) bs p d.size dk))
          case atStart => exact ⟨0, 0, dj, rfl, by first | rfl | go_num | (congr 1; omega), Nat.zero_le _, Nat.le_refl _, hdj, S2, ⟨by omega, HJ.out.1, half_start HJ.out.2⟩⟩
          case round =>
            clear S2 HJ
            obtain ⟨p, a, dl, rfl, rfl, han, hkx2, hdl, S3, HE⟩ := hrel
            have hH := half_sorted HE.out.2.2
            rw [← HE.out.1] at hH
            have HH : Aside _ := hH
            clear hH
            by_cases hle : a + 2 * bs ≤ d.size
            · have hlz : (a : Int) + 2 * (bs : Int) ≤ (d.size : Int) := by omega
              have hH := HH.out
              rw [Nat.min_eq_left (by omega), Nat.min_eq_left hle] at hH
              have hc := sym_calls L enc cf g rs blk off cap d0 w0 eg HC.out R hO _ a (a + bs) (a + 2 * bs) dl wr (Nat.le_refl _) (by omega) S3.out (by omega) (by omega) (by omega) (by omega) hH.1 hH.2
              rw [hdl, show ((a + bs : Nat) : Int) = (a : Int) + (bs : Int) by omega, show ((a + 2 * bs : Nat) : Int) = (a : Int) + 2 * (bs : Int) by omega] at hc
              clear S3 hH HH
              go_wp2_with (go_at_fn 76; refine hc.mono ?_; rintro e w1 ⟨rfl, dm, hm1, hm2, S4⟩)
              go_roundg (d.size - (a + 2 * bs))
              case measure => omega
              case rel =>
                refine ⟨p + 1, a + 2 * bs, dm, by first | rfl | go_num | (congr 1; omega), by first | rfl | go_num | (congr 1; omega), hle, Nat.le_refl _, by rw [hm1.sz]; exact hdl, S4, ⟨?_, HE.out.2.1.trans (hm1.mono (Nat.zero_le _) (by omega) hle), ?_⟩⟩
                · rw [(dbl p bs).2.2.2, ← HE.out.1]
                · have e := HE.out.1
                  rw [e] at hm1 hm2
                  exact half_step HE.out.2.2 hm1 hm2
            · have hlz : ¬ ((a : Int) + 2 * (bs : Int) ≤ (d.size : Int)) := by omega
              by_cases hlm : a + bs < d.size
              · have hmz : (a : Int) + (bs : Int) < (d.size : Int) := by omega
                have hH := HH.out
                rw [Nat.min_eq_left (by omega), Nat.min_eq_right (by omega)] at hH
                have hc := sym_calls L enc cf g rs blk off cap d0 w0 eg HC.out R hO _ a (a + bs) d.size dl wr (Nat.le_refl _) (by omega) S3.out (by omega) (by omega) (by omega) (by omega) hH.1 hH.2
                rw [hdl, show ((a + bs : Nat) : Int) = (a : Int) + (bs : Int) by omega] at hc
                clear S3 hH HH
                go_wp2_with (go_at_fn 76; refine hc.mono ?_; rintro e w1 ⟨rfl, dm, hm1, hm2, S4⟩)
                go_roundg (d.size - bs * 2)
                case measure => omega
                case rel =>
                  refine ⟨bs * 2, dm, by first | rfl | go_num | (congr 1; omega), by omega, by omega, Nat.le_refl _, by rw [hm1.sz]; exact hdl, S4, ⟨HE.out.2.1.trans (hm1.mono (Nat.zero_le _) (by omega) (Nat.le_refl _)), ?_⟩⟩
                  have e := HE.out.1
                  rw [e] at hm1 hm2
                  exact half_end HE.out.2.2 (by omega) hm1 hm2
              · have hmz : ¬ ((a : Int) + (bs : Int) < (d.size : Int)) := by omega
                clear HH
                go_wp2
                go_roundg (d.size - bs * 2)
                case measure => omega
                case rel =>
                  refine ⟨bs * 2, dl, by first | rfl | go_num | (congr 1; omega), by omega, by omega, Nat.le_refl _, hdl, S3, ⟨HE.out.2.1, ?_⟩⟩
                  have e := HE.out.1
                  exact half_end2 HE.out.2.2 (by omega)
        · have hbz : ¬ ((bs : Int) < (d.size : Int)) := by omega
          go_wp2
          go_end0
          exact ⟨rfl, dj, HJ.out.1, blk_all HJ.out.2 (by omega), S2.out⟩
set_option maxHeartbeats 4000000 in
set_option maxRecDepth 1000000 in
theorem ins_none {P : Program} {k : Nat} (L : Lay P k) (p : Option Addr) (cap : Nat) (cv : Value) (w : World) :
    Calls P 75 #[.slice p 0 cap, .int .i64 0, .int .i64 0, cv] w fun e w' => e = .returned (.tuple #[]) ∧ w' = w := by
  have mixed := L.mixed; have t0 := L.t0; have a0 := L.a0; have z0 := L.z0; have v0 := L.v0; have t3 := L.t3; have a3 := L.a3; have z3 := L.z3; have v3 := L.v3; have t4 := L.t4; have a4 := L.a4; have z4 := L.z4; have v4 := L.v4; have t28 := L.t28; have a28 := L.a28; have z28 := L.z28; have v28 := L.v28; have t146 := L.t146; have a146 := L.a146; have z146 := L.z146; have v146 := L.v146; have t103 := L.t103; have a103 := L.a103; have z103 := L.z103; have v103 := L.v103; have aE := L.aE; have zE := L.zE
  go_enter L.f75, Try.ntmps75
  go_wp2
  refine wp_loop_rounds 1 ?_
  rw [rounds_succ]
  go_wp2
  go_end0
  exact ⟨rfl, rfl⟩
set_option maxHeartbeats 4000000 in
set_option maxRecDepth 1000000 in
theorem stable_none {P : Program} {k : Nat} (L : Lay P k) (p : Option Addr) (cap : Nat) (cv : Value) (w : World) :
    Calls P 57 #[.slice p 0 cap, .int .i64 0, cv] w fun e w' => e = .returned (.tuple #[]) ∧ w' = w := by
  have mixed := L.mixed; have t0 := L.t0; have a0 := L.a0; have z0 := L.z0; have v0 := L.v0; have t3 := L.t3; have a3 := L.a3; have z3 := L.z3; have v3 := L.v3; have t4 := L.t4; have a4 := L.a4; have z4 := L.z4; have v4 := L.v4; have t28 := L.t28; have a28 := L.a28; have z28 := L.z28; have v28 := L.v28; have t146 := L.t146; have a146 := L.a146; have z146 := L.z146; have v146 := L.v146; have t103 := L.t103; have a103 := L.a103; have z103 := L.z103; have v103 := L.v103; have aE := L.aE; have zE := L.zE
  have e75 : ∀ args w, (callFunc 75 args).run P w = .ok (.enter 75 args) w := enters_of L.f75 (by kernel_rfl) rfl
  have hc := ins_none L p cap cv w
  go_enter L.f57, Try.ntmps57
  go_wp2
  refine wp_loop_rounds 1 ?_
  rw [rounds_succ]
  go_wp2_with (go_at_fn 75; refine hc.mono ?_; rintro e w1 ⟨rfl, rfl⟩)
  refine wp_loop_rounds 1 ?_
  rw [rounds_succ]
  go_wp2
  go_end0
  exact ⟨rfl, rfl⟩
end Go.Proofs.Yticgadnmlbfmfaa.cachePlays
