/-
  Chapter 14: the answer's Effects, walked: insertion by layers.
-/
import Derived.Test.YtgbhmkdldfhamaaTxI
import Derived.Deep.CutBlock
import Derived.Deep.CutRange
namespace Go.Proofs.Ytgbhmkdldfhamaa.charsOf
open Go.Shelf Go.RowKit Go.Lib Go.Sort
def fromRegion (n : Nat) : Code → Option Code
  | .seq a b => match a with
    | .region m _ _ => if m = n then some (.seq a b) else fromRegion n b
    | _ => match fromRegion n a with
      | some c => some c
      | none => fromRegion n b
  | .loop c => fromRegion n c
  | .block _ c => fromRegion n c
  | .scope c => fromRegion n c
  | .cond _ a b => match fromRegion n a with
    | some c => some c
    | none => fromRegion n b
  | _ => none
noncomputable def ph3 : Code := (Try.f14.body.bind (fromRegion 18)).getD .skip
theorem flatE_get : ∀ (l : List Ef) (i : Nat) (h : i < l.length) (k : Nat), k < 4 → (flatE l)[i * 4 + k]? = (encE l[i])[k]?
  | x :: l, 0, _, k, hk => by
    have e : flatE (x :: l) = encE x ++ flatE l := by simp [flatE]
    rw [e, List.getElem?_append_left (by rw [encE_len]; omega)]
    simp
  | x :: l, i + 1, h, k, hk => by
    have e : flatE (x :: l) = encE x ++ flatE l := by simp [flatE]
    rw [e, List.getElem?_append_right (by rw [encE_len]; omega), encE_len, show (i + 1) * 4 + k - 4 = i * 4 + k by omega, flatE_get l i (by simpa using h) k hk]
    simp
theorem flatE_take (l : List Ef) : ∀ n, (flatE l).take (n * 4) = flatE (l.take n) := by
  induction l with
  | nil => intro n; simp [flatE]
  | cons x l ih =>
    intro n
    have e : flatE (x :: l) = encE x ++ flatE l := by simp [flatE]
    cases n with
    | zero => simp [flatE]
    | succ n =>
      have e2 : flatE ((x :: l).take (n + 1)) = encE x ++ flatE (l.take n) := by simp [flatE]
      rw [e, e2, List.take_append, encE_len, show (n + 1) * 4 - 4 = n * 4 by omega, ih, List.take_of_length_le (by rw [encE_len]; omega)]
theorem flatE_drop (l : List Ef) : ∀ n, (flatE l).drop (n * 4) = flatE (l.drop n) := by
  induction l with
  | nil => intro n; simp [flatE]
  | cons x l ih =>
    intro n
    have e : flatE (x :: l) = encE x ++ flatE l := by simp [flatE]
    cases n with
    | zero => simp
    | succ n =>
      rw [e, List.drop_append, encE_len, show (n + 1) * 4 - 4 = n * 4 by omega, ih, List.drop_of_length_le (by rw [encE_len]; omega)]
      simp
theorem own_form {W : World} {base n : Nat} {v : Value} {l : List Value} (h : W.ownsRow base 58 4 v n l) : (n = 0 ∧ v = .slice none 0 0) ∨ ∃ g c, v = .slice (some ⟨g, 0, none⟩) n c ∧ n ≤ c := by
  rcases h.2 with ⟨rfl, h0⟩ | ⟨g, cap, cur, rfl, _, _, hc, _⟩
  · exact .inl ⟨h0, rfl⟩
  · exact .inr ⟨g, cap, rfl, hc⟩
theorem own_mono {W : World} {b b' n : Nat} {v : Value} {l : List Value} (h : W.ownsRow b 58 4 v n l) (hb : b' ≤ b) : W.ownsRow b' 58 4 v n l := by
  refine ⟨h.1, ?_⟩
  rcases h.2 with h | ⟨g, cap, cur, hv, hg, hr⟩
  · exact .inl h
  · exact .inr ⟨g, cap, cur, hv, Nat.le_trans hb hg, hr⟩
/-- What is held while effects are put in order: all that was there; the answer's own row. -/
structure Oz (W0 : World) (ov : Value) (S : List Ef) (W : World) : Prop where
  b : Below W0.heap.size W0 W
  o : W.ownsRow W0.heap.size 58 4 ov S.length (flatE S)
theorem Oz.gr {W0 W W' : World} {ov : Value} {S : List Ef} (h : Oz W0 ov S W) (g : Gr W W') : Oz W0 ov S W' := ⟨gr_below h.b h.b.size g, h.o.kept (gr_grown g) (by cases hv : ov.ownBlock <;> simp)⟩
/-- A part of a row onto a row of one's own. -/
theorem app_seg {P : Program} {k32 k56 k54 k74 : Nat} {y56 y54 y74 : List Value} (L : LayD P k32 k56 k54 k74 y56 y54 y74) {W : World} {v : Value} {base : Nat} (X : List Ef) (ho : W.ownsRow base 58 4 v X.length (flatE X)) (hb : base ≤ W.heap.size) (a : Option Addr) (n c : Nat) (M : List Ef) (hn : n = M.length) (ha : a = none → M = []) (hc : ∀ ad, a = some ad → ∀ j u, (flatE M)[j]? = some u → W.cell? (ad.add j) = some u) (hl : X.length + M.length ≤ 4000001) :
    ∃ v' w', (Builtin.append_ #[40, 40] 40 #[v, .slice a n c]).run P W = .ok v' w' ∧ w'.ownsRow base 58 4 v' (X ++ M).length (flatE (X ++ M)) ∧ W.grownBy w' v.ownBlock := by
  obtain ⟨i58, hi1, hi2, hi3, hi4⟩ := L.i58
  subst hn
  obtain ⟨v', w', h1, h2, h3⟩ := run_app_any (P := P) (ty := 40) (t := 40) (tx := 40) L.c.t40 L.c.t40 hi1 hi2 (by rw [hi3]; rfl) (by rw [hi3]; decide) (by rw [hi3]; exact ho) a M.length c (flatE M) (by rw [flatE_len, hi3]) (fun h => by rw [ha h]; rfl) hc (fun u hu => by
    unfold flatE at hu
    obtain ⟨x, _, hx⟩ := List.mem_flatMap.1 hu
    exact encE_one x u hx) (Nat.le_trans hl (by decide)) (by rw [hi4]; exact Nat.le_trans (Nat.mul_le_mul_right 32 hl) (by decide)) hb
  rw [hi3, ← flatE_app, ← List.length_append] at h2
  exact ⟨v', w', h1, h2, h3⟩
theorem seg_lo {W : World} {base n c g : Nat} {R : List Ef} (h : W.ownsRow base 58 4 (.slice (some ⟨g, 0, none⟩) n c) R.length (flatE R)) (k : Nat) : ∀ j u, (flatE (R.take k))[j]? = some u → W.cell? ((⟨g, 0, none⟩ : Addr).add j) = some u := fun j u hu => by
  refine h.cells rfl j u ?_
  rw [← flatE_take, List.getElem?_take] at hu
  split at hu
  · exact hu
  · cases hu
theorem seg_hi {W : World} {base n c g : Nat} {R : List Ef} (h : W.ownsRow base 58 4 (.slice (some ⟨g, 0, none⟩) n c) R.length (flatE R)) (k : Nat) : ∀ j u, (flatE (R.drop k))[j]? = some u → W.cell? ((⟨g, k * 4, none⟩ : Addr).add j) = some u := fun j u hu => by
  rw [← flatE_drop, List.getElem?_drop] at hu
  have := h.cells rfl (k * 4 + j) u hu
  rw [Addr.add_lit, Nat.zero_add] at this
  rw [Addr.add_lit]
  exact this
/-- The layers that are done. -/
def Lz (y : Nat) (A T : List Ef) : Prop := T.length ≤ 1000000 * (y - 1) ∧ ∃ S1 S2 S3, T = S1 ++ S2 ++ S3 ∧ (if 2 ≤ y then InsOK 1 A S1 else S1 = []) ∧ (if 3 ≤ y then InsOK 2 A S2 else S2 = []) ∧ (if 4 ≤ y then InsOK 3 A S3 else S3 = [])
theorem Lz.one (A : List Ef) : Lz 1 A [] := ⟨by simp, [], [], [], rfl, by simp, by simp, by simp⟩
theorem Lz.next {y : Nat} {A T S : List Ef} (h : Lz y A T) (h1 : 1 ≤ y) (h3 : y ≤ 3) (hs : InsOK y A S) (hl : S.length ≤ 1000000) : Lz (y + 1) A (T ++ S) := by
  obtain ⟨hT, S1, S2, S3, rfl, k1, k2, k3⟩ := h
  refine ⟨by simp only [List.length_append] at hT ⊢; omega, ?_⟩
  obtain rfl | rfl | rfl : y = 1 ∨ y = 2 ∨ y = 3 := by omega
  · rw [if_neg (by omega)] at k1 k2 k3
    subst k1 k2 k3
    exact ⟨S, [], [], by simp, by rw [if_pos (by omega)]; exact hs, by simp, by simp⟩
  · rw [if_neg (by omega)] at k2 k3
    rw [if_pos (by omega)] at k1
    subst k2 k3
    exact ⟨S1, S, [], by simp, by rw [if_pos (by omega)]; exact k1, by rw [if_pos (by omega)]; exact hs, by simp⟩
  · rw [if_neg (by omega)] at k3
    rw [if_pos (by omega)] at k1 k2
    subst k3
    exact ⟨S1, S2, S, by simp, by rw [if_pos (by omega)]; exact k1, by rw [if_pos (by omega)]; exact k2, by rw [if_pos (by omega)]; exact hs⟩
theorem Lz.done {A T : List Ef} (h : Lz 4 A T) : Srt (ltOf cmpE) T ∧ Stb (ltOf cmpE) (A.filter hasL) T := by
  obtain ⟨_, S1, S2, S3, rfl, k1, k2, k3⟩ := h
  exact three (by simpa using k1) (by simpa using k2) (by simpa using k3)
theorem ins_put {y : Int} {done T S R : List Ef} {x : Ef} (hR : R = T ++ S) (h : InsOK y done S) (hx : lyr x.1 = y) {k : Nat} (h1 : T.length ≤ k) (h2 : k ≤ R.length) (hg : ∀ j, k ≤ j → ∀ hj : j < R.length, x.2.2.2 < R[j].2.2.2) (hl : k = T.length ∨ ∃ hj : k - 1 < R.length, R[k - 1].2.2.2 ≤ x.2.2.2) : ∃ S', R.take k ++ [x] ++ R.drop k = T ++ S' ∧ InsOK y (done ++ [x]) S' ∧ S'.length = S.length + 1 := by
  subst hR
  obtain ⟨m, rfl⟩ : ∃ m, k = T.length + m := ⟨k - T.length, by omega⟩
  rw [List.length_append] at h2
  refine ⟨S.take m ++ x :: S.drop m, ?_, ?_, ?_⟩
  · rw [List.take_length_add_append, List.drop_length_add_append]
    simp
  · have hp := h.srt
    refine InsOK.put (S1 := S.take m) (S2 := S.drop m) (by rw [List.take_append_drop]; exact h) hx (fun a ha => ?_) (fun b hb => ?_)
    · obtain ⟨i, hi, rfl⟩ := List.getElem_of_mem ha
      rw [List.length_take] at hi
      rw [List.getElem_take]
      rcases hl with hl | ⟨hj, hl⟩
      · omega
      · have e : (T ++ S)[T.length + m - 1] = S[m - 1]'(by omega) := by
          rw [List.getElem_append_right (by omega)]
          congr 1
          omega
        rw [e] at hl
        rcases Nat.lt_or_ge i (m - 1) with hi' | hi'
        · exact Int.le_trans (List.pairwise_iff_getElem.1 hp i (m - 1) (by omega) (by omega) hi') hl
        · obtain rfl : i = m - 1 := by omega
          exact hl
    · obtain ⟨i, hi, rfl⟩ := List.getElem_of_mem hb
      rw [List.length_drop] at hi
      rw [List.getElem_drop]
      have := hg (T.length + (m + i)) (by omega) (by rw [List.length_append]; omega)
      rw [List.getElem_append_right (by omega)] at this
      simpa using this
  · simp only [List.length_append, List.length_take, List.length_cons, List.length_drop]
    omega
theorem own_below {W0 W : World} {b n : Nat} {v : Value} {l : List Value} (h : W0.ownsRow b 58 4 v n l) (k : Below W0.heap.size W0 W) : W.ownsRow b 58 4 v n l := by
  refine ⟨h.1, ?_⟩
  rcases h.2 with h | ⟨g, cap, cur, hv, hg, hc, hr⟩
  · exact .inl h
  · exact .inr ⟨g, cap, cur, hv, hg, by rw [k.block g (blk_lt hc)]; exact hc, hr⟩
theorem row_rd {W : World} {base n c g : Nat} {l : List Ef} (h : W.ownsRow base 58 4 (.slice (some ⟨g, 0, none⟩) n c) l.length (flatE l)) {i : Nat} (hi : i < l.length) : W.cell? ⟨g, i * 4, none⟩ = some (.int .i64 l[i].1) ∧ W.cell? ⟨g, i * 4 + 1, none⟩ = some (.int .i64 l[i].2.1) ∧ W.cell? ⟨g, i * 4 + 2, none⟩ = some (.int .i64 l[i].2.2.1) ∧ W.cell? ⟨g, i * 4 + 3, none⟩ = some (.int .i64 l[i].2.2.2) := by
  have hn := (own_holds h).1
  subst hn
  have k := fun k hk => (h.cellAt (i * 4 + k) (by omega)).trans (flatE_get l i hi k hk)
  exact ⟨k 0 (by omega), k 1 (by omega), k 2 (by omega), k 3 (by omega)⟩

set_option pp.maxSteps 100000 in
set_option pp.deepTerms true in
set_option maxHeartbeats 16000000 in
set_option maxRecDepth 1000000 in
theorem ph3_ok {P : Program} {c0 : Code} (hc0 : ph3 = c0) {k32 k56 k54 k74 : Nat} {y56 y54 y74 : List Value} (L : LayD P k32 k56 k54 k74 y56 y54 y74) (R : LayR P) (h35 : ∀ op W, Calls P 35 #[.int .i64 op] W fun e w' => e = .returned (.int .i64 (lyr op)) ∧ w' = W) (av : Value) (A : List Ef) (bs : Nat) (W0 : World) (ho : W0.ownsRow bs 58 4 av A.length (flatE A)) (hA : A.length ≤ 1000000) (u0 u1 u2 u3 u4 u5 u6 u7 u8 u10 u11 u12 u13 u14 u15 u16 u17 u18 u19 u20 u21 u22 u23 u24 u25 u26 u27 u28 u29 u30 u31 u32 u33 u34 u35 u36 u37 u38 u39 u40 u41 u42 u43 u44 u45 u46 u47 u48 u49 u50 u51 u52 u53 u54 u55 u56 u57 u58 u59 u60 u61 u62 u63 u64 u65 u66 u67 u68 u69 u70 u71 u72 u73 u74 u75 u76 u77 u78 u79 u80 u81 u82 u83 u84 u85 u86 u87 u88 u89 u90 u91 u92 u93 u94 u95 u96 u97 u98 u99 u100 u101 u102 u103 u104 u105 u106 u107 u108 u109 u110 u111 u112 u113 u114 u115 u116 u117 u118 u119 u120 u121 u122 u123 u124 u125 u126 u127 u128 u129 u130 u131 u132 u133 u134 u135 u136 u137 u138 u139 u140 u141 u142 u143 u144 u145 u146 u147 u148 u149 u150 u151 u152 u153 u154 u155 u156 u157 u158 u159 u160 u161 u162 u163 u164 : Value) (post : Ending → World → Prop)
    (hpost : ∀ a c S W, Srt (ltOf cmpE) S → Stb (ltOf cmpE) (A.filter hasL) S → Below W0.heap.size W0 W → (S = [] ∨ ∃ g, a = some ⟨g, 0, none⟩ ∧ g < W.heap.size ∧ HoldsK encE 4 W g 0 S.toArray) → post (.returned (.slice a S.length c)) W) :
    Code.wp P c0 (bodyPost P Try.f14 post) ⟨#[u0, u1, u2, u3, u4, u5, u6, u7, u8, av, u10, u11, u12, u13, u14, u15, u16, u17, u18, u19, u20, u21, u22, u23, u24, u25, u26, u27, u28, u29, u30, u31, u32, u33, u34, u35, u36, u37, u38, u39, u40, u41, u42, u43, u44, u45, u46, u47, u48, u49, u50, u51, u52, u53, u54, u55, u56, u57, u58, u59, u60, u61, u62, u63, u64, u65, u66, u67, u68, u69, u70, u71, u72, u73, u74, u75, u76, u77, u78, u79, u80, u81, u82, u83, u84, u85, u86, u87, u88, u89, u90, u91, u92, u93, u94, u95, u96, u97, u98, u99, u100, u101, u102, u103, u104, u105, u106, u107, u108, u109, u110, u111, u112, u113, u114, u115, u116, u117, u118, u119, u120, u121, u122, u123, u124, u125, u126, u127, u128, u129, u130, u131, u132, u133, u134, u135, u136, u137, u138, u139, u140, u141, u142, u143, u144, u145, u146, u147, u148, u149, u150, u151, u152, u153, u154, u155, u156, u157, u158, u159, u160, u161, u162, u163, u164], []⟩ W0 := by
  have mixed := L.c.mixed; have t3 := L.c.t3; have a3 := L.c.a3; have z3 := L.c.z3; have t4 := L.c.t4; have a4 := L.c.a4; have z4 := L.c.z4; have t40 := L.c.t40; have a40 := L.c.a40; have z40 := L.c.z40; have qu40 := run_underlying L.c.t40; have qu58 := run_underlying L.t58; have a58 := L.a58; have z58 := L.z58; have v58 := L.v58
  have e35 := R.e35
  have O0 : Aside _ := (show Oz W0 (.slice none 0 0) [] W0 from ⟨.refl _ _, World.ownsRow_nil _ _ _ _⟩)
  have H35 : Aside _ := h35
  have HP : Aside _ := hpost
  obtain ⟨aa, ac, rfl⟩ : ∃ aa ac, av = .slice aa A.length ac := by
    rcases own_form ho with ⟨h0, h⟩ | ⟨g, c, h, _⟩
    · exact ⟨none, 0, by rw [h, h0]⟩
    · exact ⟨_, _, h⟩
  have HO : Aside (W0.ownsRow bs 58 4 (.slice aa A.length ac) A.length (flatE A)) := ho
  clear ho h35 hpost
  subst hc0
  unfold ph3
  conv => arg 2; whnf
  go_wp2
  go_loopg [16, 17] 3 (fun kx s16 s17 wr => ∃ (y : Nat) (ov : Value) (T : List Ef), ov = s16 ∧ s17 = .int .i64 y ∧ 1 ≤ y ∧ y ≤ 4 ∧ 4 - y ≤ kx ∧ Hid (Lz y A T) ∧ Aside (Oz W0 ov T wr))
  case atStart => exact ⟨1, _, [], rfl, rfl, Nat.le_refl _, by omega, by omega, Lz.one A, O0⟩
  case round =>
    clear O0
    obtain ⟨y, ov, T, rfl, rfl, hy1, hy4, hkx, HL, O1⟩ := hrel
    have wy : IntKind.i64.wrap ((y : Int) + 1) = (y : Int) + 1 := by rw [IntKind.wrap_i64]; omega
    obtain ⟨oa, oc, hov⟩ : ∃ oa oc, ov = .slice oa T.length oc := by
      rcases own_form O1.out.o with ⟨h0, h⟩ | ⟨g, c, h, _⟩
      · exact ⟨none, 0, by rw [h, h0]⟩
      · exact ⟨_, _, h⟩
    subst hov
    by_cases h3 : y ≤ 3
    · have h3z : (y : Int) ≤ 3 := by omega
      have hT3 : T.length ≤ 3000000 := Nat.le_trans HL.out.1 (by omega)
      go_wp2
      go_loopg [16, 19] A.length (fun kd s16 s19 wr2 => ∃ (i : Nat) (ov : Value) (R S : List Ef), ov = s16 ∧ s19 = .int .i64 i ∧ i ≤ A.length ∧ A.length - i ≤ kd ∧ S.length ≤ i ∧ Hid (R = T ++ S ∧ InsOK y (A.take i) S) ∧ T.length ≤ R.length ∧ R.length ≤ T.length + i ∧ Aside (Oz W0 ov R wr2))
      case atStart => exact ⟨0, _, T, [], rfl, rfl, Nat.zero_le _, Nat.le_refl _, Nat.le_refl _, ⟨by simp, InsOK.nil y⟩, Nat.le_refl _, Nat.le_refl _, O1⟩
      case round =>
        clear O1
        obtain ⟨i, ov, R, S, rfl, rfl, hiA, hkd, hSl, HI, hR1, hR2, O2⟩ := hrel
        have wi : IntKind.i64.wrap ((i : Int) + 1) = (i : Int) + 1 := by rw [IntKind.wrap_i64]; omega
        by_cases hlt : i < A.length
        · have hltz : (i : Int) < (A.length : Int) := by omega
          have hoA := own_below HO.out O2.out.b
          obtain ⟨ag, ac', hag⟩ : ∃ g c, (Value.slice aa A.length ac) = .slice (some ⟨g, 0, none⟩) A.length c := by
            rcases own_form HO.out with ⟨h0, _⟩ | ⟨g, c, h, _⟩
            · omega
            · exact ⟨g, c, h⟩
          injection hag with hag _ hac
          subst hag hac
          obtain ⟨oa2, oc2, hov⟩ : ∃ oa oc, ov = .slice oa R.length oc := by
            rcases own_form O2.out.o with ⟨h0, h⟩ | ⟨g, c, h, _⟩
            · exact ⟨none, 0, by rw [h, h0]⟩
            · exact ⟨_, _, h⟩
          subst hov
          obtain ⟨r0, r1, r2, r3⟩ := row_rd hoA hlt
          have hTk : A.take (i + 1) = A.take i ++ [A[i]] := List.take_succ_eq_append_getElem hlt
          generalize hx : A[i] = x at r0 r1 r2 r3 hTk
          have HTK : Hid _ := hTk
          have HXE : Hid (A[i] = x) := hx
          clear hx hTk hoA
          obtain ⟨x0, x1, x2, x3⟩ := x
          simp only at r0 r1 r2 r3
          obtain ⟨ly, hly⟩ : ∃ ly, lyr x0 = ly := ⟨_, rfl⟩
          have h35 := H35.out x0
          rw [hly] at h35
          have HLY : Hid (lyr x0 = ly) := hly
          clear hly
          by_cases hl : ly = y
          · have hn : (ly != (y : Int)) = false := by simp [hl]
            have HLE : Hid (ly = (y : Int)) := hl
            clear hl
            go_upto_block 8 with (first | (go_at_fn 35; refine (h35 _).mono ?_; rintro e w2 ⟨rfl, rfl⟩))
            go_cut [20] from 112 to 163 (fun s20 wc => ∃ at' : Nat, s20 = .int .i64 at' ∧ T.length ≤ at' ∧ at' ≤ R.length ∧ Hid ((∀ j, at' ≤ j → ∀ hj : j < R.length, x3 < R[j].2.2.2) ∧ (at' = T.length ∨ ∃ hj : at' - 1 < R.length, R[at' - 1].2.2.2 ≤ x3)) ∧ Aside (Oz W0 (.slice oa2 R.length oc2) R wc))
            case first =>
              go_wp2_with fail
              go_loopg [20] (R.length - T.length) (fun ke s20 wr3 => ∃ at' : Nat, s20 = .int .i64 at' ∧ T.length ≤ at' ∧ at' ≤ R.length ∧ at' - T.length ≤ ke ∧ Hid (∀ j, at' ≤ j → ∀ hj : j < R.length, x3 < R[j].2.2.2) ∧ Aside (Oz W0 (.slice oa2 R.length oc2) R wr3))
              case atStart => exact ⟨R.length, rfl, hR1, Nat.le_refl _, Nat.le_refl _, fun j h hj => by omega, O2⟩
              case round =>
                clear O2
                obtain ⟨at', rfl, ha1, ha2, hke, HG, O3⟩ := hrel
                by_cases hgt : T.length < at'
                · obtain ⟨m, rfl⟩ : ∃ m, at' = m + 1 := ⟨at' - 1, by omega⟩
                  have hd : decide (((m + 1 : Nat) : Int) > (T.length : Int)) = true := decide_eq_true (by omega)
                  have hd2 : decide ((m : Int) + 1 > (T.length : Int)) = true := decide_eq_true (by omega)
                  have wm : IntKind.i64.wrap (m : Int) = (m : Int) := by rw [IntKind.wrap_i64]; omega
                  obtain ⟨og, oc3, hog⟩ : ∃ g c, (Value.slice oa2 R.length oc2) = .slice (some ⟨g, 0, none⟩) R.length c := by
                    rcases own_form O3.out.o with ⟨h0, _⟩ | ⟨g, c, h, _⟩
                    · omega
                    · exact ⟨g, c, h⟩
                  injection hog with hog _ hoc
                  subst hog hoc
                  have hm : m < R.length := by omega
                  have hmz : (m : Int) < (R.length : Int) := by omega
                  obtain ⟨_, _, _, z3'⟩ := row_rd O3.out.o hm
                  have rc3 := (own_below HO.out O3.out.b)
                  obtain ⟨_, _, _, c3⟩ := row_rd rc3 hlt
                  rw [HXE.out] at c3
                  simp only at c3
                  generalize hz : (R[m]).2.2.2 = z at z3'
                  have HZ : Hid _ := hz
                  clear hz
                  by_cases hzx : z > x3
                  · have hzd : decide (z > x3) = true := decide_eq_true hzx
                    have HZX : Hid (x3 < z) := hzx
                    clear hzx
                    go_wp2
                    go_big_region_o
                    go_wp2
                    go_roundg (m - T.length)
                    case measure => omega
                    case rel => exact ⟨m, by first | rfl | go_num, by omega, by omega, Nat.le_refl _, fun j h hj => by
                      rcases Nat.lt_or_ge m j with h | h
                      · exact HG.out j h hj
                      · obtain rfl : j = m := by omega
                        rw [HZ.out]
                        exact HZX.out, O3.out.gr ((Gr.refl _).drew)⟩
                  · have hzd : decide (z > x3) = false := decide_eq_false hzx
                    have HZX : Hid (z ≤ x3) := (show z ≤ x3 by omega)
                    clear hzx
                    go_wp2
                    go_big_region_o
                    go_wp2
                    go_meet
                    case rel => exact ⟨m + 1, rfl, ha1, ha2, ⟨HG.out, .inr ⟨by omega, by
                      show (R[m + 1 - 1]).2.2.2 ≤ x3
                      simp only [Nat.add_sub_cancel]
                      rw [HZ.out]
                      exact HZX.out⟩⟩, O3.out.gr ((Gr.refl _).drew)⟩
                · have hd : decide ((at' : Int) > (T.length : Int)) = false := decide_eq_false (by omega)
                  go_wp2
                  go_big_region_o
                  go_wp2
                  go_meet
                  case rel => exact ⟨at', rfl, ha1, ha2, ⟨HG.out, .inl (by omega)⟩, O3.out.gr ((Gr.refl _).drew)⟩
            case rest =>
              obtain ⟨at', rfl, ha1, ha2, HB, O3⟩ := hcut
              clear O2
              have haz : (at' : Int) ≤ (R.length : Int) := by omega
              have hR6 : R.length ≤ 4000000 := by omega
              have HR6 : Aside _ := hR6
              clear hR6
              rcases own_form O3.out.o with ⟨h0, h⟩ | ⟨g, c, h, hc⟩
              · injection h with h1 _ h2
                subst h1 h2
                obtain rfl : R = [] := List.eq_nil_of_length_eq_zero h0
                obtain rfl : at' = 0 := by simpa using ha2
                obtain ⟨v1, w1, hr1, ho1, hg1⟩ := app_seg L [] (World.ownsRow_nil wc wc.heap.size 58 4) (Nat.le_refl _) none 0 0 [] rfl (fun _ => rfl) (fun ad h => by cases h) (by simp)
                have hg1' : wc.grownBy w1 none := hg1
                rw [List.nil_append] at ho1
                clear hg1
                have b1 : Below W0.heap.size W0 w1 := O3.out.b.grown hg1' O3.out.b.size fun k hk => by cases hk
                obtain ⟨r0, r1, r2, r3⟩ := row_rd (own_below HO.out b1) hlt
                rw [HXE.out] at r0 r1 r2 r3
                simp only at r0 r1 r2 r3
                obtain ⟨v2, w2, hr2, ho2, hg2⟩ := app_seg L [] (ho1.alloc (.cells #[.int .i64 x0, .int .i64 x1, .int .i64 x2, .int .i64 x3] 58)) (by have := hg1'.size; simp; omega) (some ⟨w1.heap.size, 0, none⟩) 1 1 [(x0, x1, x2, x3)] rfl (fun h => by cases h)
                  (fun ad had j u hu => by
                    injection had with had
                    subst had
                    rw [Addr.add_lit, Nat.zero_add]
                    simpa [encE, flatE] using hu) (by simp)
                have hgx : wc.heap.size ≤ w1.heap.size := hg1'.size
                have b2 : Below W0.heap.size W0 w2 := (b1.alloc b1.size (.cells #[.int .i64 x0, .int .i64 x1, .int .i64 x2, .int .i64 x3] 58)).grown hg2 (by have := b1.size; simp; omega) fun k hk => by
                  have := (ho1.lt k hk).1
                  have := O3.out.b.size
                  omega
                obtain ⟨v3, w3, hr3, ho3, hg3⟩ := app_seg L [(x0, x1, x2, x3)] ho2 (by have := b1.size; have := hg2.size; simp at this; omega) none 0 0 [] rfl (fun _ => rfl) (fun ad h => by cases h) (by simp)
                have b3 : Below W0.heap.size W0 w3 := b2.grown hg3 b2.size fun k hk => by
                  have := (ho2.lt k hk).1
                  have := O3.out.b.size
                  omega
                have o3 : w3.ownsRow W0.heap.size 58 4 v3 [(x0, x1, x2, x3)].length (flatE [(x0, x1, x2, x3)]) := own_mono ho3 O3.out.b.size
                obtain ⟨S', e1, e2, e3⟩ := ins_put (x := (x0, x1, x2, x3)) HI.out.1 HI.out.2 (by show lyr x0 = _; rw [HLY.out, HLE.out]) ha1 ha2 HB.out.1 HB.out.2
                have e1' : [(x0, x1, x2, x3)] = T ++ S' := by simpa using e1
                rw [e1'] at o3
                rw [← HTK.out] at e2
                have E2 : Hid _ := e2
                have OZ : Aside _ := (show Oz W0 v3 (T ++ S') w3 from ⟨b3, o3⟩)
                clear e1 e1' e2 b3 o3 ho3 hg3 b1 b2 ho2 ho1 hg1' hg2 hgx
                go_wp2_with (first | (at_builtin; refine wpList_app_run rfl _ _ #[40, 40] rfl (.slice none 0 0) (.slice none 0 0) rfl rfl _ w1 hr1 ?_) | (at_builtin; refine wpList_app_run rfl _ _ #[40, 40] rfl v1 (.slice (some ⟨w1.heap.size, 0, none⟩) 1 1) rfl rfl _ w2 hr2 ?_) | (at_builtin; refine wpList_app_run rfl _ _ #[40, 40] rfl v2 (.slice none 0 0) rfl rfl _ w3 hr3 ?_))
                all_goals
                  go_roundg (A.length - (i + 1))
                  case measure => omega
                  case rel => exact ⟨i + 1, _, T ++ S', S', rfl, by first | rfl | go_num, by omega, Nat.le_refl _, by omega, ⟨rfl, E2.out⟩, by rw [List.length_append]; omega, by rw [List.length_append]; omega, OZ⟩
              · injection h with h1 _ h2
                subst h1 h2
                have hcz : (at' : Int) ≤ (oc2 : Int) := by omega
                obtain ⟨v1, w1, hr1, ho1, hg1⟩ := app_seg L [] (World.ownsRow_nil wc wc.heap.size 58 4) (Nat.le_refl _) (some ⟨g, 0, none⟩) at' oc2 (R.take at') (by rw [List.length_take, Nat.min_eq_left ha2]) (fun h => by cases h) (fun ad h => by injection h with h; subst h; exact seg_lo O3.out.o at') (by have := HR6.out; simp; omega)
                have hg1' : wc.grownBy w1 none := hg1
                rw [List.nil_append] at ho1
                clear hg1
                have b1 : Below W0.heap.size W0 w1 := O3.out.b.grown hg1' O3.out.b.size fun k hk => by cases hk
                obtain ⟨r0, r1, r2, r3⟩ := row_rd (own_below HO.out b1) hlt
                rw [HXE.out] at r0 r1 r2 r3
                simp only at r0 r1 r2 r3
                obtain ⟨v2, w2, hr2, ho2, hg2⟩ := app_seg L (R.take at') (ho1.alloc (.cells #[.int .i64 x0, .int .i64 x1, .int .i64 x2, .int .i64 x3] 58)) (by have := hg1'.size; simp; omega) (some ⟨w1.heap.size, 0, none⟩) 1 1 [(x0, x1, x2, x3)] rfl (fun h => by cases h)
                  (fun ad had j u hu => by
                    injection had with had
                    subst had
                    rw [Addr.add_lit, Nat.zero_add]
                    simpa [encE, flatE] using hu) (by have := HR6.out; simp; omega)
                have hgx : wc.heap.size ≤ w1.heap.size := hg1'.size
                have b2 : Below W0.heap.size W0 w2 := (b1.alloc b1.size (.cells #[.int .i64 x0, .int .i64 x1, .int .i64 x2, .int .i64 x3] 58)).grown hg2 (by have := b1.size; simp; omega) fun k hk => by
                  have := (ho1.lt k hk).1
                  have := O3.out.b.size
                  omega
                have o2 : w2.ownsRow W0.heap.size 58 4 (.slice (some ⟨g, 0, none⟩) R.length oc2) R.length (flatE R) := ((O3.out.o.kept hg1' (.inr (by simp [Value.ownBlock]))).alloc _).kept hg2 (by
                  have hgl := (O3.out.o.lt g rfl).2
                  cases hv : v1.ownBlock with
                  | none => exact .inr (by simp [Value.ownBlock])
                  | some k =>
                    refine .inr fun e => ?_
                    have := (ho1.lt k hv).1
                    simp only [Value.ownBlock, Option.some.injEq] at e
                    omega)
                obtain ⟨v3, w3, hr3, ho3, hg3⟩ := app_seg L (R.take at' ++ [(x0, x1, x2, x3)]) ho2 (by have := b1.size; have := hg2.size; simp at this; omega) (if oc2 = at' then some ⟨g, 0, none⟩ else some ⟨g, at' * 4, none⟩) (R.length - at') (oc2 - at') (R.drop at') (by rw [List.length_drop]) (fun h => by split at h <;> cases h)
                  (fun ad had j u hu => by
                    split at had
                    · rw [List.drop_of_length_le (by omega)] at hu
                      simp [flatE] at hu
                    · injection had with had
                      subst had
                      exact seg_hi o2 at' j u hu) (by have := HR6.out; simp; omega)
                have b3 : Below W0.heap.size W0 w3 := b2.grown hg3 b2.size fun k hk => by
                  have := (ho2.lt k hk).1
                  have := O3.out.b.size
                  omega
                have o3 : w3.ownsRow W0.heap.size 58 4 v3 (R.take at' ++ [(x0, x1, x2, x3)] ++ R.drop at').length (flatE (R.take at' ++ [(x0, x1, x2, x3)] ++ R.drop at')) := own_mono ho3 O3.out.b.size
                obtain ⟨S', e1, e2, e3⟩ := ins_put (x := (x0, x1, x2, x3)) HI.out.1 HI.out.2 (by show lyr x0 = _; rw [HLY.out, HLE.out]) ha1 ha2 HB.out.1 HB.out.2
                rw [e1] at o3
                rw [← HTK.out] at e2
                have E2 : Hid _ := e2
                have OZ : Aside _ := (show Oz W0 v3 (T ++ S') w3 from ⟨b3, o3⟩)
                clear e1 e2 b3 o3 ho3 hg3
                have B2 : Aside _ := b2
                have OO2 : Aside _ := o2
                have HO2 : Aside _ := ho2
                clear b1 b2 o2 ho2 ho1 hg1' hg2 hgx
                go_wp2_with (first | (at_builtin; refine wpList_app_run rfl _ _ #[40, 40] rfl (.slice none 0 0) (.slice (some ⟨g, 0, none⟩) at' oc2) rfl rfl _ w1 hr1 ?_) | (at_builtin; refine wpList_app_run rfl _ _ #[40, 40] rfl v1 (.slice (some ⟨w1.heap.size, 0, none⟩) 1 1) rfl rfl _ w2 hr2 ?_) | (at_builtin; refine wpList_app_run rfl _ _ #[40, 40] rfl v2 (.slice (if oc2 = at' then some ⟨g, 0, none⟩ else some ⟨g, at' * 4, none⟩) (R.length - at') (oc2 - at')) rfl rfl _ w3 hr3 ?_))
                all_goals
                  go_roundg (A.length - (i + 1))
                  case measure => omega
                  case rel => exact ⟨i + 1, _, T ++ S', S', rfl, by first | rfl | go_num, by omega, Nat.le_refl _, by omega, ⟨rfl, E2.out⟩, by rw [List.length_append]; omega, by rw [List.length_append]; omega, OZ⟩
          · have hn : (ly != (y : Int)) = true := by simp [hl]
            have HI2 : Hid (InsOK y (A.take (i + 1)) S) := by
              show InsOK _ _ _
              rw [HTK.out]
              exact HI.out.2.skip (by show lyr x0 ≠ _; rw [HLY.out]; exact hl)
            clear hl
            go_wp2_with (first | (go_at_fn 35; refine (h35 _).mono ?_; rintro e w2 ⟨rfl, rfl⟩))
            go_roundg (A.length - (i + 1))
            case measure => omega
            case rel => exact ⟨i + 1, _, R, S, rfl, by first | rfl | go_num, by omega, Nat.le_refl _, by omega, ⟨HI.out.1, HI2.out⟩, hR1, by omega, O2⟩
        · have hltz : ¬ (i : Int) < (A.length : Int) := by omega
          obtain rfl : i = A.length := by omega
          have HL2 : Hid (Lz (y + 1) A R) := by
            show Lz _ _ _
            rw [HI.out.1]
            have h2 := HI.out.2
            rw [List.take_length] at h2
            exact HL.out.next hy1 h3 h2 (by omega)
          go_wp2
          go_roundg (4 - (y + 1))
          case measure => omega
          case rel => exact ⟨y + 1, _, R, rfl, by first | rfl | go_num, by omega, by omega, Nat.le_refl _, HL2, O2⟩
    · have h3z : ¬ (y : Int) ≤ 3 := by omega
      obtain rfl : y = 4 := by omega
      go_wp2
      obtain ⟨k1, k2⟩ := HL.out.done
      refine HP.out oa oc T wr k1 k2 O1.out.b ?_
      have ho := O1.out.o
      rcases own_form ho with ⟨h0, h⟩ | ⟨g, c, h, _⟩
      · exact .inl (List.eq_nil_of_length_eq_zero h0)
      · injection h with h1 _ h2
        subst h1 h2
        obtain ⟨_, _, hH, hg, _⟩ := own_holds ho
        exact .inr ⟨g, rfl, hg, hH⟩
end Go.Proofs.Ytgbhmkdldfhamaa.charsOf
