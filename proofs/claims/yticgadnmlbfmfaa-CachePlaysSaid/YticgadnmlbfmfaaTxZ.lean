/-
  Chapter 25: the answer's Of: effects are put in order, walked.
-/
import Derived.Deep.CutBlock
import Derived.Deep.CutRange
import Derived.Test.YticgadnmlbfmfaaTxY
namespace Go.Proofs.Yticgadnmlbfmfaa.cachePlays
open Go.Shelf Go.RowKit Go.Lib Go.Sort Go.Maps
noncomputable def insC : Code := (Try.f19.body.bind (fromRegion 18)).getD .skip
theorem ltC_nt (x y z : Ef) (h : ltOf cmpC x y = false) (k : ltOf cmpC y z = false) : ltOf cmpC x z = false := by
  rw [ltC_f] at *
  omega
theorem isS_put {A R : List Ef} {x : Ef} (h : IsS A R) {k : Nat} (h2 : k ≤ R.length) (hg : ∀ j, k ≤ j → ∀ hj : j < R.length, ltOf cmpC x R[j] = true) (hl : k = 0 ∨ ∃ hj : k - 1 < R.length, ltOf cmpC x R[k - 1] = false) : IsS (A ++ [x]) (R.take k ++ [x] ++ R.drop k) := by
  have hd : ∀ d ∈ R.drop k, ltOf cmpC x d = true := fun d hd => by
    obtain ⟨i, hi, rfl⟩ := List.getElem_of_mem hd
    rw [List.length_drop] at hi
    rw [List.getElem_drop]
    exact hg _ (by omega) (by omega)
  have ht : ∀ d ∈ R.take k, ltOf cmpC x d = false := fun d hd => by
    obtain ⟨i, hi, rfl⟩ := List.getElem_of_mem hd
    rw [List.length_take] at hi
    rw [List.getElem_take]
    rcases hl with hl | ⟨hj, hl⟩
    · omega
    · rcases Nat.lt_or_ge i (k - 1) with hi' | hi'
      · exact ltC_nt _ _ _ hl (List.pairwise_iff_getElem.1 h.so i (k - 1) (by omega) (by omega) hi')
      · obtain rfl : i = k - 1 := by omega
        exact hl
  have e : R = R.take k ++ R.drop k := (List.take_append_drop k R).symm
  refine ⟨?_, ?_, ?_⟩
  · refine (h.st.app (.refl [x])).trans ?_
    conv => arg 2; rw [e]
    rw [List.append_assoc, List.append_assoc]
    refine Stb.app (.refl _) (Stb.swap ltC_nt fun d hd' y hy => ?_)
    rw [List.mem_singleton.1 hy]
    exact hd d hd'
  · have hs := h.so
    rw [e] at hs
    obtain ⟨p1, p2, p3⟩ := List.pairwise_append.1 hs
    rw [List.append_assoc]
    refine List.pairwise_append.2 ⟨p1, List.pairwise_cons.2 ⟨fun d hd' => ?_, p2⟩, fun a ha b hb => ?_⟩
    · have h1 := hd d hd'
      rw [ltC] at h1
      rw [ltC_f]
      omega
    · rcases List.mem_cons.1 hb with rfl | hb
      · exact ht a ha
      · exact p3 a ha b hb
  · simp only [List.length_append, List.length_take, List.length_drop, List.length_singleton, h.ln]
    have := h.ln
    omega
theorem flatE_takeR (l : List Ef) : ∀ n, (flatE l).take (n * 4) = flatE (l.take n) := by
  induction l with
  | nil => intro n; simp [flatE]
  | cons x l ih =>
    intro n
    have e : flatE (x :: l) = encE x ++ flatE l := by simp [flatE]
    cases n with
    | zero => simp [flatE]
    | succ n =>
      have e2 : flatE ((x :: l).take (n + 1)) = encE x ++ flatE (l.take n) := by simp [flatE]
      rw [e, e2, List.take_append, encE_len, show (n + 1) * 4 - 4 = n * 4 by omega, ih, List.take_of_length_le (by rw [encE_len]; omega)]
theorem flatE_dropR (l : List Ef) : ∀ n, (flatE l).drop (n * 4) = flatE (l.drop n) := by
  induction l with
  | nil => intro n; simp [flatE]
  | cons x l ih =>
    intro n
    have e : flatE (x :: l) = encE x ++ flatE l := by simp [flatE]
    cases n with
    | zero => simp
    | succ n =>
      rw [e, List.drop_append, encE_len, show (n + 1) * 4 - 4 = n * 4 by omega, ih, List.drop_of_length_le (by rw [encE_len]; omega)]
      simp
theorem own_formR {W : World} {base n : Nat} {v : Value} {l : List Value} (h : W.ownsRow base 49 4 v n l) : (n = 0 ∧ v = .slice none 0 0) ∨ ∃ g c, v = .slice (some ⟨g, 0, none⟩) n c ∧ n ≤ c := by
  rcases h.2 with ⟨rfl, h0⟩ | ⟨g, cap, cur, rfl, _, _, hc, _⟩
  · exact .inl ⟨h0, rfl⟩
  · exact .inr ⟨g, cap, rfl, hc⟩
/-- What is held while effects are put in order: all that was there; the answer's own row. -/
structure Oz (W0 : World) (ov : Value) (S : List Ef) (W : World) : Prop where
  b : Below W0.heap.size W0 W
  o : W.ownsRow W0.heap.size 49 4 ov S.length (flatE S)
theorem Oz.gr {W0 W W' : World} {ov : Value} {S : List Ef} (h : Oz W0 ov S W) (g : Gr W W') : Oz W0 ov S W' := ⟨gr_below h.b h.b.size g, h.o.kept (gr_grown g) (by cases hv : ov.ownBlock <;> simp)⟩
/-- A part of a row onto a row of one's own. -/
theorem app_segR {P : Program} (i49 : ∃ i z, P.info? 49 = some i ∧ i.zero = some z ∧ z.cells.size = 4 ∧ i.size = 4 ∧ i.bytes ≤ 1000) (t28 : P.underlying 28 = some (.slice 49)) {W : World} {v : Value} {base : Nat} (X : List Ef) (ho : W.ownsRow base 49 4 v X.length (flatE X)) (hb : base ≤ W.heap.size) (a : Option Addr) (n c : Nat) (M : List Ef) (hn : n = M.length) (ha : a = none → M = []) (hc : ∀ ad, a = some ad → ∀ j u, (flatE M)[j]? = some u → W.cell? (ad.add j) = some u) (hl : X.length + M.length ≤ 4000001) :
    ∃ v' w', (Builtin.append_ #[28, 28] 28 #[v, .slice a n c]).run P W = .ok v' w' ∧ w'.ownsRow base 49 4 v' (X ++ M).length (flatE (X ++ M)) ∧ W.grownBy w' v.ownBlock := by
  obtain ⟨i, z, hi1, hi2, hi3, hi4, hi5⟩ := i49
  subst hn
  obtain ⟨v', w', h1, h2, h3⟩ := run_app_any (P := P) (ty := 28) (t := 28) (tx := 28) t28 t28 hi1 hi2 (by rw [hi4]; exact hi3) (by rw [hi4]; decide) (by rw [hi4]; exact ho) a M.length c (flatE M) (by rw [flatE_len, hi4]) (fun h => by rw [ha h]; rfl) hc (fun u hu => by
    unfold flatE at hu
    obtain ⟨x, _, hx⟩ := List.mem_flatMap.1 hu
    exact encE_one x u hx) (Nat.le_trans hl (by decide)) (Nat.le_trans (Nat.mul_le_mul hl hi5) (by decide)) hb
  rw [hi4, ← flatE_app, ← List.length_append] at h2
  exact ⟨v', w', h1, h2, h3⟩
theorem seg_loR {W : World} {base n c g : Nat} {R : List Ef} (h : W.ownsRow base 49 4 (.slice (some ⟨g, 0, none⟩) n c) R.length (flatE R)) (k : Nat) : ∀ j u, (flatE (R.take k))[j]? = some u → W.cell? ((⟨g, 0, none⟩ : Addr).add j) = some u := fun j u hu => by
  refine h.cells rfl j u ?_
  rw [← flatE_takeR, List.getElem?_take] at hu
  split at hu
  · exact hu
  · cases hu
theorem seg_hiR {W : World} {base n c g : Nat} {R : List Ef} (h : W.ownsRow base 49 4 (.slice (some ⟨g, 0, none⟩) n c) R.length (flatE R)) (k : Nat) : ∀ j u, (flatE (R.drop k))[j]? = some u → W.cell? ((⟨g, k * 4, none⟩ : Addr).add j) = some u := fun j u hu => by
  rw [← flatE_dropR, List.getElem?_drop] at hu
  have := h.cells rfl (k * 4 + j) u hu
  rw [Addr.add_lit, Nat.zero_add] at this
  rw [Addr.add_lit]
  exact this
theorem own_belowR {W0 W : World} {b n : Nat} {v : Value} {l : List Value} (h : W0.ownsRow b 49 4 v n l) (k : Below W0.heap.size W0 W) : W.ownsRow b 49 4 v n l := by
  refine ⟨h.1, ?_⟩
  rcases h.2 with h | ⟨g, cap, cur, hv, hg, hc, hr⟩
  · exact .inl h
  · exact .inr ⟨g, cap, cur, hv, hg, by rw [k.block g (blk_lt hc)]; exact hc, hr⟩
theorem row_rdR {W : World} {base n c g : Nat} {l : List Ef} (h : W.ownsRow base 49 4 (.slice (some ⟨g, 0, none⟩) n c) l.length (flatE l)) {i : Nat} (hi : i < l.length) : W.cell? ⟨g, i * 4, none⟩ = some (.int .i64 l[i].1) ∧ W.cell? ⟨g, i * 4 + 1, none⟩ = some (.int .i64 l[i].2.1) ∧ W.cell? ⟨g, i * 4 + 2, none⟩ = some (.int .i64 l[i].2.2.1) ∧ W.cell? ⟨g, i * 4 + 3, none⟩ = some (.int .i64 l[i].2.2.2) := by
  have hn := (own_holds h).1
  subst hn
  have k := fun k hk => (h.cellAt (i * 4 + k) (by omega)).trans (flatE_getR l i hi k hk)
  exact ⟨k 0 (by omega), k 1 (by omega), k 2 (by omega), k 3 (by omega)⟩
theorem grown_end {W0 W1 W2 : World} (h1 : Below W0.heap.size W0 W1) (h2 : Below W1.heap.size W1 W2) (b : Nat) (vs : List Value) : W0.grownBy (W2.setCells b 0 vs) (some b) := by
  have h := h1.trans (h2.mono h1.size)
  have g := sets_grown b vs 0 W2
  exact ⟨g.os.trans h.os, g.tape.trans h.tape, g.output.trans h.output, Nat.le_trans h.size g.size, fun k hk hn => (g.block k (Nat.lt_of_lt_of_le hk h.size) hn).trans (h.block k hk)⟩
theorem box3R {W : World} {b : Nat} {v0 v1 v2 : Value} {t : TypeId} (h : W.heap[b]? = some (.cells [v0, v1, v2].toArray t)) : W.cell? ⟨b, 0, none⟩ = some v0 ∧ W.cell? ⟨b, 1, none⟩ = some v1 ∧ W.cell? ⟨b, 2, none⟩ = some v2 ∧ W.frozen? ⟨b, 0, none⟩ = false ∧ W.frozen? ⟨b, 1, none⟩ = false ∧ W.frozen? ⟨b, 2, none⟩ = false := by
  have hh := blk_hold h
  exact ⟨(hh 0 (by simp)).1, (hh 1 (by simp)).1, (hh 2 (by simp)).1, (hh 0 (by simp)).2, (hh 1 (by simp)).2, (hh 2 (by simp)).2⟩
/-- What this page leans on. -/
structure RcO (P : Program) : Prop where
  ly : ∀ op W, Calls P 43 #[.int .i64 op] W fun e w' => e = .returned (.int .i64 (lyr op)) ∧ w' = W
  fo : ∀ (v : Int × Int × Int) (R : List Ef) (a : Option Addr) (c : Nat) (w : World), R.length ≤ 1000000 → (R = [] ∨ ∃ g o, a = some ⟨g, o, none⟩ ∧ g < w.heap.size ∧ HoldsK encE 4 w g o R.toArray) → Calls P 44 #[.agg (encV v).toArray, .slice a R.length c] w fun e w' => e = .returned (.agg (encV (foldE R v)).toArray) ∧ Below w.heap.size w w'
set_option pp.maxSteps 100000 in
set_option pp.deepTerms true in
set_option maxHeartbeats 16000000 in
set_option maxRecDepth 1000000 in
theorem rins_ok {P : Program} {c0 : Code} (hc0 : insC = c0) {k30 k82 k89 k92 k59 : Nat} {y30 y82 y89 y92 y59 : List Value} (L : LayQ P k30 k82 k89 k92 y30 y82 y89 y92) (V : LayV P k59 y59) (C : RcQ P k89) (O : RcO P) (av : Value) (A : List Ef) (bs : Nat) (W0 : World) (ho : W0.ownsRow bs 49 4 av A.length (flatE A)) (hA : A.length ≤ 1000000) {b4 b6 : Nat} (hb4 : W0.heap[b4]? = some (.cells [Value.int .i64 0, .int .i64 0, .int .i64 0].toArray 36)) {r : List Value} (hb6 : W0.heap[b6]? = some (.cells r.toArray 82)) {p t k : Int} (q7 : r[7]? = some (.int .i64 p)) (q8 : r[8]? = some (.int .i64 t)) (q9 : r[9]? = some (.int .i64 k)) (u0 u1 u2 u3 u5 u8 u9 u10 u11 u12 u13 u14 u15 u16 u17 u18 u19 u20 u21 u22 u23 u24 u25 u26 u27 u28 u29 u30 u31 u32 u33 u34 u35 u36 u37 u38 u39 u40 u41 u42 u43 u44 u45 u46 u47 u48 u49 u50 u51 u52 u53 u54 u55 u56 u57 u58 u59 u60 u61 u62 u63 u64 u65 u66 u67 u68 u69 u70 u71 u72 u73 u74 u75 u76 u77 u78 u79 u80 u81 u82 u83 u84 u85 u86 u87 u88 u89 u90 u91 u92 u93 u94 u95 u96 u97 u98 u99 u100 u101 u102 u103 u104 u105 u106 u107 u108 u109 u110 u111 u112 u113 u114 u115 u116 u117 u118 u119 u120 u121 u122 u123 u124 u125 u126 u127 u128 u129 u130 u131 u132 u133 u134 u135 u136 u137 u138 u139 u140 u141 u142 u143 u144 u145 u146 u147 u148 u149 u150 u151 u152 u153 u154 u155 u156 u157 u158 u159 u160 u161 u162 u163 u164 u165 u166 u167 u168 u169 u170 u171 u172 u173 u174 u175 u176 u177 u178 u179 u180 : Value) {post : Ending → World → Prop}
    (hpost : ∀ S W, IsS A S → W0.grownBy W (some b4) → post (.returned (.tuple #[.agg (encV (foldE S (p, t, k))).toArray, .bool true])) W) :
    Code.wp P c0 (bodyPost P Try.f19 post) ⟨#[u0, u1, u2, u3, .pointer (some ⟨b4, 0, none⟩), u5, .pointer (some ⟨b6, 0, none⟩), av, u8, u9, u10, u11, u12, u13, u14, u15, u16, u17, u18, u19, u20, u21, u22, u23, u24, u25, u26, u27, u28, u29, u30, u31, u32, u33, u34, u35, u36, u37, u38, u39, u40, u41, u42, u43, u44, u45, u46, u47, u48, u49, u50, u51, u52, u53, u54, u55, u56, u57, u58, u59, u60, u61, u62, u63, u64, u65, u66, u67, u68, u69, u70, u71, u72, u73, u74, u75, u76, u77, u78, u79, u80, u81, u82, u83, u84, u85, u86, u87, u88, u89, u90, u91, u92, u93, u94, u95, u96, u97, u98, u99, u100, u101, u102, u103, u104, u105, u106, u107, u108, u109, u110, u111, u112, u113, u114, u115, u116, u117, u118, u119, u120, u121, u122, u123, u124, u125, u126, u127, u128, u129, u130, u131, u132, u133, u134, u135, u136, u137, u138, u139, u140, u141, u142, u143, u144, u145, u146, u147, u148, u149, u150, u151, u152, u153, u154, u155, u156, u157, u158, u159, u160, u161, u162, u163, u164, u165, u166, u167, u168, u169, u170, u171, u172, u173, u174, u175, u176, u177, u178, u179, u180], []⟩ W0 := by
  have mixed := L.mixed; have t3 := L.t3; have a3 := L.a3; have z3 := L.z3; have t4 := L.t4; have a4 := L.a4; have z4 := L.z4; have t28 := L.t28; have a28 := L.a28; have z28 := L.z28; have qu28 := run_underlying L.t28; have qu49 := run_underlying L.t49; have a49 := L.a49; have z49 := L.z49; have v49 := L.v49
  have qu82 := run_underlying L.t82; have a82 := L.a82; have z82 := L.z82; have qu36 := run_underlying L.t36; have a36 := L.a36; have z36 := L.z36; have v36 := L.v36
  have e43 := V.e43; have e44 := V.e44
  have I49 : Aside (∃ i z, P.info? 49 = some i ∧ i.zero = some z ∧ z.cells.size = 4 ∧ i.size = 4 ∧ i.bytes ≤ 1000) := C.i49
  have T28 : Aside (P.underlying 28 = some (.slice 49)) := L.t28
  have O0 : Aside (Oz W0 (.slice none 0 0) [] W0) := (show Oz W0 (.slice none 0 0) [] W0 from ⟨.refl _ _, World.ownsRow_nil _ _ _ _⟩)
  have H43 : Aside (∀ op W, Calls P 43 #[.int .i64 op] W fun e w' => e = .returned (.int .i64 (lyr op)) ∧ w' = W) := O.ly
  have HF : Aside (RcO P) := O
  have HP : Aside (∀ S W, IsS A S → W0.grownBy W (some b4) → post (.returned (.tuple #[.agg (encV (foldE S (p, t, k))).toArray, .bool true])) W) := hpost
  have HB4 : Aside (W0.heap[b4]? = some (.cells [Value.int .i64 0, .int .i64 0, .int .i64 0].toArray 36)) := hb4
  have HB6 : Aside (W0.heap[b6]? = some (.cells r.toArray 82)) := hb6
  have HQ : Aside (r[7]? = some (.int .i64 p) ∧ r[8]? = some (.int .i64 t) ∧ r[9]? = some (.int .i64 k)) := (show r[7]? = some (.int .i64 p) ∧ r[8]? = some (.int .i64 t) ∧ r[9]? = some (.int .i64 k) from ⟨q7, q8, q9⟩)
  obtain ⟨aa, ac, rfl⟩ : ∃ aa ac, av = .slice aa A.length ac := by
    rcases own_formR ho with ⟨h0, h⟩ | ⟨g, c, h, _⟩
    · exact ⟨none, 0, by rw [h, h0]⟩
    · exact ⟨_, _, h⟩
  have HO : Aside (W0.ownsRow bs 49 4 (.slice aa A.length ac) A.length (flatE A)) := ho
  clear ho hpost hb4 hb6 q7 q8 q9 O C
  subst hc0
  unfold insC
  conv => arg 2; whnf
  go_wp2
  go_loopg [11, 12] A.length (fun kd s11 s12 wr => ∃ (i : Nat) (ov : Value) (R : List Ef), ov = s11 ∧ s12 = .int .i64 i ∧ i ≤ A.length ∧ A.length - i ≤ kd ∧ Hid (IsS (A.take i) R) ∧ Hid (R.length = i) ∧ Aside (Oz W0 ov R wr))
  case atStart => exact ⟨0, _, [], rfl, rfl, Nat.zero_le _, Nat.le_refl _, by rw [List.take_zero]; exact isS_nil, rfl, O0⟩
  case round =>
    clear O0
    obtain ⟨i, ov, R, rfl, rfl, hiA, hkd, HI, hR1, O2⟩ := hrel
    have wi : IntKind.i64.wrap ((i : Int) + 1) = (i : Int) + 1 := by rw [IntKind.wrap_i64]; omega
    obtain ⟨oa2, oc2, hov⟩ : ∃ oa oc, ov = .slice oa R.length oc := by
      rcases own_formR O2.out.o with ⟨h0, h⟩ | ⟨g, c, h, _⟩
      · exact ⟨none, 0, by rw [h, h0]⟩
      · exact ⟨_, _, h⟩
    subst hov
    by_cases hlt : i < A.length
    · have hltz : (i : Int) < (A.length : Int) := by omega
      have hoA := own_belowR HO.out O2.out.b
      obtain ⟨ag, ac', hag⟩ : ∃ g c, (Value.slice aa A.length ac) = .slice (some ⟨g, 0, none⟩) A.length c := by
        rcases own_formR HO.out with ⟨h0, _⟩ | ⟨g, c, h, _⟩
        · omega
        · exact ⟨g, c, h⟩
      injection hag with hag _ hac
      subst hag hac
      have hTk : A.take (i + 1) = A.take i ++ [A[i]] := List.take_succ_eq_append_getElem hlt
      generalize hx : A[i] = x at hTk
      have HTK : Hid (A.take (i + 1) = A.take i ++ [x]) := hTk
      have HXE : Hid (A[i] = x) := hx
      clear hx hTk hoA
      obtain ⟨x0, x1, x2, x3⟩ := x
      go_upto_block 6 with fail
      go_cut [13] from 105 to 154 (fun s13 wc => ∃ at' : Nat, s13 = .int .i64 at' ∧ at' ≤ R.length ∧ Hid ((∀ j, at' ≤ j → ∀ hj : j < R.length, ltOf cmpC (x0, x1, x2, x3) R[j] = true) ∧ (at' = 0 ∨ ∃ hj : at' - 1 < R.length, ltOf cmpC (x0, x1, x2, x3) R[at' - 1] = false)) ∧ Aside (Oz W0 (.slice oa2 R.length oc2) R wc))
      case first =>
        go_wp2_with fail
        go_loopg [13] R.length (fun ke s13 wr => ∃ at' : Nat, s13 = .int .i64 at' ∧ at' ≤ R.length ∧ at' ≤ ke ∧ Hid (∀ j, at' ≤ j → ∀ hj : j < R.length, ltOf cmpC (x0, x1, x2, x3) R[j] = true) ∧ Aside (Oz W0 (.slice oa2 R.length oc2) R wr))
        case atStart => exact ⟨R.length, rfl, Nat.le_refl _, Nat.le_refl _, fun j h hj => by omega, O2⟩
        case round =>
          clear O2
          obtain ⟨at', rfl, ha2, hke, HG, O3⟩ := hrel
          by_cases hgt : 0 < at'
          · obtain ⟨m, rfl⟩ : ∃ m, at' = m + 1 := ⟨at' - 1, by omega⟩
            have hd : decide (((m + 1 : Nat) : Int) > 0) = true := decide_eq_true (by omega)
            have hd2 : decide ((m : Int) + 1 > 0) = true := decide_eq_true (by omega)
            have wm : IntKind.i64.wrap (m : Int) = (m : Int) := by rw [IntKind.wrap_i64]; have := hR1.out; omega
            obtain ⟨og, oc3, hog⟩ : ∃ g c, (Value.slice oa2 R.length oc2) = .slice (some ⟨g, 0, none⟩) R.length c := by
              rcases own_formR O3.out.o with ⟨h0, _⟩ | ⟨g, c, h, _⟩
              · omega
              · exact ⟨g, c, h⟩
            injection hog with hog _ hoc
            subst hog hoc
            have hm : m < R.length := by omega
            have hmz : (m : Int) < (R.length : Int) := by omega
            generalize hz : R[m] = z
            obtain ⟨z0, z1, z2, z3'⟩ := z
            have HZ : Hid (R[m] = (z0, z1, z2, z3')) := hz
            have r0 : ∀ n os, (grow (wr.drewN n) os).cell? ⟨og, m * 4, none⟩ = some (.int .i64 z0) := fun n os => by
              have h := (row_rdR (O3.out.gr ⟨n, os, rfl⟩).o hm).1
              rw [hz] at h
              exact h
            have r3 : ∀ n os, (grow (wr.drewN n) os).cell? ⟨og, m * 4 + 3, none⟩ = some (.int .i64 z3') := fun n os => by
              have h := (row_rdR (O3.out.gr ⟨n, os, rfl⟩).o hm).2.2.2
              rw [hz] at h
              exact h
            have c0 : ∀ n os, (grow (wr.drewN n) os).cell? ⟨ag, i * 4, none⟩ = some (.int .i64 x0) := fun n os => by
              have h := (row_rdR (own_belowR HO.out (O3.out.gr ⟨n, os, rfl⟩).b) hlt).1
              rw [HXE.out] at h
              exact h
            have c3 : ∀ n os, (grow (wr.drewN n) os).cell? ⟨ag, i * 4 + 3, none⟩ = some (.int .i64 x3) := fun n os => by
              have h := (row_rdR (own_belowR HO.out (O3.out.gr ⟨n, os, rfl⟩).b) hlt).2.2.2
              rw [HXE.out] at h
              exact h
            clear hz
            obtain ⟨lz, hlz⟩ : ∃ l, lyr z0 = l := ⟨_, rfl⟩
            obtain ⟨lx, hlx⟩ : ∃ l, lyr x0 = l := ⟨_, rfl⟩
            have HLZ : Hid (lyr z0 = lz) := hlz
            have HLX : Hid (lyr x0 = lx) := hlx
            have h43z : ∀ n os, Calls P 43 #[.int .i64 z0] (grow (wr.drewN n) os) fun e w' => e = .returned (.int .i64 lz) ∧ Gr (grow (wr.drewN n) os) w' := fun n os => (H43.out z0 _).mono (by
              rintro e w' ⟨rfl, hw⟩
              rw [hw, hlz]
              exact ⟨rfl, Gr.refl _⟩)
            have h43x : ∀ n os, Calls P 43 #[.int .i64 x0] (grow (wr.drewN n) os) fun e w' => e = .returned (.int .i64 lx) ∧ Gr (grow (wr.drewN n) os) w' := fun n os => (H43.out x0 _).mono (by
              rintro e w' ⟨rfl, hw⟩
              rw [hw, hlx]
              exact ⟨rfl, Gr.refl _⟩)
            clear hlz hlx
            by_cases h1 : lz > lx
            · have b1 : decide (lz > lx) = true := decide_eq_true h1
              go_wp2_with fail
              refine wp_region_quiet_grown (by assumption) (by kernel_rfl) ?_
              repeat (go_big_quiet_step (first | (go_at_fn 43; first | (with_reducible exact Calls.grown_of (h43z _ _)) | (with_reducible exact Calls.grown_of (h43x _ _)))))
              refine wpQuiet_nil ?_
              rintro _ ⟨⟨nq, osq⟩, rfl⟩
              go_wp2
              go_roundg m
              case measure => omega
              case rel => exact ⟨m, by first | rfl | go_num, by omega, Nat.le_refl _, fun j h hj => by
                rcases Nat.lt_or_ge m j with h | h
                · exact HG.out j h hj
                · obtain rfl : j = m := by omega
                  rw [HZ.out, ltC]
                  show lyr x0 < lyr z0 ∨ lyr x0 = lyr z0 ∧ x3 < z3'
                  rw [HLX.out, HLZ.out]
                  omega, O3.out.gr ⟨_, _, rfl⟩⟩
            · have b1 : decide (lz > lx) = false := decide_eq_false h1
              by_cases h2 : lz = lx
              · have b2 : (lz == lx) = true := by simpa using h2
                have H2 : Hid (lz = lx) := h2
                clear h2
                by_cases h3 : z3' > x3
                · have b3 : decide (z3' > x3) = true := decide_eq_true h3
                  go_wp2_with fail
                  refine wp_region_quiet_grown (by assumption) (by kernel_rfl) ?_
                  repeat (go_big_quiet_step (first | (go_at_fn 43; first | (with_reducible exact Calls.grown_of (h43z _ _)) | (with_reducible exact Calls.grown_of (h43x _ _)))))
                  refine wpQuiet_nil ?_
                  rintro _ ⟨⟨nq, osq⟩, rfl⟩
                  go_wp2
                  go_roundg m
                  case measure => omega
                  case rel => exact ⟨m, by first | rfl | go_num, by omega, Nat.le_refl _, fun j h hj => by
                    rcases Nat.lt_or_ge m j with h | h
                    · exact HG.out j h hj
                    · obtain rfl : j = m := by omega
                      rw [HZ.out, ltC]
                      show lyr x0 < lyr z0 ∨ lyr x0 = lyr z0 ∧ x3 < z3'
                      rw [HLX.out, HLZ.out]
                      have := H2.out
                      omega, O3.out.gr ⟨_, _, rfl⟩⟩
                · have b3 : decide (z3' > x3) = false := decide_eq_false h3
                  go_wp2_with fail
                  refine wp_region_quiet_grown (by assumption) (by kernel_rfl) ?_
                  repeat (go_big_quiet_step (first | (go_at_fn 43; first | (with_reducible exact Calls.grown_of (h43z _ _)) | (with_reducible exact Calls.grown_of (h43x _ _)))))
                  refine wpQuiet_nil ?_
                  rintro _ ⟨⟨nq, osq⟩, rfl⟩
                  go_wp2
                  go_meet
                  case rel => exact ⟨m + 1, rfl, ha2, ⟨HG.out, .inr ⟨by omega, by
                    show ltOf cmpC (x0, x1, x2, x3) (R[m + 1 - 1]) = false
                    simp only [Nat.add_sub_cancel]
                    rw [HZ.out, ltC_f]
                    show ¬ (lyr x0 < lyr z0 ∨ lyr x0 = lyr z0 ∧ x3 < z3')
                    rw [HLX.out, HLZ.out]
                    have := H2.out
                    omega⟩⟩, O3.out.gr ⟨_, _, rfl⟩⟩
              · have b2 : (lz == lx) = false := by simpa using h2
                go_wp2_with fail
                refine wp_region_quiet_grown (by assumption) (by kernel_rfl) ?_
                repeat (go_big_quiet_step (first | (go_at_fn 43; first | (with_reducible exact Calls.grown_of (h43z _ _)) | (with_reducible exact Calls.grown_of (h43x _ _)))))
                refine wpQuiet_nil ?_
                rintro _ ⟨⟨nq, osq⟩, rfl⟩
                go_wp2
                go_meet
                case rel => exact ⟨m + 1, rfl, ha2, ⟨HG.out, .inr ⟨by omega, by
                  show ltOf cmpC (x0, x1, x2, x3) (R[m + 1 - 1]) = false
                  simp only [Nat.add_sub_cancel]
                  rw [HZ.out, ltC_f]
                  show ¬ (lyr x0 < lyr z0 ∨ lyr x0 = lyr z0 ∧ x3 < z3')
                  rw [HLX.out, HLZ.out]
                  omega⟩⟩, O3.out.gr ⟨_, _, rfl⟩⟩
          · have hd : decide ((at' : Int) > 0) = false := decide_eq_false (by omega)
            go_wp2
            go_big_region_o
            go_wp2
            go_meet
            case rel => exact ⟨at', rfl, ha2, ⟨HG.out, .inl (by omega)⟩, O3.out.gr ((Gr.refl _).drew)⟩
      case rest =>
        obtain ⟨at', rfl, ha2, HB, O3⟩ := hcut
        clear O2
        have haz : (at' : Int) ≤ (R.length : Int) := by omega
        have HR6 : Aside (R.length ≤ 1000000) := (show R.length ≤ 1000000 by rw [hR1.out]; omega)
        have E2 : Hid (IsS (A.take (i + 1)) (R.take at' ++ [(x0, x1, x2, x3)] ++ R.drop at')) := by
          show IsS _ _
          rw [HTK.out]
          exact isS_put HI.out ha2 HB.out.1 HB.out.2
        rcases own_formR O3.out.o with ⟨h0, h⟩ | ⟨g, c, h, hc⟩
        · injection h with h1 _ h2
          subst h1 h2
          obtain rfl : R = [] := List.eq_nil_of_length_eq_zero h0
          obtain rfl : at' = 0 := by simpa using ha2
          obtain ⟨v1, w1, hr1, ho1, hg1⟩ := app_segR I49.out T28.out [] (World.ownsRow_nil wc wc.heap.size 49 4) (Nat.le_refl _) none 0 0 [] rfl (fun _ => rfl) (fun ad h => by cases h) (by simp)
          have hg1' : wc.grownBy w1 none := hg1
          rw [List.nil_append] at ho1
          clear hg1
          have b1 : Below W0.heap.size W0 w1 := O3.out.b.grown hg1' O3.out.b.size fun k hk => by cases hk
          obtain ⟨r0, r1, r2, r3⟩ := row_rdR (own_belowR HO.out b1) hlt
          rw [HXE.out] at r0 r1 r2 r3
          simp only at r0 r1 r2 r3
          obtain ⟨v2, w2, hr2, ho2, hg2⟩ := app_segR I49.out T28.out [] (ho1.alloc (.cells #[.int .i64 x0, .int .i64 x1, .int .i64 x2, .int .i64 x3] 49)) (by have := hg1'.size; simp; omega) (some ⟨w1.heap.size, 0, none⟩) 1 1 [(x0, x1, x2, x3)] rfl (fun h => by cases h)
            (fun ad had j u hu => by
              injection had with had
              subst had
              rw [Addr.add_lit, Nat.zero_add]
              simpa [encE, flatE] using hu) (by simp)
          have hgx : wc.heap.size ≤ w1.heap.size := hg1'.size
          have b2 : Below W0.heap.size W0 w2 := (b1.alloc b1.size (.cells #[.int .i64 x0, .int .i64 x1, .int .i64 x2, .int .i64 x3] 49)).grown hg2 (by have := b1.size; simp; omega) fun k hk => by
            have := (ho1.lt k hk).1
            have := O3.out.b.size
            omega
          obtain ⟨v3, w3, hr3, ho3, hg3⟩ := app_segR I49.out T28.out [(x0, x1, x2, x3)] ho2 (by have := b1.size; have := hg2.size; simp at this; omega) none 0 0 [] rfl (fun _ => rfl) (fun ad h => by cases h) (by simp)
          have b3 : Below W0.heap.size W0 w3 := b2.grown hg3 b2.size fun k hk => by
            have := (ho2.lt k hk).1
            have := O3.out.b.size
            omega
          have o3 : w3.ownsRow W0.heap.size 49 4 v3 [(x0, x1, x2, x3)].length (flatE [(x0, x1, x2, x3)]) := ownk_mono ho3 O3.out.b.size
          have OZ : Aside (Oz W0 v3 [(x0, x1, x2, x3)] w3) := (show Oz W0 v3 [(x0, x1, x2, x3)] w3 from ⟨b3, o3⟩)
          have E3 : Hid (IsS (A.take (i + 1)) [(x0, x1, x2, x3)]) := E2.out
          clear b3 o3 ho3 hg3 b1 b2 ho2 ho1 hg1' hg2 hgx E2
          go_wp2_with (first | (at_builtin; refine wpList_app_run rfl _ _ #[28, 28] rfl (.slice none 0 0) (.slice none 0 0) rfl rfl _ w1 hr1 ?_) | (at_builtin; refine wpList_app_run rfl _ _ #[28, 28] rfl v1 (.slice (some ⟨w1.heap.size, 0, none⟩) 1 1) rfl rfl _ w2 hr2 ?_) | (at_builtin; refine wpList_app_run rfl _ _ #[28, 28] rfl v2 (.slice none 0 0) rfl rfl _ w3 hr3 ?_))
          all_goals
            go_roundg (A.length - (i + 1))
            case measure => omega
            case rel => exact ⟨i + 1, _, [(x0, x1, x2, x3)], rfl, by first | rfl | go_num, by omega, Nat.le_refl _, E3, (show 1 = i + 1 by have := hR1.out; simp at this; omega), OZ⟩
        · injection h with h1 _ h2
          subst h1 h2
          have hcz : (at' : Int) ≤ (oc2 : Int) := by omega
          obtain ⟨v1, w1, hr1, ho1, hg1⟩ := app_segR I49.out T28.out [] (World.ownsRow_nil wc wc.heap.size 49 4) (Nat.le_refl _) (some ⟨g, 0, none⟩) at' oc2 (R.take at') (by rw [List.length_take, Nat.min_eq_left ha2]) (fun h => by cases h) (fun ad h => by injection h with h; subst h; exact seg_loR O3.out.o at') (by have := HR6.out; simp; omega)
          have hg1' : wc.grownBy w1 none := hg1
          rw [List.nil_append] at ho1
          clear hg1
          have b1 : Below W0.heap.size W0 w1 := O3.out.b.grown hg1' O3.out.b.size fun k hk => by cases hk
          obtain ⟨r0, r1, r2, r3⟩ := row_rdR (own_belowR HO.out b1) hlt
          rw [HXE.out] at r0 r1 r2 r3
          simp only at r0 r1 r2 r3
          obtain ⟨v2, w2, hr2, ho2, hg2⟩ := app_segR I49.out T28.out (R.take at') (ho1.alloc (.cells #[.int .i64 x0, .int .i64 x1, .int .i64 x2, .int .i64 x3] 49)) (by have := hg1'.size; simp; omega) (some ⟨w1.heap.size, 0, none⟩) 1 1 [(x0, x1, x2, x3)] rfl (fun h => by cases h)
            (fun ad had j u hu => by
              injection had with had
              subst had
              rw [Addr.add_lit, Nat.zero_add]
              simpa [encE, flatE] using hu) (by have := HR6.out; simp; omega)
          have hgx : wc.heap.size ≤ w1.heap.size := hg1'.size
          have b2 : Below W0.heap.size W0 w2 := (b1.alloc b1.size (.cells #[.int .i64 x0, .int .i64 x1, .int .i64 x2, .int .i64 x3] 49)).grown hg2 (by have := b1.size; simp; omega) fun k hk => by
            have := (ho1.lt k hk).1
            have := O3.out.b.size
            omega
          have o2 : w2.ownsRow W0.heap.size 49 4 (.slice (some ⟨g, 0, none⟩) R.length oc2) R.length (flatE R) := ((O3.out.o.kept hg1' (.inr (by simp [Value.ownBlock]))).alloc _).kept hg2 (by
            have hgl := (O3.out.o.lt g rfl).2
            cases hv : v1.ownBlock with
            | none => exact .inr (by simp [Value.ownBlock])
            | some k =>
              refine .inr fun e => ?_
              have := (ho1.lt k hv).1
              simp only [Value.ownBlock, Option.some.injEq] at e
              omega)
          obtain ⟨v3, w3, hr3, ho3, hg3⟩ := app_segR I49.out T28.out (R.take at' ++ [(x0, x1, x2, x3)]) ho2 (by have := b1.size; have := hg2.size; simp at this; omega) (if oc2 = at' then some ⟨g, 0, none⟩ else some ⟨g, at' * 4, none⟩) (R.length - at') (oc2 - at') (R.drop at') (by rw [List.length_drop]) (fun h => by split at h <;> cases h)
            (fun ad had j u hu => by
              split at had
              · rw [List.drop_of_length_le (by omega)] at hu
                simp [flatE] at hu
              · injection had with had
                subst had
                exact seg_hiR o2 at' j u hu) (by have := HR6.out; simp; omega)
          have b3 : Below W0.heap.size W0 w3 := b2.grown hg3 b2.size fun k hk => by
            have := (ho2.lt k hk).1
            have := O3.out.b.size
            omega
          have o3 : w3.ownsRow W0.heap.size 49 4 v3 (R.take at' ++ [(x0, x1, x2, x3)] ++ R.drop at').length (flatE (R.take at' ++ [(x0, x1, x2, x3)] ++ R.drop at')) := ownk_mono ho3 O3.out.b.size
          obtain ⟨R', hR'⟩ : ∃ R', R' = R.take at' ++ [(x0, x1, x2, x3)] ++ R.drop at' := ⟨_, rfl⟩
          rw [← hR'] at o3 E2
          have RL : Hid (R'.length = i + 1) := (show R'.length = i + 1 by
            rw [hR']
            simp only [List.length_append, List.length_take, List.length_singleton, List.length_drop]
            have := hR1.out
            omega)
          have OZ : Aside (Oz W0 v3 R' w3) := (show Oz W0 v3 R' w3 from ⟨b3, o3⟩)
          clear hR' b3 o3 ho3 hg3 b1 b2 o2 ho2 ho1 hg1' hg2 hgx
          go_wp2_with (first | (at_builtin; refine wpList_app_run rfl _ _ #[28, 28] rfl (.slice none 0 0) (.slice (some ⟨g, 0, none⟩) at' oc2) rfl rfl _ w1 hr1 ?_) | (at_builtin; refine wpList_app_run rfl _ _ #[28, 28] rfl v1 (.slice (some ⟨w1.heap.size, 0, none⟩) 1 1) rfl rfl _ w2 hr2 ?_) | (at_builtin; refine wpList_app_run rfl _ _ #[28, 28] rfl v2 (.slice (if oc2 = at' then some ⟨g, 0, none⟩ else some ⟨g, at' * 4, none⟩) (R.length - at') (oc2 - at')) rfl rfl _ w3 hr3 ?_))
          all_goals
            go_roundg (A.length - (i + 1))
            case measure => omega
            case rel => exact ⟨i + 1, _, R', rfl, by first | rfl | go_num, by omega, Nat.le_refl _, E2, RL, OZ⟩
    · have hltz : ¬ (i : Int) < (A.length : Int) := by omega
      obtain rfl : i = A.length := by omega
      have hIS : IsS A R := by
        have := HI.out
        rwa [List.take_length] at this
      have HIS : Aside (IsS A R) := hIS
      have hRl : R.length ≤ 1000000 := by rw [hR1.out]; exact hA
      have hb6 : wr.heap[b6]? = some (.cells r.toArray 82) := (O2.out.b.block b6 (blk_lt HB6.out)).trans HB6.out
      have hb4 : wr.heap[b4]? = some (.cells [Value.int .i64 0, .int .i64 0, .int .i64 0].toArray 36) := (O2.out.b.block b4 (blk_lt HB4.out)).trans HB4.out
      have c7 := hold_cell (blk_hold hb6) (j := 7) (by simpa using HQ.out.1)
      have c8 := hold_cell (blk_hold hb6) (j := 8) (by simpa using HQ.out.2.1)
      have c9 := hold_cell (blk_hold hb6) (j := 9) (by simpa using HQ.out.2.2)
      have hfo := HF.out.fo (p, t, k) R oa2 oc2 wr hRl (by
        rcases own_formR O2.out.o with ⟨h0, h⟩ | ⟨g, c, h, _⟩
        · exact .inl (List.eq_nil_of_length_eq_zero h0)
        · injection h with h1 _ h2
          subst h1 h2
          obtain ⟨_, _, hH, hg, _⟩ := own_holds O2.out.o
          exact .inr ⟨g, 0, rfl, hg, hH⟩)
      simp only [encV] at hfo
      obtain ⟨f0, f1, f2, hff⟩ : ∃ f0 f1 f2, foldE R (p, t, k) = (f0, f1, f2) := ⟨_, _, _, rfl⟩
      have HF2 : Aside (foldE R (p, t, k) = (f0, f1, f2)) := hff
      rw [hff] at hfo
      clear hff
      have HB4b : Aside (wr.heap[b4]? = some (.cells [Value.int .i64 0, .int .i64 0, .int .i64 0].toArray 36)) := hb4
      have OB : Aside (Below W0.heap.size W0 wr) := O2.out.b
      clear hb4 hb6 O2 hIS hRl
      go_wp2_with (go_at_fn 44; refine hfo.mono ?_; rintro e w2 ⟨rfl, hB⟩; obtain ⟨e0, e1, e2, g0, g1, g2⟩ := box3R ((hB.block b4 (blk_lt HB4b.out)).trans HB4b.out); have HBL : Aside (Below wr.heap.size wr w2) := hB; clear hB)
      refine bodyPost_ret (v := .tuple #[.agg #[.int .i64 f0, .int .i64 f1, .int .i64 f2], .bool true]) (by simp [results, go_sem, Try.results19, a36, z36, e0, e1, e2]) rfl ?_
      have hfin := HP.out R _ HIS.out (grown_end OB.out HBL.out b4 [.int .i64 f0, .int .i64 f1, .int .i64 f2])
      rw [HF2.out] at hfin
      exact hfin
end Go.Proofs.Yticgadnmlbfmfaa.cachePlays
