/-
  Chapter 25: CacheState: the state that the slots make is built, walked.
-/
import Derived.Deep.CutBlock
import Derived.Deep.CutRange
import Derived.Test.YticgadnmlbfmfaaTxW
namespace Go.Proofs.Yticgadnmlbfmfaa.cacheState
open Go.Shelf Go.RowKit Go.Lib Go.Sort Go.Maps
def fromBlock (n : Nat) : Code → Option Code
  | .seq a b => match fromBlock n a with
    | some c => some c
    | none => fromBlock n b
  | .loop c => fromBlock n c
  | .block m c => if m = n then some (.block m c) else fromBlock n c
  | .scope c => fromBlock n c
  | .cond _ a b => match fromBlock n a with
    | some c => some c
    | none => fromBlock n b
  | _ => none
theorem wp_false {P : Program} {c : Code} {KK : Act → World → Prop} {QQ : Exit → Act → World → Prop} {a : Act} {w : World} (h : Code.wp P c (Exit.then KK fun _ _ _ => False) a w) : Code.wp P c (Exit.then KK QQ) a w :=
  wp_mono h (by
    intro e a w h
    cases e with
    | normal => exact h
    | exit id => exact h.elim
    | goto l => exact h.elim
    | ret => exact h.elim
    | panic ch => exact h.elim
    | outgrown => exact h.elim)
noncomputable def bldC : Code := (Try.f6.body.bind (fromBlock 2)).getD .skip
set_option maxHeartbeats 40000000 in
set_option maxRecDepth 100000 in
theorem bld_ok {c0 : Code} (hc0 : bldC = c0) {P : Program} {k30 k75 k63 k64 k65 : Nat} {y75 y63 y64 y65 : List Value} (L : LayT P k30 k75 k63 k64 k65 zv30 y75 y63 y64 y65) (h30 : k30 = 14) {w W0 : World} {bh bi bt cb bs : Nat} {D1 : Nat → Sl} {K1 : Ca} {T1 : Int → Int × Int × Int} {Y1 : Nat → Prop} (S9 : Aside (Ls w bh bi bt cb D1 K1 T1 Y1 W0)) {W21 : World} (BL : Aside (Bld W0 bs (.slice none 0 0) (.slice none 0 0) (rowsO D1 0) (rowsI D1 0) W21)) {KK : Act → World → Prop} {QQ : Exit → Act → World → Prop} {ds : List Deferred} {u0 u1 u2 u3 u4 u5 u8 u9 u10 u11 u12 u15 u16 u17 u18 u19 u20 u21 u22 u23 u24 u25 u26 u27 u28 u29 u30 u31 u32 u33 u34 u35 u36 u37 u38 u39 u40 u41 u42 u43 u44 u45 u46 u47 u48 u49 u50 u51 u52 u53 u54 u55 u56 u57 u58 u59 u60 u61 u62 u63 u64 u65 u66 u67 u68 u69 u70 u71 u72 u73 u74 u75 u76 u77 u78 u79 u80 u81 u82 u83 u84 u85 u86 u87 u88 u89 u90 u91 u92 u93 u94 u95 u96 u97 u98 u99 u100 u101 u102 u103 u104 u105 u106 u107 u108 u109 u110 u111 u112 u113 u114 u115 u116 u117 u118 u119 u120 u121 u122 u123 u124 u125 u126 u127 u128 u129 u130 u131 u132 u133 u134 u135 u136 u137 u138 u139 u140 u141 u142 u143 u144 u145 u146 u147 u148 u149 u150 u151 u152 u153 u154 u155 u156 u157 u158 u159 u160 u161 u162 u163 u164 u165 u166 u167 u168 u169 u170 u171 u172 u173 u174 u175 u176 u177 u178 u179 u180 u181 u182 u183 u184 u185 u186 u187 u188 u189 : Value}
    (hK : ∀ (x14 x93 x94 x95 x96 x97 x98 x99 x100 x101 x102 x103 x104 x105 x106 x107 x108 x109 x110 x111 x112 x113 x114 x115 x116 : Value) (lo lf : Value) (W : World), Aside (Bld W0 bs lo lf (rowsO D1 16) (rowsI D1 16) W) → KK ⟨#[u0, u1, u2, u3, u4, u5, .pointer (some ⟨bh, 0, none⟩), .pointer (some ⟨bi, 0, none⟩), u8, u9, u10, u11, u12, .pointer (some ⟨bs, 0, none⟩), x14, u15, u16, u17, u18, u19, u20, u21, u22, u23, u24, u25, u26, u27, u28, u29, u30, u31, u32, u33, u34, u35, u36, u37, u38, u39, u40, u41, u42, u43, u44, u45, u46, u47, u48, u49, u50, u51, u52, u53, u54, u55, u56, u57, u58, u59, u60, u61, u62, u63, u64, u65, u66, u67, u68, u69, u70, u71, u72, u73, u74, u75, u76, u77, u78, u79, u80, u81, u82, u83, u84, u85, u86, u87, u88, u89, u90, u91, u92, x93, x94, x95, x96, x97, x98, x99, x100, x101, x102, x103, x104, x105, x106, x107, x108, x109, x110, x111, x112, x113, x114, x115, x116, u117, u118, u119, u120, u121, u122, u123, u124, u125, u126, u127, u128, u129, u130, u131, u132, u133, u134, u135, u136, u137, u138, u139, u140, u141, u142, u143, u144, u145, u146, u147, u148, u149, u150, u151, u152, u153, u154, u155, u156, u157, u158, u159, u160, u161, u162, u163, u164, u165, u166, u167, u168, u169, u170, u171, u172, u173, u174, u175, u176, u177, u178, u179, u180, u181, u182, u183, u184, u185, u186, u187, u188, u189], ds⟩ W) :
    Code.wp P c0 (Exit.then KK QQ) ⟨#[u0, u1, u2, u3, u4, u5, .pointer (some ⟨bh, 0, none⟩), .pointer (some ⟨bi, 0, none⟩), u8, u9, u10, u11, u12, .pointer (some ⟨bs, 0, none⟩), .int .i64 0, u15, u16, u17, u18, u19, u20, u21, u22, u23, u24, u25, u26, u27, u28, u29, u30, u31, u32, u33, u34, u35, u36, u37, u38, u39, u40, u41, u42, u43, u44, u45, u46, u47, u48, u49, u50, u51, u52, u53, u54, u55, u56, u57, u58, u59, u60, u61, u62, u63, u64, u65, u66, u67, u68, u69, u70, u71, u72, u73, u74, u75, u76, u77, u78, u79, u80, u81, u82, u83, u84, u85, u86, u87, u88, u89, u90, u91, u92, u93, u94, u95, u96, u97, u98, u99, u100, u101, u102, u103, u104, u105, u106, u107, u108, u109, u110, u111, u112, u113, u114, u115, u116, u117, u118, u119, u120, u121, u122, u123, u124, u125, u126, u127, u128, u129, u130, u131, u132, u133, u134, u135, u136, u137, u138, u139, u140, u141, u142, u143, u144, u145, u146, u147, u148, u149, u150, u151, u152, u153, u154, u155, u156, u157, u158, u159, u160, u161, u162, u163, u164, u165, u166, u167, u168, u169, u170, u171, u172, u173, u174, u175, u176, u177, u178, u179, u180, u181, u182, u183, u184, u185, u186, u187, u188, u189], ds⟩ W21 := by
  have mixed := L.mixed; have t3 := L.t3; have qt3 := run_underlying L.t3; have a3 := L.a3; have z3 := L.z3; have v3 := L.v3; have t4 := L.t4; have qt4 := run_underlying L.t4; have a4 := L.a4; have z4 := L.z4; have t67 := L.t67; have qt67 := run_underlying L.t67; have a67 := L.a67; have z67 := L.z67; have t69 := L.t69; have qt69 := run_underlying L.t69; have a69 := L.a69; have z69 := L.z69; have t30 := L.t30; have qt30 := run_underlying L.t30; have a30 := L.a30; have z30 := L.z30; have v30 := L.v30; have t75 := L.t75; have qt75 := run_underlying L.t75; have a75 := L.a75; have z75 := L.z75; have t63 := L.t63; have qt63 := run_underlying L.t63; have a63 := L.a63; have z63 := L.z63; have t64 := L.t64; have qt64 := run_underlying L.t64; have a64 := L.a64; have z64 := L.z64
  have HKK : Aside _ := hK
  have H30 : Aside (k30 = 14) := h30
  have HI30 : Aside (∃ i z, P.info? 30 = some i ∧ i.zero = some z ∧ z.cells.size = k30 ∧ i.size = k30 ∧ i.bytes ≤ 1000) := L.i30
  have HI3 : Aside (∃ i z, P.info? 3 = some i ∧ i.zero = some z ∧ z.cells.size = 1 ∧ i.size = 1 ∧ i.bytes ≤ 1000) := L.i3
  clear hK h30
  unfold zv30 at v30
  refine wp_false ?_
  clear QQ
  subst hc0
  unfold bldC
  conv => arg 2; whnf
  go_wp2
  go_loopg [14] 16 (fun kx s14 wr => ∃ (j : Nat) (lo lf : Value), s14 = .int .i64 j ∧ j ≤ 16 ∧ 16 - j ≤ kx ∧ Aside (Bld W0 bs lo lf (rowsO D1 j) (rowsI D1 j) wr))
  case atStart => exact ⟨0, _, _, rfl, Nat.zero_le _, Nat.le_refl _, BL⟩
  case round =>
    clear BL
    obtain ⟨j, lo, lf, rfl, hj, hkj, B1⟩ := hrel
    have wj2 : IntKind.i64.wrap ((j : Int) + 1) = (j : Int) + 1 := by rw [IntKind.wrap_i64]; omega
    by_cases hj16 : j < 16
    · have hjz : (j : Int) < 16 := by omega
      have S10 := S9.out.below B1.out.b
      obtain ⟨z1, _⟩ := flat_cell (k := 1) S10.m.ci (fun _ _ => rfl) hj16 (j := 0) rfl
      rw [Nat.mul_one, Nat.add_zero] at z1
      cases his : (D1 j).is with
      | false =>
        rw [his] at z1
        obtain ⟨e1, e2⟩ := rows_out his
        rw [← e1, ← e2] at B1
        clear S10 e1 e2
        go_wp2
        go_roundg (16 - (j + 1))
        case measure => omega
        case rel => exact ⟨j + 1, lo, lf, by first | rfl | go_num, by omega, Nat.le_refl _, B1⟩
      | true =>
        rw [his] at z1
        obtain ⟨e1, e2⟩ := rows_in his
        have E1 : Aside (rowsO D1 (j + 1) = rowsO D1 j ++ [(D1 j).o.arr.toList]) := e1
        have E2 : Aside (rowsI D1 (j + 1) = rowsI D1 j ++ [[Value.int .i64 (idS j)]]) := e2
        have HCH : Aside (∀ W : World, W.heap[bh]? = some (.cells (flatN (fun k => (D1 k).o.arr.toList) 16).toArray 63) → W.cell? ⟨bh, j * k30, none⟩ = some (.int .i64 (idS j))) := fun W hW => held_id S9.out.m H30.out hW hj16 his
        have CH0 : wr.heap[bh]? = some (.cells (flatN (fun k => (D1 k).o.arr.toList) 16).toArray 63) := S10.m.ch
        have NB : bh < bs := by rw [B1.out.h]; exact S9.out.m.lt.1
        clear e1 e2 S10
        have LR : Aside (∀ W : World, W.heap[bh]? = some (.cells (flatN (fun k => (D1 k).o.arr.toList) 16).toArray 63) → Sem.run P (loadCellsFrom ⟨bh, j * k30, none⟩ 0 k30 #[]) W = .ok (D1 j).o.arr.toList.toArray W) := fun W hW => flat_ld P hW (fun _ _ => by rw [H30.out]; rfl) hj16
        have rl : (D1 j).o.arr.toList.length = k30 := by rw [H30.out]; rfl
        have N2 := B1.out.gr ((Gr.refl wr).drew)
        obtain ⟨v', w4, hr, ho, hg⟩ := app_row t67 HI30.out (by rw [H30.out]; decide) (rowsO D1 j).flatten (D1 j).o.arr.toList rl (Ov.one _) (by rw [H30.out]; exact N2.o) (by have := N2.lt; omega) (by have := (rows_le D1 hj).1; omega)
        rw [H30.out] at ho
        obtain ⟨va, vc, hv⟩ := own_formk ho
        subst hv
        have N4 := N2.obj ho hg
        have hlo : lo.ownBlock ≠ some bh := fun e => by have := (N2.o.lt _ e).1; omega
        have hlo2 : lo.ownBlock ≠ some bs := fun e => by have := (N2.o.lt _ e).1; omega
        generalize hro : (D1 j).o.arr.toList = ro at LR rl hr hg N4 E1
        have hfc := fold_cells2 [Value.int .i64 0, .int .i64 0, .int .i64 0, .int .i64 0, .int .i64 0, .bool false, .bool false, .bool false, .int .i64 0, .int .i64 0, .int .i64 0, .int .i64 0, .bool false, .slice none 0 0] ro H30.out rl
        have kb1 : ¬ 16777216 < k30 := by rw [H30.out]; decide
        have kb2 : ¬ k30 = 0 := by rw [H30.out]; decide
        have OB0 : wr.drew.heap[bh]? = some (.cells (flatN (fun k => (D1 k).o.arr.toList) 16).toArray 63) := CH0
        have O0 : Aside (wr.drew.heap[bh]? = some (.cells (flatN (fun k => (D1 k).o.arr.toList) 16).toArray 63)) := CH0
        have O1 : Aside ((wr.drew.alloc (.cells ro.toArray 30)).heap[bh]? = some (.cells (flatN (fun k => (D1 k).o.arr.toList) 16).toArray 63)) := blk_old CH0 _
        have O2 : Aside (w4.heap[bh]? = some (.cells (flatN (fun k => (D1 k).o.arr.toList) 16).toArray 63)) := (hg.block bh (blk_lt O1.out) (fun e => hlo e.symm)).trans O1.out
        have O3 : Aside ((w4.setCell ⟨bs, 1, none⟩ (.slice va ((rowsO D1 j).length + 1) vc)).heap[bh]? = some (.cells (flatN (fun k => (D1 k).o.arr.toList) 16).toArray 63)) := (set_other (by omega) 1 _).trans O2.out
        have C1 : Aside (wr.drew.cell? ⟨bs, 1, none⟩ = some lo) := hold_cell (blk_hold N2.c) (j := 1) rfl
        have C1b : Aside ((wr.alloc (.cells ro.toArray 30)).cell? ⟨bs, 1, none⟩ = some lo) := hold_cell (blk_hold (blk_old B1.out.c _)) (j := 1) rfl
        have c4b : w4.heap[bs]? = some (.cells (st75 lo lf).toArray 75) := (hg.block bs (blk_lt (blk_old N2.c _)) (fun e => hlo2 e.symm)).trans (blk_old N2.c _)
        have C4 : Aside (w4.cell? ⟨bs, 1, none⟩ = some lo) := hold_cell (blk_hold c4b) (j := 1) rfl
        have F4 : Aside (w4.frozen? ⟨bs, 1, none⟩ = false) := (blk_hold c4b 1 (show 1 < 25 by decide)).2
        have N5 : Aside (Bld W0 bs (.slice va ((rowsO D1 j).length + 1) vc) lf (rowsO D1 (j + 1)) (rowsI D1 j) (w4.setCell ⟨bs, 1, none⟩ (.slice va ((rowsO D1 j).length + 1) vc))) := by rw [E1.out]; exact N4
        clear N2 N4 ho hg hlo hlo2 c4b CH0
        go_upto_region 26 with fail
        go_cut [] from 93 to 116 (fun wc => ∃ v' : Value, Aside (Bld W0 bs v' lf (rowsO D1 (j + 1)) (rowsI D1 j) wc))
        case first =>
          refine wp_region_held_drew (S := fun W => W.heap[bh]? = some (.cells (flatN (fun k => (D1 k).o.arr.toList) 16).toArray 63)) mixed OB0 (fun hHeld => ?_)
          refine wpAnyH_take (i := 0) (v := .pointer (some ⟨bs, 1, none⟩)) rfl (by kernel_rfl) (by kernel_rfl) (by kernel_rfl) (fun _ _ _ h => h) (Or.inl ⟨by rfl, ?_⟩) hHeld ?_
          · intro W hW
            clear hW hHeld OB0 hr
            go_simp
          simp only [Act.put, List.getElem_toArray, List.getElem_cons_zero, List.setIfInBounds_toArray, List.set_cons_zero, List.set_cons_succ]
          refine wpAnyH_take (i := 2) (v := .int .i64 j) rfl (by kernel_rfl) (by kernel_rfl) (by kernel_rfl) (fun _ _ _ h => h) (Or.inl ⟨by rfl, ?_⟩) hHeld ?_
          · intro W hW
            clear hW hHeld OB0 hr
            go_simp
          simp only [Act.put, List.getElem_toArray, List.getElem_cons_zero, List.getElem_cons_succ, List.setIfInBounds_toArray, List.set_cons_zero, List.set_cons_succ]
          refine wpAnyH_take (i := 3) (v := .pointer (some ⟨bh, j * k30, none⟩)) rfl (by kernel_rfl) (by kernel_rfl) (by kernel_rfl) (fun _ _ _ h => h) (Or.inl ⟨by rfl, ?_⟩) hHeld ?_
          · intro W hW
            clear hW hHeld OB0 hr
            go_simp
          simp only [Act.put, List.getElem_toArray, List.getElem_cons_zero, List.getElem_cons_succ, List.setIfInBounds_toArray, List.set_cons_zero, List.set_cons_succ]
          refine wpAnyH_take (i := 4) (v := .agg ro.toArray) rfl (by kernel_rfl) (by kernel_rfl) (by kernel_rfl) (fun _ _ _ h => h) (Or.inl ⟨by rfl, ?_⟩) hHeld ?_
          · intro W hW
            have lr := LR.out W hW
            clear hW hHeld OB0 hr
            go_simp
          simp only [Act.put, List.getElem_toArray, List.getElem_cons_zero, List.getElem_cons_succ, List.setIfInBounds_toArray, List.set_cons_zero, List.set_cons_succ]
          refine wpAnyH_ready (rs := [1, 5]) (by kernel_rfl) (by simp) ?_
          refine AllReadyH.cons rfl (fun K hK => ?_) (AllReadyH.cons rfl (fun K hK => ?_) AllReadyH.nil)
          · skip
            have c1 := C1.out
            go_simp
            refine hK.out _ _ O0.out (fun hHeld => ?_)
            clear hK K
            refine wpAnyH_ready (rs := [5]) (by kernel_rfl) (by simp) ?_
            refine AllReadyH.cons rfl (fun K hK => ?_) AllReadyH.nil
            go_simp
            refine hK.out _ _ O1.out (fun hHeld => ?_)
            clear hK K
            refine wpAnyH_ready (rs := [6]) (by kernel_rfl) (by simp) ?_
            refine AllReadyH.cons rfl (fun K hK => ?_) AllReadyH.nil
            refine readyH_app (.tmp 101) (.tmp 105) #[67, 67] rfl rfl lo (.slice (some ⟨wr.drew.heap.size, 0, none⟩) 1 1) rfl rfl (.slice va ((rowsO D1 j).length + 1) vc) w4 hr ?_
            refine hK.out _ _ O2.out (fun hHeld => ?_)
            clear hK K
            refine wpAnyH_ready (rs := [7]) (by kernel_rfl) (by simp) ?_
            refine AllReadyH.cons rfl (fun K hK => ?_) AllReadyH.nil
            go_simp
            refine hK.out _ _ O2.out (fun hHeld => ?_)
            clear hK K
            refine wpAnyH_ready (rs := [8]) (by kernel_rfl) (by simp) ?_
            refine AllReadyH.cons rfl (fun K hK => ?_) AllReadyH.nil
            have c4 := C4.out
            have f4 := F4.out
            go_simp
            refine hK.out _ _ O3.out (fun hHeld => ?_)
            clear hK K
            refine wpAnyH_done (by kernel_rfl) ?_ _
            clear hr OB0 hHeld
            go_wp2
            go_meet
            case rel => exact ⟨_, N5⟩
          · skip
            go_simp
            refine hK.out _ _ O1.out (fun hHeld => ?_)
            clear hK K
            refine wpAnyH_ready (rs := [1]) (by kernel_rfl) (by simp) ?_
            refine AllReadyH.cons rfl (fun K hK => ?_) AllReadyH.nil
            have c1 := C1b.out
            go_simp
            refine hK.out _ _ O1.out (fun hHeld => ?_)
            clear hK K
            refine wpAnyH_ready (rs := [6]) (by kernel_rfl) (by simp) ?_
            refine AllReadyH.cons rfl (fun K hK => ?_) AllReadyH.nil
            refine readyH_app (.tmp 101) (.tmp 105) #[67, 67] rfl rfl lo (.slice (some ⟨wr.drew.heap.size, 0, none⟩) 1 1) rfl rfl (.slice va ((rowsO D1 j).length + 1) vc) w4 hr ?_
            refine hK.out _ _ O2.out (fun hHeld => ?_)
            clear hK K
            refine wpAnyH_ready (rs := [7]) (by kernel_rfl) (by simp) ?_
            refine AllReadyH.cons rfl (fun K hK => ?_) AllReadyH.nil
            go_simp
            refine hK.out _ _ O2.out (fun hHeld => ?_)
            clear hK K
            refine wpAnyH_ready (rs := [8]) (by kernel_rfl) (by simp) ?_
            refine AllReadyH.cons rfl (fun K hK => ?_) AllReadyH.nil
            have c4 := C4.out
            have f4 := F4.out
            go_simp
            refine hK.out _ _ O3.out (fun hHeld => ?_)
            clear hK K
            refine wpAnyH_done (by kernel_rfl) ?_ _
            clear hr OB0 hHeld
            go_wp2
            go_meet
            case rel => exact ⟨_, N5⟩
        case rest =>
          clear hr OB0 O0 O1 O2 O3 C1 C1b C4 F4 N5 LR rl E1 hfc kb1 kb2 NB hro
          obtain ⟨lo2, B2⟩ := hcut
          have CH0 : wc.heap[bh]? = some (.cells (flatN (fun k => (D1 k).o.arr.toList) 16).toArray 63) := (S9.out.below B2.out.b).m.ch
          have N2 := B2.out.gr ((Gr.refl wc).drew)
          obtain ⟨v2, w5, hr, ho, hg⟩ := app_row t69 HI3.out (by decide) (rowsI D1 j).flatten [Value.int .i64 (idS j)] rfl (fun u hu => by rw [List.mem_singleton.1 hu]; rfl) N2.f (by have := N2.lt; omega) (by have := (rows_le D1 hj).2; omega)
          obtain ⟨va, vc, hv⟩ := own_formk ho
          subst hv
          have N4 := N2.id ho hg
          have NB2 : bh < bs := by rw [B2.out.h]; exact S9.out.m.lt.1
          have hlo : lf.ownBlock ≠ some bh := fun e => by have := (N2.f.lt _ e).1; omega
          have hlo2 : lf.ownBlock ≠ some bs := fun e => by have := (N2.f.lt _ e).1; omega
          have OB0 : wc.drew.heap[bh]? = some (.cells (flatN (fun k => (D1 k).o.arr.toList) 16).toArray 63) := CH0
          have O0 : Aside (wc.drew.heap[bh]? = some (.cells (flatN (fun k => (D1 k).o.arr.toList) 16).toArray 63)) := CH0
          have O1 : Aside ((wc.drew.alloc (.cells [Value.int .i64 (idS j)].toArray 3)).heap[bh]? = some (.cells (flatN (fun k => (D1 k).o.arr.toList) 16).toArray 63)) := blk_old CH0 _
          have O2 : Aside (w5.heap[bh]? = some (.cells (flatN (fun k => (D1 k).o.arr.toList) 16).toArray 63)) := (hg.block bh (blk_lt O1.out) (fun e => hlo e.symm)).trans O1.out
          have O3 : Aside ((w5.setCell ⟨bs, 6, none⟩ (.slice va ((rowsI D1 j).length + 1) vc)).heap[bh]? = some (.cells (flatN (fun k => (D1 k).o.arr.toList) 16).toArray 63)) := (set_other (by omega) 6 _).trans O2.out
          have C1 : Aside (wc.drew.cell? ⟨bs, 6, none⟩ = some lf) := hold_cell (blk_hold N2.c) (j := 6) rfl
          have C1b : Aside ((wc.alloc (.cells [Value.int .i64 (idS j)].toArray 3)).cell? ⟨bs, 6, none⟩ = some lf) := hold_cell (blk_hold (blk_old B2.out.c _)) (j := 6) rfl
          have c4b : w5.heap[bs]? = some (.cells (st75 lo2 lf).toArray 75) := (hg.block bs (blk_lt (blk_old N2.c _)) (fun e => hlo2 e.symm)).trans (blk_old N2.c _)
          have C4 : Aside (w5.cell? ⟨bs, 6, none⟩ = some lf) := hold_cell (blk_hold c4b) (j := 6) rfl
          have F4 : Aside (w5.frozen? ⟨bs, 6, none⟩ = false) := (blk_hold c4b 6 (show 6 < 25 by decide)).2
          have N5 : Aside (Bld W0 bs lo2 (.slice va ((rowsI D1 j).length + 1) vc) (rowsO D1 (j + 1)) (rowsI D1 (j + 1)) (w5.setCell ⟨bs, 6, none⟩ (.slice va ((rowsI D1 j).length + 1) vc))) := by rw [E2.out]; exact N4
          clear N2 N4 ho hg hlo hlo2 c4b CH0 NB2 B2 B1
          go_upto_region 27 with fail
          refine wp_region_held_drew (S := fun W => W.heap[bh]? = some (.cells (flatN (fun k => (D1 k).o.arr.toList) 16).toArray 63)) mixed OB0 (fun hHeld => ?_)
          refine wpAnyH_take (i := 0) (v := .pointer (some ⟨bs, 6, none⟩)) rfl (by kernel_rfl) (by kernel_rfl) (by kernel_rfl) (fun _ _ _ h => h) (Or.inl ⟨by rfl, ?_⟩) hHeld ?_
          · intro W hW
            clear hW hHeld OB0 hr
            go_simp
          simp only [Act.put, List.getElem_toArray, List.getElem_cons_zero, List.setIfInBounds_toArray, List.set_cons_zero, List.set_cons_succ]
          refine wpAnyH_take (i := 2) (v := .int .i64 j) rfl (by kernel_rfl) (by kernel_rfl) (by kernel_rfl) (fun _ _ _ h => h) (Or.inl ⟨by rfl, ?_⟩) hHeld ?_
          · intro W hW
            clear hW hHeld OB0 hr
            go_simp
          simp only [Act.put, List.getElem_toArray, List.getElem_cons_zero, List.getElem_cons_succ, List.setIfInBounds_toArray, List.set_cons_zero, List.set_cons_succ]
          refine wpAnyH_take (i := 3) (v := .pointer (some ⟨bh, j * k30, none⟩)) rfl (by kernel_rfl) (by kernel_rfl) (by kernel_rfl) (fun _ _ _ h => h) (Or.inl ⟨by rfl, ?_⟩) hHeld ?_
          · intro W hW
            clear hW hHeld OB0 hr
            go_simp
          simp only [Act.put, List.getElem_toArray, List.getElem_cons_zero, List.getElem_cons_succ, List.setIfInBounds_toArray, List.set_cons_zero, List.set_cons_succ]
          refine wpAnyH_take (i := 4) (v := .pointer (some ⟨bh, j * k30, none⟩)) rfl (by kernel_rfl) (by kernel_rfl) (by kernel_rfl) (fun _ _ _ h => h) (Or.inl ⟨by rfl, ?_⟩) hHeld ?_
          · intro W hW
            clear hW hHeld OB0 hr
            go_simp
          simp only [Act.put, List.getElem_toArray, List.getElem_cons_zero, List.getElem_cons_succ, List.setIfInBounds_toArray, List.set_cons_zero, List.set_cons_succ]
          refine wpAnyH_take (i := 5) (v := .int .i64 (idS j)) rfl (by kernel_rfl) (by kernel_rfl) (by kernel_rfl) (fun _ _ _ h => h) (Or.inl ⟨by rfl, ?_⟩) hHeld ?_
          · intro W hW
            have lr := HCH.out W hW
            clear hW hHeld OB0 hr
            go_simp
          simp only [Act.put, List.getElem_toArray, List.getElem_cons_zero, List.getElem_cons_succ, List.setIfInBounds_toArray, List.set_cons_zero, List.set_cons_succ]
          refine wpAnyH_ready (rs := [1, 6]) (by kernel_rfl) (by simp) ?_
          refine AllReadyH.cons rfl (fun K hK => ?_) (AllReadyH.cons rfl (fun K hK => ?_) AllReadyH.nil)
          · skip
            have c1 := C1.out
            go_simp
            refine hK.out _ _ O0.out (fun hHeld => ?_)
            clear hK K
            refine wpAnyH_ready (rs := [6]) (by kernel_rfl) (by simp) ?_
            refine AllReadyH.cons rfl (fun K hK => ?_) AllReadyH.nil
            go_simp
            refine hK.out _ _ O1.out (fun hHeld => ?_)
            clear hK K
            refine wpAnyH_ready (rs := [7]) (by kernel_rfl) (by simp) ?_
            refine AllReadyH.cons rfl (fun K hK => ?_) AllReadyH.nil
            refine readyH_app (.tmp 109) (.tmp 114) #[69, 69] rfl rfl lf (.slice (some ⟨wc.drew.heap.size, 0, none⟩) 1 1) rfl rfl (.slice va ((rowsI D1 j).length + 1) vc) w5 hr ?_
            refine hK.out _ _ O2.out (fun hHeld => ?_)
            clear hK K
            refine wpAnyH_ready (rs := [8]) (by kernel_rfl) (by simp) ?_
            refine AllReadyH.cons rfl (fun K hK => ?_) AllReadyH.nil
            go_simp
            refine hK.out _ _ O2.out (fun hHeld => ?_)
            clear hK K
            refine wpAnyH_ready (rs := [9]) (by kernel_rfl) (by simp) ?_
            refine AllReadyH.cons rfl (fun K hK => ?_) AllReadyH.nil
            have c4 := C4.out
            have f4 := F4.out
            go_simp
            refine hK.out _ _ O3.out (fun hHeld => ?_)
            clear hK K
            refine wpAnyH_done (by kernel_rfl) ?_ _
            clear hr OB0 hHeld
            go_wp2
            go_roundg (16 - (j + 1))
            case measure => omega
            case rel => exact ⟨j + 1, lo2, _, by first | rfl | go_num, by omega, Nat.le_refl _, N5⟩
          · skip
            go_simp
            refine hK.out _ _ O1.out (fun hHeld => ?_)
            clear hK K
            refine wpAnyH_ready (rs := [1]) (by kernel_rfl) (by simp) ?_
            refine AllReadyH.cons rfl (fun K hK => ?_) AllReadyH.nil
            have c1 := C1b.out
            go_simp
            refine hK.out _ _ O1.out (fun hHeld => ?_)
            clear hK K
            refine wpAnyH_ready (rs := [7]) (by kernel_rfl) (by simp) ?_
            refine AllReadyH.cons rfl (fun K hK => ?_) AllReadyH.nil
            refine readyH_app (.tmp 109) (.tmp 114) #[69, 69] rfl rfl lf (.slice (some ⟨wc.drew.heap.size, 0, none⟩) 1 1) rfl rfl (.slice va ((rowsI D1 j).length + 1) vc) w5 hr ?_
            refine hK.out _ _ O2.out (fun hHeld => ?_)
            clear hK K
            refine wpAnyH_ready (rs := [8]) (by kernel_rfl) (by simp) ?_
            refine AllReadyH.cons rfl (fun K hK => ?_) AllReadyH.nil
            go_simp
            refine hK.out _ _ O2.out (fun hHeld => ?_)
            clear hK K
            refine wpAnyH_ready (rs := [9]) (by kernel_rfl) (by simp) ?_
            refine AllReadyH.cons rfl (fun K hK => ?_) AllReadyH.nil
            have c4 := C4.out
            have f4 := F4.out
            go_simp
            refine hK.out _ _ O3.out (fun hHeld => ?_)
            clear hK K
            refine wpAnyH_done (by kernel_rfl) ?_ _
            clear hr OB0 hHeld
            go_wp2
            go_roundg (16 - (j + 1))
            case measure => omega
            case rel => exact ⟨j + 1, lo2, _, by first | rfl | go_num, by omega, Nat.le_refl _, N5⟩
    · obtain rfl : j = 16 := by omega
      have hnot : ¬ ((16 : Int) < 16) := by decide
      go_wp2
      exact HKK.out _ _ _ _ _ _ _ _ _ _ _ _ _ _ _ _ _ _ _ _ _ _ _ _ _ lo lf _ B1
end Go.Proofs.Yticgadnmlbfmfaa.cacheState
