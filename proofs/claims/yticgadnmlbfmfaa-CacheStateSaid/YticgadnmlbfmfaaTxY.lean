/-
  Chapter 25: CacheState: the round over the slots, walked.
-/
import Derived.Test.YticgadnmlbfmfaaTxX
namespace Go.Proofs.Yticgadnmlbfmfaa.cacheState
open Go.Shelf Go.RowKit Go.Lib Go.Sort Go.Maps
theorem u16_cell {w W : World} {aa : Option Addr} {al : List Int} (hR : RowsZ (fun b => b < w.heap.size) w aa 1 (al.map fun n => [.int .u16 n])) (h : Below w.heap.size w W) {i : Nat} {n : Int} (hn : al[i]? = some n) : ∃ B O, aa = some ⟨B, O, none⟩ ∧ W.cell? ⟨B, O + i, none⟩ = some (.int .u16 n) := by
  have hm : (al.map fun n => [Value.int .u16 n])[i]? = some [.int .u16 n] := by rw [List.getElem?_map, hn]; rfl
  obtain ⟨B, O, rfl, _, hb, hc⟩ := hR.resolve_left (by rintro e; rw [e] at hm; cases hm)
  have := hc i _ hm 0 _ rfl
  rw [Nat.mul_one, Nat.add_zero] at this
  exact ⟨B, O, rfl, (h.cell (p := ⟨B, O + i, none⟩) hb).trans this⟩
noncomputable def chkC : Code := (Try.f6.body.bind (fromBlock 4)).getD .skip
set_option maxHeartbeats 40000000 in
set_option maxRecDepth 100000 in
theorem chk_ok {c0 : Code} (hc0 : chkC = c0) {P : Program} {k30 k75 k63 k64 k65 : Nat} {y75 y63 y64 y65 : List Value} (L : LayT P k30 k75 k63 k64 k65 zv30 y75 y63 y64 y65) (C : LawC P) (h75 : k75 = 25) {w W5 : World} {bh bi bt cb bs bd : Nat} {D : Nat → Sl} {K : Ca} {Y0 : Nat → Prop} {oa fa : Option Addr} {oc fc : Nat} {d0 d1 d2 d3 : Int} (CK : Aside (Chk w W5 bh bi bt cb bs bd D K Y0 oa oc fa fc d0 d1 d2 d3)) {i : Nat} {al : List Int} {aa : Option Addr} {ac : Nat} (HA : Aside (RowsZ (fun b => b < w.heap.size) w aa 1 (al.map fun n => [.int .u16 n]))) (HAO : Aside (∀ n ∈ al, 0 ≤ n ∧ n < 65536)) {KK : Act → World → Prop} {QQ : Exit → Act → World → Prop} {ds : List Deferred} {u0 u2 u3 u4 u6 u10 u11 u12 u14 u17 u18 u19 u20 u21 u22 u23 u24 u25 u26 u27 u28 u29 u30 u31 u32 u33 u34 u35 u36 u37 u38 u39 u40 u41 u42 u43 u44 u45 u46 u47 u48 u49 u50 u51 u52 u53 u54 u55 u56 u57 u58 u59 u60 u61 u62 u63 u64 u65 u66 u67 u68 u69 u70 u71 u72 u73 u74 u75 u76 u77 u78 u79 u80 u81 u82 u83 u84 u85 u86 u87 u88 u89 u90 u91 u92 u93 u94 u95 u96 u97 u98 u99 u100 u101 u102 u103 u104 u105 u106 u107 u108 u109 u110 u111 u112 u113 u114 u115 u116 u117 u118 u119 u120 u121 u122 u123 u124 u125 u126 u127 u128 u129 u130 u131 u132 u133 u134 u135 u136 u137 u138 u139 u140 u141 u142 u143 u144 u145 u146 u147 u148 u149 u150 u151 u152 u153 u154 u155 u156 u157 u158 u159 u160 u161 u162 u163 u164 u165 u166 u167 u168 u169 u170 u171 u172 u173 u174 u175 u176 u177 u178 u179 u180 u181 u182 u183 u184 u185 u186 u187 u188 u189 : Value}
    (hK : ∀ (x4 x16 x17 x18 x19 x20 x119 x120 x121 x122 x123 x124 x125 x126 x127 x128 x129 x130 x131 x132 x133 x134 x135 x136 x137 x138 x139 x140 x141 x142 x143 x144 x145 x146 x147 x148 x149 x150 x151 x152 x153 x154 x155 x156 x157 x158 x159 x160 x161 x162 x163 x164 x165 x166 x167 x168 x169 x170 x171 x172 x173 x174 x175 x176 x177 x178 x179 x180 x181 x182 x183 x184 x185 x186 x187 x188 : Value) (D' : Nat → Sl) (K' : Ca) (Y' : Nat → Prop) (W : World), Aside (Ls w bh bi bt cb D' K' (tD D') Y' W) → KK ⟨#[u0, .slice aa al.length ac, u2, u3, x4, .pointer (some ⟨cb, 0, none⟩), u6, .pointer (some ⟨bi, 0, none⟩), .pointer (some ⟨bt, 0, none⟩), .int .i64 i, u10, u11, u12, .pointer (some ⟨bs, 0, none⟩), u14, .pointer (some ⟨bd, 0, none⟩), x16, x17, x18, x19, x20, u21, u22, u23, u24, u25, u26, u27, u28, u29, u30, u31, u32, u33, u34, u35, u36, u37, u38, u39, u40, u41, u42, u43, u44, u45, u46, u47, u48, u49, u50, u51, u52, u53, u54, u55, u56, u57, u58, u59, u60, u61, u62, u63, u64, u65, u66, u67, u68, u69, u70, u71, u72, u73, u74, u75, u76, u77, u78, u79, u80, u81, u82, u83, u84, u85, u86, u87, u88, u89, u90, u91, u92, u93, u94, u95, u96, u97, u98, u99, u100, u101, u102, u103, u104, u105, u106, u107, u108, u109, u110, u111, u112, u113, u114, u115, u116, u117, u118, x119, x120, x121, x122, x123, x124, x125, x126, x127, x128, x129, x130, x131, x132, x133, x134, x135, x136, x137, x138, x139, x140, x141, x142, x143, x144, x145, x146, x147, x148, x149, x150, x151, x152, x153, x154, x155, x156, x157, x158, x159, x160, x161, x162, x163, x164, x165, x166, x167, x168, x169, x170, x171, x172, x173, x174, x175, x176, x177, x178, x179, x180, x181, x182, x183, x184, x185, x186, x187, x188, u189], ds⟩ W) :
    Code.wp P c0 (Exit.then KK QQ) ⟨#[u0, .slice aa al.length ac, u2, u3, u4, .pointer (some ⟨cb, 0, none⟩), u6, .pointer (some ⟨bi, 0, none⟩), .pointer (some ⟨bt, 0, none⟩), .int .i64 i, u10, u11, u12, .pointer (some ⟨bs, 0, none⟩), u14, .pointer (some ⟨bd, 0, none⟩), .int .i64 0, u17, u18, u19, u20, u21, u22, u23, u24, u25, u26, u27, u28, u29, u30, u31, u32, u33, u34, u35, u36, u37, u38, u39, u40, u41, u42, u43, u44, u45, u46, u47, u48, u49, u50, u51, u52, u53, u54, u55, u56, u57, u58, u59, u60, u61, u62, u63, u64, u65, u66, u67, u68, u69, u70, u71, u72, u73, u74, u75, u76, u77, u78, u79, u80, u81, u82, u83, u84, u85, u86, u87, u88, u89, u90, u91, u92, u93, u94, u95, u96, u97, u98, u99, u100, u101, u102, u103, u104, u105, u106, u107, u108, u109, u110, u111, u112, u113, u114, u115, u116, u117, u118, u119, u120, u121, u122, u123, u124, u125, u126, u127, u128, u129, u130, u131, u132, u133, u134, u135, u136, u137, u138, u139, u140, u141, u142, u143, u144, u145, u146, u147, u148, u149, u150, u151, u152, u153, u154, u155, u156, u157, u158, u159, u160, u161, u162, u163, u164, u165, u166, u167, u168, u169, u170, u171, u172, u173, u174, u175, u176, u177, u178, u179, u180, u181, u182, u183, u184, u185, u186, u187, u188, u189], ds⟩ W5 := by
  have mixed := L.mixed; have e8 := L.e8; have e11 := L.e11; have e21 := L.e21; have e23 := L.e23; have t3 := L.t3; have qt3 := run_underlying L.t3; have a3 := L.a3; have z3 := L.z3; have v3 := L.v3; have t4 := L.t4; have qt4 := run_underlying L.t4; have a4 := L.a4; have z4 := L.z4; have v4 := L.v4; have t5 := L.t5; have qt5 := run_underlying L.t5; have a5 := L.a5; have z5 := L.z5; have v5 := L.v5; have t23 := L.t23; have qt23 := run_underlying L.t23; have a23 := L.a23; have z23 := L.z23; have v23 := L.v23; have t24 := L.t24; have qt24 := run_underlying L.t24; have a24 := L.a24; have z24 := L.z24; have v24 := L.v24; have t51 := L.t51; have qt51 := run_underlying L.t51; have a51 := L.a51; have z51 := L.z51; have v51 := L.v51; have t62 := L.t62; have qt62 := run_underlying L.t62; have a62 := L.a62; have z62 := L.z62; have v62 := L.v62; have t75 := L.t75; have qt75 := run_underlying L.t75; have a75 := L.a75; have z75 := L.z75; have t64 := L.t64; have qt64 := run_underlying L.t64; have a64 := L.a64; have z64 := L.z64; have t65 := L.t65; have qt65 := run_underlying L.t65; have a65 := L.a65; have z65 := L.z65; have t36 := L.t36; have qt36 := run_underlying L.t36; have a36 := L.a36; have z36 := L.z36; have v36 := L.v36; have t53 := L.t53; have qt53 := run_underlying L.t53; have a53 := L.a53; have z53 := L.z53; have v53 := L.v53; have eq36 := L.eq36; have g36 := L.g36
  have HKK : Aside _ := hK
  have HC : Aside (LawC P) := C
  have H75 : Aside (k75 = 25) := h75
  clear hK h75 C
  refine wp_false ?_
  clear QQ
  subst hc0
  unfold chkC
  conv => arg 2; whnf
  go_wp2
  go_loopg [16] 16 (fun kx s16 wr => ∃ (j : Nat) (D' : Nat → Sl) (K' : Ca) (Y' : Nat → Prop), s16 = .int .i64 j ∧ j ≤ 16 ∧ 16 - j ≤ kx ∧ Aside (InJ w W5 bh bi bt cb D K.dt Y0 j D' K' Y' wr))
  case atStart => exact ⟨0, _, _, _, rfl, Nat.zero_le _, Nat.le_refl _, (show InJ w W5 bh bi bt cb D K.dt Y0 0 D K Y0 W5 from InJ.start CK.out.s)⟩
  case round =>
    obtain ⟨j, D', K', Y', rfl, hj, hkj, I1⟩ := hrel
    have wj2 : IntKind.i64.wrap ((j : Int) + 1) = (j : Int) + 1 := by rw [IntKind.wrap_i64]; omega
    have wj3 : IntKind.i64.wrap (1 + (j : Int)) = 1 + (j : Int) := by rw [IntKind.wrap_i64]; omega
    by_cases hj16 : j < 16
    · have hjz : (j : Int) < 16 := by omega
      have SB := (I1.out.k bs (blk_lt CK.out.c) CK.out.fs).trans CK.out.c
      have HCH : Aside (∀ (a : Addr) (Wf W : World), Below wr.heap.size wr W → FewX a Wf W → Calls P 23 #[.slice (some a) 5 5, .agg (st75 (.slice oa (onS D 16).length oc) (.slice fa (onS D 16).length fc)).toArray, .int .i64 (1 + (j : Int))] W (ChOK K' j W)) := fun a Wf W hb F => ch_x HC.out (I1.out.below hb) CK.out.z F
      have svl : (st75 (.slice oa (onS D 16).length oc) (.slice fa (onS D 16).length fc)).length = k75 := by rw [H75.out]; rfl
      have LB : Aside (bs < wr.heap.size) := blk_lt SB
      generalize (st75 (.slice oa (onS D 16).length oc) (.slice fa (onS D 16).length fc)) = SV at SB HCH svl
      have LR : Aside (∀ W : World, W.heap[bs]? = some (.cells SV.toArray 75) → Sem.run P (loadCellsFrom ⟨bs, 0, none⟩ 0 k75 #[]) W = .ok SV.toArray W) := fun W hW => hold_ld P (blk_hold hW) svl
      have OB0 : wr.drew.heap[bs]? = some (.cells SV.toArray 75) := SB
      have O0 : Aside (wr.drew.heap[bs]? = some (.cells SV.toArray 75)) := SB
      have O0b : Aside ((wr.drew.alloc (.cells #[Value.int .i64 0, .int .i64 0, .int .i64 0] 36)).heap[bs]? = some (.cells SV.toArray 75)) := blk_old SB _
      clear SB svl
      go_upto_region 32 with fail
      go_cut [17, 18] from 119 to 188 (fun s17 s18 wc => ∃ (v0 v1 v2 : Int) (b : Bool) (bw : Nat), s17 = .pointer (some ⟨bw, 0, none⟩) ∧ s18 = .bool b ∧ Aside (Wnt w W5 bh bi bt cb D K.dt Y0 j D' K' Y' v0 v1 v2 b bw wc))
      case first =>
        refine wp_region_held_drew (S := fun W => W.heap[bs]? = some (.cells SV.toArray 75)) mixed OB0 (fun hHeld => ?_)
        refine wpAnyH_take (i := 1) (v := .agg SV.toArray) rfl (by kernel_rfl) (by kernel_rfl) (by kernel_rfl) (fun _ _ _ h => h) (Or.inl ⟨by rfl, ?_⟩) hHeld ?_
        · intro W hW
          have lr := LR.out W hW
          clear hW hHeld OB0
          go_simp
        simp only [Act.put, List.getElem_toArray, List.getElem_cons_zero, List.getElem_cons_succ, List.setIfInBounds_toArray, List.set_cons_zero, List.set_cons_succ]
        refine wpAnyH_take (i := 2) (v := .int .i64 j) rfl (by kernel_rfl) (by kernel_rfl) (by kernel_rfl) (fun _ _ _ h => h) (Or.inl ⟨by rfl, ?_⟩) hHeld ?_
        · intro W hW
          clear hW hHeld OB0
          go_simp
        simp only [Act.put, List.getElem_toArray, List.getElem_cons_zero, List.getElem_cons_succ, List.setIfInBounds_toArray, List.set_cons_zero, List.set_cons_succ]
        refine wpAnyH_take (i := 3) (v := .int .i64 (1 + (j : Int))) rfl (by kernel_rfl) (by kernel_rfl) (by kernel_rfl) (fun _ _ _ h => h) (Or.inl ⟨by rfl, ?_⟩) hHeld ?_
        · intro W hW
          clear hW hHeld OB0
          go_simp
        simp only [Act.put, List.getElem_toArray, List.getElem_cons_zero, List.getElem_cons_succ, List.setIfInBounds_toArray, List.set_cons_zero, List.set_cons_succ]
        refine wpAnyH_ready (rs := [0, 8]) (by kernel_rfl) (by simp) ?_
        refine AllReadyH.cons rfl (fun K hK => ?_) (AllReadyH.cons rfl (fun K hK => ?_) AllReadyH.nil)
        · skip
          go_simp
          refine (few_x HC.out _).mono ?_
          rintro e w1 ⟨fa1, rfl, hF⟩
          have HF : Aside (FewX fa1 wr.drew w1) := hF
          clear hF
          have O1 : Aside (w1.heap[bs]? = some (.cells SV.toArray 75)) := blk_gr O0.out HF.out.2.g
          have B1 : Aside (Below wr.heap.size wr w1) := gr_below (.refl _ _) (Nat.le_refl _) (Gr.trans ((Gr.refl wr).drew) HF.out.2.g)
          refine hK.out _ _ (O1.out) (fun hHeld => ?_)
          clear hK K
          refine wpAnyH_ready (rs := [4, 8]) (by kernel_rfl) (by simp) ?_
          refine AllReadyH.cons rfl (fun K hK => ?_) (AllReadyH.cons rfl (fun K hK => ?_) AllReadyH.nil)
          · skip
            go_simp
            refine (HCH.out _ _ _ B1.out HF.out).mono ?_
            rintro e w2 ⟨r, rfl, hr, hB⟩
            obtain ⟨v0, v1, v2, b, he, rfl, hg⟩ := encR_form r
            rw [he]
            have HR : Aside (OfV K' j (optR b (v0, v1, v2))) := hr
            have B2 : Aside (Below wr.heap.size wr w2) := B1.out.trans (hB.mono B1.out.size)
            have O2 : Aside (w2.heap[bs]? = some (.cells SV.toArray 75)) := (hB.block bs (blk_lt O1.out)).trans O1.out
            clear he hg hr hB
            refine hK.out _ _ (O2.out) (fun hHeld => ?_)
            clear hK K
            refine wpAnyH_take (i := 5) (v := .tuple #[.agg #[.int .i64 v0, .int .i64 v1, .int .i64 v2], .bool b]) rfl (by kernel_rfl) (by kernel_rfl) (by kernel_rfl) (fun _ _ _ h => h) (Or.inl ⟨by rfl, ?_⟩) hHeld ?_
            · intro W hW
              clear hW hHeld 
              go_simp
            simp only [Act.put, List.getElem_toArray, List.getElem_cons_zero, List.getElem_cons_succ, List.setIfInBounds_toArray, List.set_cons_zero, List.set_cons_succ]
            refine wpAnyH_take (i := 6) (v := .agg #[.int .i64 v0, .int .i64 v1, .int .i64 v2]) rfl (by kernel_rfl) (by kernel_rfl) (by kernel_rfl) (fun _ _ _ h => h) (Or.inl ⟨by rfl, ?_⟩) hHeld ?_
            · intro W hW
              clear hW hHeld 
              go_simp
            simp only [Act.put, List.getElem_toArray, List.getElem_cons_zero, List.getElem_cons_succ, List.setIfInBounds_toArray, List.set_cons_zero, List.set_cons_succ]
            refine wpAnyH_take (i := 7) (v := .bool b) rfl (by kernel_rfl) (by kernel_rfl) (by kernel_rfl) (fun _ _ _ h => h) (Or.inl ⟨by rfl, ?_⟩) hHeld ?_
            · intro W hW
              clear hW hHeld 
              go_simp
            simp only [Act.put, List.getElem_toArray, List.getElem_cons_zero, List.getElem_cons_succ, List.setIfInBounds_toArray, List.set_cons_zero, List.set_cons_succ]
            refine wpAnyH_ready (rs := [8]) (by kernel_rfl) (by simp) ?_
            refine AllReadyH.cons rfl (fun K hK => ?_) AllReadyH.nil
            go_simp
            have O3 : Aside ((w2.alloc (.cells #[Value.int .i64 0, .int .i64 0, .int .i64 0] 36)).heap[bs]? = some (.cells SV.toArray 75)) := blk_old O2.out _
            refine hK.out _ _ (O3.out) (fun hHeld => ?_)
            clear hK K
            refine wpAnyH_ready (rs := [9]) (by kernel_rfl) (by simp) ?_
            refine AllReadyH.cons rfl (fun K hK => ?_) AllReadyH.nil
            go_simp
            have O4 : Aside ((w2.alloc (.cells #[Value.int .i64 v0, .int .i64 v1, .int .i64 v2] 36)).heap[bs]? = some (.cells SV.toArray 75)) := blk_old O2.out _
            have W4 := wnt_of I1.out (gr_below B2.out (by have := B2.out.size; omega) ((Gr.refl w2).alloc (.cells #[Value.int .i64 v0, .int .i64 v1, .int .i64 v2] 36))) (bw := w2.heap.size) B2.out.size HR.out (blk_new w2 _)
            refine hK.out _ _ (O4.out) (fun hHeld => ?_)
            clear hK K
            refine wpAnyH_ready (rs := [10]) (by kernel_rfl) (by simp) ?_
            refine AllReadyH.cons rfl (fun K hK => ?_) AllReadyH.nil
            go_simp
            refine hK.out _ _ (O4.out) (fun hHeld => ?_)
            clear hK K
            refine wpAnyH_done (by kernel_rfl) ?_ _
            clear hHeld OB0
            go_wp2
            go_meet
            case rel => exact ⟨v0, v1, v2, b, _, rfl, rfl, W4⟩
          · skip
            go_simp
            have O1c : Aside ((w1.alloc (.cells #[Value.int .i64 0, .int .i64 0, .int .i64 0] 36)).heap[bs]? = some (.cells SV.toArray 75)) := blk_old O1.out _
            refine hK.out _ _ (O1c.out) (fun hHeld => ?_)
            clear hK K
            refine wpAnyH_ready (rs := [4]) (by kernel_rfl) (by simp) ?_
            refine AllReadyH.cons rfl (fun K hK => ?_) AllReadyH.nil
            go_simp
            refine (HCH.out _ _ _ (gr_below B1.out (by have := B1.out.size; omega) ((Gr.refl w1).alloc (.cells #[Value.int .i64 0, .int .i64 0, .int .i64 0] 36))) (HF.out.gr ((Gr.refl w1).alloc (.cells #[Value.int .i64 0, .int .i64 0, .int .i64 0] 36)))).mono ?_
            rintro e w2 ⟨r, rfl, hr, hB⟩
            obtain ⟨v0, v1, v2, b, he, rfl, hg⟩ := encR_form r
            rw [he]
            have HR : Aside (OfV K' j (optR b (v0, v1, v2))) := hr
            have B2 : Aside (Below wr.heap.size wr w2) := (gr_below B1.out (by have := B1.out.size; omega) ((Gr.refl w1).alloc (.cells #[Value.int .i64 0, .int .i64 0, .int .i64 0] 36))).trans (hB.mono (gr_below B1.out (by have := B1.out.size; omega) ((Gr.refl w1).alloc (.cells #[Value.int .i64 0, .int .i64 0, .int .i64 0] 36))).size)
            have O2 : Aside (w2.heap[bs]? = some (.cells SV.toArray 75)) := (hB.block bs (blk_lt O1c.out)).trans O1c.out
            have X2 : Aside (w2.heap[w1.heap.size]? = some (.cells #[Value.int .i64 0, .int .i64 0, .int .i64 0] 36)) := (hB.block _ (blk_lt (blk_new w1 (.cells #[Value.int .i64 0, .int .i64 0, .int .i64 0] 36)))).trans (blk_new w1 (.cells #[Value.int .i64 0, .int .i64 0, .int .i64 0] 36))
            have SZ1 : Aside (wr.heap.size ≤ w1.heap.size) := B1.out.size
            clear he hg hr hB
            refine hK.out _ _ (O2.out) (fun hHeld => ?_)
            clear hK K
            refine wpAnyH_take (i := 5) (v := .tuple #[.agg #[.int .i64 v0, .int .i64 v1, .int .i64 v2], .bool b]) rfl (by kernel_rfl) (by kernel_rfl) (by kernel_rfl) (fun _ _ _ h => h) (Or.inl ⟨by rfl, ?_⟩) hHeld ?_
            · intro W hW
              clear hW hHeld 
              go_simp
            simp only [Act.put, List.getElem_toArray, List.getElem_cons_zero, List.getElem_cons_succ, List.setIfInBounds_toArray, List.set_cons_zero, List.set_cons_succ]
            refine wpAnyH_take (i := 6) (v := .agg #[.int .i64 v0, .int .i64 v1, .int .i64 v2]) rfl (by kernel_rfl) (by kernel_rfl) (by kernel_rfl) (fun _ _ _ h => h) (Or.inl ⟨by rfl, ?_⟩) hHeld ?_
            · intro W hW
              clear hW hHeld 
              go_simp
            simp only [Act.put, List.getElem_toArray, List.getElem_cons_zero, List.getElem_cons_succ, List.setIfInBounds_toArray, List.set_cons_zero, List.set_cons_succ]
            refine wpAnyH_take (i := 7) (v := .bool b) rfl (by kernel_rfl) (by kernel_rfl) (by kernel_rfl) (fun _ _ _ h => h) (Or.inl ⟨by rfl, ?_⟩) hHeld ?_
            · intro W hW
              clear hW hHeld 
              go_simp
            simp only [Act.put, List.getElem_toArray, List.getElem_cons_zero, List.getElem_cons_succ, List.setIfInBounds_toArray, List.set_cons_zero, List.set_cons_succ]
            refine wpAnyH_ready (rs := [9]) (by kernel_rfl) (by simp) ?_
            refine AllReadyH.cons rfl (fun K hK => ?_) AllReadyH.nil
            obtain ⟨q0, q1, q2, f0, f1, f2⟩ := box3 X2.out
            go_simp
            have O4 : Aside ((((w2.setCell ⟨w1.heap.size, 0, none⟩ (.int .i64 v0)).setCell ⟨w1.heap.size, 1, none⟩ (.int .i64 v1)).setCell ⟨w1.heap.size, 2, none⟩ (.int .i64 v2)).heap[bs]? = some (.cells SV.toArray 75)) := (sets_other (W := w2) (b := bs) (c := w1.heap.size) (by have := LB.out; have := Nat.le_trans (Nat.le_refl wr.heap.size) SZ1.out; omega) [.int .i64 v0, .int .i64 v1, .int .i64 v2] 0).trans O2.out
            have W4 := wnt_of I1.out (below_sets (b := w1.heap.size) SZ1.out [.int .i64 v0, .int .i64 v1, .int .i64 v2] 0 B2.out) (bw := w1.heap.size) SZ1.out HR.out (blk_put (l := [Value.int .i64 0, .int .i64 0, .int .i64 0]) X2.out [.int .i64 v0, .int .i64 v1, .int .i64 v2] rfl)
            refine hK.out _ _ (O4.out) (fun hHeld => ?_)
            clear hK K
            refine wpAnyH_ready (rs := [10]) (by kernel_rfl) (by simp) ?_
            refine AllReadyH.cons rfl (fun K hK => ?_) AllReadyH.nil
            go_simp
            refine hK.out _ _ (O4.out) (fun hHeld => ?_)
            clear hK K
            refine wpAnyH_done (by kernel_rfl) ?_ _
            clear hHeld OB0
            go_wp2
            go_meet
            case rel => exact ⟨v0, v1, v2, b, _, rfl, rfl, W4⟩
        · skip
          go_simp
          refine hK.out _ _ (O0b.out) (fun hHeld => ?_)
          clear hK K
          refine wpAnyH_ready (rs := [0]) (by kernel_rfl) (by simp) ?_
          refine AllReadyH.cons rfl (fun K hK => ?_) AllReadyH.nil
          go_simp
          refine (few_x HC.out _).mono ?_
          rintro e w1 ⟨fa1, rfl, hF⟩
          have HF : Aside (FewX fa1 (wr.drew.alloc (.cells #[Value.int .i64 0, .int .i64 0, .int .i64 0] 36)) w1) := hF
          clear hF
          have O1 : Aside (w1.heap[bs]? = some (.cells SV.toArray 75)) := blk_gr O0b.out HF.out.2.g
          have B1 : Aside (Below wr.heap.size wr w1) := gr_below (.refl _ _) (Nat.le_refl _) (Gr.trans (((Gr.refl wr).drew).alloc (.cells #[Value.int .i64 0, .int .i64 0, .int .i64 0] 36)) HF.out.2.g)
          have X1 : Aside (w1.heap[wr.heap.size]? = some (.cells #[Value.int .i64 0, .int .i64 0, .int .i64 0] 36)) := blk_gr (blk_new wr.drew (.cells #[Value.int .i64 0, .int .i64 0, .int .i64 0] 36)) HF.out.2.g
          refine hK.out _ _ (O1.out) (fun hHeld => ?_)
          clear hK K
          refine wpAnyH_ready (rs := [4]) (by kernel_rfl) (by simp) ?_
          refine AllReadyH.cons rfl (fun K hK => ?_) AllReadyH.nil
          go_simp
          refine (HCH.out _ _ _ B1.out HF.out).mono ?_
          rintro e w2 ⟨r, rfl, hr, hB⟩
          obtain ⟨v0, v1, v2, b, he, rfl, hg⟩ := encR_form r
          rw [he]
          have HR : Aside (OfV K' j (optR b (v0, v1, v2))) := hr
          have B2 : Aside (Below wr.heap.size wr w2) := B1.out.trans (hB.mono B1.out.size)
          have O2 : Aside (w2.heap[bs]? = some (.cells SV.toArray 75)) := (hB.block bs (blk_lt O1.out)).trans O1.out
          have X2 : Aside (w2.heap[wr.heap.size]? = some (.cells #[Value.int .i64 0, .int .i64 0, .int .i64 0] 36)) := (hB.block _ (blk_lt X1.out)).trans X1.out
          clear he hg hr hB
          refine hK.out _ _ (O2.out) (fun hHeld => ?_)
          clear hK K
          refine wpAnyH_take (i := 5) (v := .tuple #[.agg #[.int .i64 v0, .int .i64 v1, .int .i64 v2], .bool b]) rfl (by kernel_rfl) (by kernel_rfl) (by kernel_rfl) (fun _ _ _ h => h) (Or.inl ⟨by rfl, ?_⟩) hHeld ?_
          · intro W hW
            clear hW hHeld 
            go_simp
          simp only [Act.put, List.getElem_toArray, List.getElem_cons_zero, List.getElem_cons_succ, List.setIfInBounds_toArray, List.set_cons_zero, List.set_cons_succ]
          refine wpAnyH_take (i := 6) (v := .agg #[.int .i64 v0, .int .i64 v1, .int .i64 v2]) rfl (by kernel_rfl) (by kernel_rfl) (by kernel_rfl) (fun _ _ _ h => h) (Or.inl ⟨by rfl, ?_⟩) hHeld ?_
          · intro W hW
            clear hW hHeld 
            go_simp
          simp only [Act.put, List.getElem_toArray, List.getElem_cons_zero, List.getElem_cons_succ, List.setIfInBounds_toArray, List.set_cons_zero, List.set_cons_succ]
          refine wpAnyH_take (i := 7) (v := .bool b) rfl (by kernel_rfl) (by kernel_rfl) (by kernel_rfl) (fun _ _ _ h => h) (Or.inl ⟨by rfl, ?_⟩) hHeld ?_
          · intro W hW
            clear hW hHeld 
            go_simp
          simp only [Act.put, List.getElem_toArray, List.getElem_cons_zero, List.getElem_cons_succ, List.setIfInBounds_toArray, List.set_cons_zero, List.set_cons_succ]
          refine wpAnyH_ready (rs := [9]) (by kernel_rfl) (by simp) ?_
          refine AllReadyH.cons rfl (fun K hK => ?_) AllReadyH.nil
          obtain ⟨q0, q1, q2, f0, f1, f2⟩ := box3 X2.out
          go_simp
          have O4 : Aside ((((w2.setCell ⟨wr.heap.size, 0, none⟩ (.int .i64 v0)).setCell ⟨wr.heap.size, 1, none⟩ (.int .i64 v1)).setCell ⟨wr.heap.size, 2, none⟩ (.int .i64 v2)).heap[bs]? = some (.cells SV.toArray 75)) := (sets_other (W := w2) (b := bs) (c := wr.heap.size) (by have := LB.out; have := Nat.le_trans (Nat.le_refl wr.heap.size) (Nat.le_refl _); omega) [.int .i64 v0, .int .i64 v1, .int .i64 v2] 0).trans O2.out
          have W4 := wnt_of I1.out (below_sets (b := wr.heap.size) (Nat.le_refl _) [.int .i64 v0, .int .i64 v1, .int .i64 v2] 0 B2.out) (bw := wr.heap.size) (Nat.le_refl _) HR.out (blk_put (l := [Value.int .i64 0, .int .i64 0, .int .i64 0]) X2.out [.int .i64 v0, .int .i64 v1, .int .i64 v2] rfl)
          refine hK.out _ _ (O4.out) (fun hHeld => ?_)
          clear hK K
          refine wpAnyH_ready (rs := [10]) (by kernel_rfl) (by simp) ?_
          refine AllReadyH.cons rfl (fun K hK => ?_) AllReadyH.nil
          go_simp
          refine hK.out _ _ (O4.out) (fun hHeld => ?_)
          clear hK K
          refine wpAnyH_done (by kernel_rfl) ?_ _
          clear hHeld OB0
          go_wp2
          go_meet
          case rel => exact ⟨v0, v1, v2, b, _, rfl, rfl, W4⟩
      case rest =>
        clear OB0 O0 O0b LR HCH
        obtain ⟨v0, v1, v2, b, bw, rfl, rfl, W1⟩ := hcut
        obtain ⟨x0, x1, x2⟩ : (∀ m os, (grow (wc.drewN m) os).cell? ⟨bw, 0, none⟩ = some (.int .i64 v0)) ∧ (∀ m os, (grow (wc.drewN m) os).cell? ⟨bw, 1, none⟩ = some (.int .i64 v1)) ∧ (∀ m os, (grow (wc.drewN m) os).cell? ⟨bw, 2, none⟩ = some (.int .i64 v2)) := ⟨fun m os => (box3 (blk_gr W1.out.c ⟨m, os, rfl⟩)).1, fun m os => (box3 (blk_gr W1.out.c ⟨m, os, rfl⟩)).2.1, fun m os => (box3 (blk_gr W1.out.c ⟨m, os, rfl⟩)).2.2.1⟩
        have z1 : ∀ m os, (grow (wc.drewN m) os).cell? ⟨bi, j, none⟩ = some (.bool (D' j).is) := fun m os => by
          have h := (flat_cell (k := 1) (W1.out.gr ⟨m, os, rfl⟩).i.s.m.ci (fun _ _ => rfl) hj16 (j := 0) rfl).1
          rw [Nat.mul_one, Nat.add_zero] at h
          exact h
        obtain ⟨y0, y1, y2⟩ : (∀ m os, (grow (wc.drewN m) os).cell? ⟨bt, j * 3, none⟩ = some (.int .i64 (D' j).t.1)) ∧ (∀ m os, (grow (wc.drewN m) os).cell? ⟨bt, j * 3 + 1, none⟩ = some (.int .i64 (D' j).t.2.1)) ∧ (∀ m os, (grow (wc.drewN m) os).cell? ⟨bt, j * 3 + 2, none⟩ = some (.int .i64 (D' j).t.2.2)) := told_cells (fun m os => (W1.out.gr ⟨m, os, rfl⟩).i.s.m.ct) hj16
        obtain ⟨e0, e1, e2, e3⟩ : (∀ m os, (grow (wc.drewN m) os).cell? ⟨bd, 0, none⟩ = some (.int .u64 d0)) ∧ (∀ m os, (grow (wc.drewN m) os).cell? ⟨bd, 1, none⟩ = some (.int .u64 d1)) ∧ (∀ m os, (grow (wc.drewN m) os).cell? ⟨bd, 2, none⟩ = some (.int .u64 d2)) ∧ (∀ m os, (grow (wc.drewN m) os).cell? ⟨bd, 3, none⟩ = some (.int .u64 d3)) := dirt_cells (fun m os => ((W1.out.gr ⟨m, os, rfl⟩).i.k bd (blk_lt CK.out.e) CK.out.fd).trans CK.out.e)
        have h21 : ∀ m os, Calls P 21 #[.agg #[.int .u64 d0, .int .u64 d1, .int .u64 d2, .int .u64 d3], .int .i64 j] (grow (wc.drewN m) os) fun e w' => e = .returned (.bool (K.dt j)) ∧ Gr (grow (wc.drewN m) os) w' := fun m os => HC.out.has CK.out.b hj16 _
        have CKE : Aside (b = true → (D' j).is = true ∧ (K.dt j = false → (D' j).t = (v0, v1, v2))) := fun hb => by
          have h := W1.out.r
          rw [hb] at h
          exact ⟨W1.out.i.is h, fun hd => W1.out.i.check hj16 h hd⟩
        obtain ⟨t0, t1, t2, ht⟩ : ∃ t0 t1 t2, (D' j).t = (t0, t1, t2) := ⟨_, _, _, rfl⟩
        rw [ht] at CKE
        simp only [ht] at y0 y1 y2
        clear ht
        go_upto_region 33 with fail
        go_cut [149] from 119 to 188 (fun s149 wc => s149 = .bool false ∧ Aside (Wnt w W5 bh bi bt cb D K.dt Y0 j D' K' Y' v0 v1 v2 b bw wc))
        case first =>
          generalize (D' j).is = ib at z1 CKE
          generalize K.dt (j : Int) = db at h21 CKE
          cases ib with
          | false =>
            refine wp_region_quiet_grown (by assumption) (by kernel_rfl) ?_
            repeat (go_big_quiet_step (first | (go_at_fn 21; exact Calls.grown_of (h21 _ _))))
            refine wpQuiet_nil ?_
            rintro _ ⟨⟨nq, osq⟩, rfl⟩
            go_wp2
            go_meet
            case rel => exact ⟨rfl, W1.out.gr ⟨_, _, rfl⟩⟩
          | true =>
            cases b with
            | false =>
              refine wp_region_quiet_grown (by assumption) (by kernel_rfl) ?_
              repeat (go_big_quiet_step (first | (go_at_fn 21; exact Calls.grown_of (h21 _ _))))
              refine wpQuiet_nil ?_
              rintro _ ⟨⟨nq, osq⟩, rfl⟩
              go_wp2
              go_meet
              case rel => exact ⟨rfl, W1.out.gr ⟨_, _, rfl⟩⟩
            | true =>
              cases db with
              | true =>
                refine wp_region_quiet_grown (by assumption) (by kernel_rfl) ?_
                repeat (go_big_quiet_step (first | (go_at_fn 21; exact Calls.grown_of (h21 _ _))))
                refine wpQuiet_nil ?_
                rintro _ ⟨⟨nq, osq⟩, rfl⟩
                go_wp2
                go_meet
                case rel => exact ⟨rfl, W1.out.gr ⟨_, _, rfl⟩⟩
              | false =>
                have ht := (CKE.out rfl).2 rfl
                injection ht with ht0 ht
                injection ht with ht1 ht2
                subst ht0 ht1 ht2
                refine wp_region_quiet_grown (by assumption) (by kernel_rfl) ?_
                repeat (go_big_quiet_step (first | (go_at_fn 21; exact Calls.grown_of (h21 _ _))))
                refine wpQuiet_nil ?_
                rintro _ ⟨⟨nq, osq⟩, rfl⟩
                go_wp2
                go_meet
                case rel => exact ⟨rfl, W1.out.gr ⟨_, _, rfl⟩⟩
        case rest =>
          clear x0 x1 x2 z1 y0 y1 y2 e0 e1 e2 e3 h21
          obtain ⟨rfl, W2⟩ := hcut
          by_cases hi : i < al.length
          · have hiz : (i : Int) < (al.length : Int) := by omega
            have hge : ¬ ((al.length : Int) ≤ (i : Int)) := by omega
            obtain ⟨nn, hn⟩ : ∃ n, al[i]? = some n := ⟨_, List.getElem?_eq_getElem hi⟩
            obtain ⟨AB, AO, rfl, ca⟩ := u16_cell HA.out W2.out.i.s.m.b hn
            clear hn
            go_upto_region 36 with fail
            · go_roundg (16 - (j + 1))
              case measure => omega
              case rel => exact ⟨j + 1, D', K', Y', by first | rfl | go_num, by omega, Nat.le_refl _, (show InJ w W5 bh bi bt cb D K.dt Y0 (j + 1) D' K' Y' _ from W2.out.i.skip)⟩
            · rename_i hKK
              have HK2 : Aside _ := hKK
              clear ca hge hKK
              have hof := HC.out.of W2.out.i.s.h j
              go_wp2_with (go_at_fn 11; refine hof.mono ?_; rintro e w6 ⟨r, K2, rfl, hr, hh, ho, hsl, hkk, htt⟩; obtain ⟨g0, g1, g2, gb, he, rfl, hg⟩ := encR_form r; rw [he]; have N6 : Aside (Nxt w W5 bh bi bt cb D K.dt Y0 j D' K' Y' v0 v1 v2 b bw wc K2 g0 g1 g2 gb w6) := nxt_of W2.out hj16 hr hh ho hsl hkk htt hg; clear he hg hr hh ho hsl hkk htt hof)
              refine HK2.out _ _ ?_
              clear HK2
              go_upto_region 37 with fail
              have M7 := N6.out.gr ((Gr.refl w6).alloc (.cells [Value.int .i64 g0, .int .i64 g1, .int .i64 g2].toArray 36)) (blk_new w6 _)
              change Code.wp _ _ _ _ (w6.alloc (.cells [Value.int .i64 g0, .int .i64 g1, .int .i64 g2].toArray 36))
              generalize (w6.alloc (.cells [Value.int .i64 g0, .int .i64 g1, .int .i64 g2].toArray 36)) = w7 at M7 ⊢
              generalize w6.heap.size = bg at M7 ⊢
              have M8 : Aside (Nx2 w W5 bh bi bt cb D K.dt Y0 j D' K' Y' v0 v1 v2 b bw wc K2 g0 g1 g2 gb w6 bg w7) := M7
              obtain ⟨x0, x1, x2, _, _, _⟩ := box3 M7.c
              obtain ⟨y0, y1, y2, _, _, _⟩ := box3 M7.g
              have z1 : w7.cell? ⟨bi, j, none⟩ = some (.bool (D' j).is) := M7.is hj16
              obtain ⟨rfl, hgv⟩ := M7.eq
              have HGV : Aside (gb = true → (g0, g1, g2) = (v0, v1, v2)) := hgv
              clear M7 hgv N6
              go_cut [185] from 119 to 188 (fun s185 wc => s185 = .bool false ∧ wc = w7)
              case first =>
                generalize (D' j).is = ib at z1 CKE
                cases gb with
                | false =>
                  cases ib with
                  | false =>
                    go_wp2
                    go_meet
                    case rel => exact ⟨rfl, rfl⟩
                  | true =>
                    go_wp2
                    go_meet
                    case rel => exact ⟨rfl, rfl⟩
                | true =>
                  obtain rfl := (CKE.out rfl).1
                  have h := HGV.out rfl
                  injection h with h1 h
                  injection h with h2 h3
                  subst h1 h2 h3
                  go_wp2
                  go_meet
                  case rel => exact ⟨rfl, rfl⟩
              case rest =>
                clear x0 x1 x2 z1
                obtain ⟨rfl, rfl⟩ := hcut
                obtain ⟨t0, f0⟩ := M8.out.told hj16 0 (by decide) _ rfl
                obtain ⟨t1, f1⟩ := M8.out.told hj16 1 (by decide) _ rfl
                obtain ⟨t2, f2⟩ := M8.out.told hj16 2 (by decide) _ rfl
                rw [Nat.add_zero] at t0 f0
                have N9 := M8.out.n
                have N10 : Aside (InJ w W5 bh bi bt cb D K.dt Y0 (j + 1) (upS D' j (telS (D' j) (g0, g1, g2))) K2 (YN Y' _ w6) (((wc.setCell ⟨bt, j * 3, none⟩ (.int .i64 g0)).setCell ⟨bt, j * 3 + 1, none⟩ (.int .i64 g1)).setCell ⟨bt, j * 3 + 2, none⟩ (.int .i64 g2))) := N9
                clear N9
                go_wp2
                go_roundg (16 - (j + 1))
                case measure => omega
                case rel => exact ⟨j + 1, _, _, _, by first | rfl | go_num, by omega, Nat.le_refl _, N10⟩
          · have hge : (al.length : Int) ≤ (i : Int) := by omega
            go_wp2
            go_roundg (16 - (j + 1))
            case measure => omega
            case rel => exact ⟨j + 1, D', K', Y', by first | rfl | go_num, by omega, Nat.le_refl _, (show InJ w W5 bh bi bt cb D K.dt Y0 (j + 1) D' K' Y' _ from W2.out.i.skip)⟩
    · obtain rfl : j = 16 := by omega
      have hnot : ¬ ((16 : Int) < 16) := by decide
      go_wp2
      exact HKK.out _ _ _ _ _ _ _ _ _ _ _ _ _ _ _ _ _ _ _ _ _ _ _ _ _ _ _ _ _ _ _ _ _ _ _ _ _ _ _ _ _ _ _ _ _ _ _ _ _ _ _ _ _ _ _ _ _ _ _ _ _ _ _ _ _ _ _ _ _ _ _ _ _ _ _ _ D' K' Y' _ (show Ls w bh bi bt cb D' K' (tD D') Y' wr from I1.out.s)
end Go.Proofs.Yticgadnmlbfmfaa.cacheState
