/-
  Chapter 14: the answer's Effects, walked.
-/
import Derived.Test.YtgbhmkdldfhamaaTxJ
import Derived.StillTailTactics
import Derived.Shelf.SlSortCmp.QuietGrown
import Derived.Deep.DeepBigQuietO
namespace Go.Proofs.Ytgbhmkdldfhamaa.charsOf
open Go.Shelf Go.RowKit Go.Lib Go.Sort
/-- One effect onto a row of one's own. -/
theorem app_one {P : Program} {k32 k56 k54 k74 : Nat} {y56 y54 y74 : List Value} (L : LayD P k32 k56 k54 k74 y56 y54 y74) {W : World} {v : Value} {base : Nat} (X : List Ef) (a b c d : Int) (ho : (W.alloc (.cells #[.int .i64 a, .int .i64 b, .int .i64 c, .int .i64 d] 58)).ownsRow base 58 4 v X.length (flatE X)) (hb : base ≤ (W.alloc (.cells #[.int .i64 a, .int .i64 b, .int .i64 c, .int .i64 d] 58)).heap.size) (hl : X.length ≤ 4000000) :
    ∃ v' w', (Builtin.append_ #[40, 40] 40 #[v, .slice (some ⟨W.heap.size, 0, none⟩) 1 1]).run P (W.alloc (.cells #[.int .i64 a, .int .i64 b, .int .i64 c, .int .i64 d] 58)) = .ok v' w' ∧ w'.ownsRow base 58 4 v' (X ++ [(a, b, c, d)]).length (flatE (X ++ [(a, b, c, d)])) ∧ (W.alloc (.cells #[.int .i64 a, .int .i64 b, .int .i64 c, .int .i64 d] 58)).grownBy w' v.ownBlock :=
  app_seg L X ho hb (some ⟨W.heap.size, 0, none⟩) 1 1 [(a, b, c, d)] rfl (fun h => by cases h) (fun ad had jj u hu => by
    injection had with had
    subst had
    rw [Addr.add_lit, Nat.zero_add]
    simpa [encE, flatE] using hu) (by simp only [List.length_singleton]; omega)
/-- append, as one step of a region in any order. -/
theorem readyH_app {P : Program} {ops : Array Oper} {o : Oper} {a : Act} {w : World} {K : Act → World → Prop} {Q : Exit → Act → World → Prop} (s x : Operand) (ats : Array TypeId)
    (ho : o.op = .call { callee := .builtin .append, args := #[s, x], argTypes := ats }) (hgd : o.guard = none) (v xv : Value) (hs : a.eval s = v) (hx : a.eval x = xv) (v' : Value) (w' : World) (hr : (Builtin.append_ ats o.type #[v, xv]).run P w = .ok v' w')
    (h : K (a.put o.dst v') w') : if Region.wanted o (yielded ops a.tmps) = true then Oper.wp P o a w K Q else K (a.put o.dst undef) w := by
  rw [if_pos (by simp only [Region.wanted, hgd])]
  unfold Oper.wp execOp
  simp only [ho, resolve, invoke, builtin, Sem.run_bind, Sem.run_pure, Result.andThen_ok, List.map_toArray, List.map_cons, List.map_nil, hs, hx, hr]
  exact h
/-- What is held while effects are gathered. -/
structure Ri (w : World) (b4 b7 bs : Nat) (SL Ob : List Value) (lv : Value) (l : List Ef) (W : World) : Prop where
  b : Below w.heap.size w W
  c4 : W.heap[b4]? = some (.cells SL.toArray 32)
  c7 : W.heap[b7]? = some (.cells Ob.toArray 56)
  o : W.ownsRow bs 58 4 lv l.length (flatE l)
  h4 : b4 < bs
  h7 : b7 < bs
  hN : w.heap.size ≤ bs
  hs : bs ≤ W.heap.size
theorem Ri.gr {w : World} {b4 b7 bs : Nat} {SL Ob : List Value} {lv : Value} {l : List Ef} {W W' : World} (h : Ri w b4 b7 bs SL Ob lv l W) (g : Gr W W') : Ri w b4 b7 bs SL Ob lv l W' :=
  ⟨gr_below h.b (by have := h.hN; have := h.hs; omega) g, blk_gr h.c4 g, blk_gr h.c7 g, h.o.kept (gr_grown g) (by cases hv : lv.ownBlock <;> simp), h.h4, h.h7, h.hN, Nat.le_trans h.hs (Gr.le g)⟩
theorem Ri.app {w : World} {b4 b7 bs : Nat} {SL Ob : List Value} {lv lv' : Value} {l l' : List Ef} {W W' : World} (h : Ri w b4 b7 bs SL Ob lv l W) (g : W.grownBy W' lv.ownBlock) (o : W'.ownsRow bs 58 4 lv' l'.length (flatE l')) : Ri w b4 b7 bs SL Ob lv' l' W' := by
  have hl := h.o.lt
  have hN := h.hN
  have k1 : ∀ k o, k < bs → W.heap[k]? = some o → W'.heap[k]? = some o := fun k o hk ho => by
    rw [g.block k (blk_lt ho) fun e => by have := (hl k e.symm).1; omega]
    exact ho
  exact ⟨h.b.grown g (by have := h.hs; omega) fun k hk => by have := (hl k hk).1; omega, k1 _ _ h.h4 h.c4, k1 _ _ h.h7 h.c7, o, h.h4, h.h7, hN, Nat.le_trans h.hs g.size⟩
/-- The same, and the card's box. -/
structure Rc (w : World) (b4 b7 bs nb : Nat) (SL Ob Cd : List Value) (lv : Value) (l : List Ef) (W : World) : Prop where
  r : Ri w b4 b7 bs SL Ob lv l W
  c : W.heap[nb]? = some (.cells Cd.toArray 54)
  g : ∀ k, lv.ownBlock = some k → k ≠ nb
theorem Rc.gr {w : World} {b4 b7 bs nb : Nat} {SL Ob Cd : List Value} {lv : Value} {l : List Ef} {W W' : World} (h : Rc w b4 b7 bs nb SL Ob Cd lv l W) (g : Gr W W') : Rc w b4 b7 bs nb SL Ob Cd lv l W' := ⟨h.r.gr g, blk_gr h.c g, h.g⟩
theorem Rc.app {w : World} {b4 b7 bs nb : Nat} {SL Ob Cd : List Value} {lv lv' : Value} {l l' : List Ef} {W W' : World} (h : Rc w b4 b7 bs nb SL Ob Cd lv l W) (g : W.grownBy W' lv.ownBlock) (o : W'.ownsRow bs 58 4 lv' l'.length (flatE l')) : Rc w b4 b7 bs nb SL Ob Cd lv' l' W' := by
  have c' : W'.heap[nb]? = some (.cells Cd.toArray 54) := by
    rw [g.block nb (blk_lt h.c) fun e => h.g nb e.symm rfl]
    exact h.c
  refine ⟨h.r.app g o, c', fun k hk e => ?_⟩
  subst e
  rcases o.2 with ⟨rfl, _⟩ | ⟨g', cap, cur, rfl, _, hg, _⟩
  · cases hk
  · simp only [Value.ownBlock, Option.some.injEq] at hk
    subst hk
    rw [c'] at hg
    injection hg with hg
    injection hg with _ hg
    cases hg
/-- What an effect is read of. -/
structure Rz (w : World) (b4 nx : Nat) (SL Aj : List Value) (W : World) : Prop where
  b : Below w.heap.size w W
  c4 : W.heap[b4]? = some (.cells SL.toArray 32)
  x : W.heap[nx]? = some (.cells Aj.toArray 74)
/-- What is asked of the callees, and of the data. -/
structure RfIn (P : Program) (k56 k54 k74 : Nat) (w : World) (ca : Option Addr) (cn cc : Nat) (SL Ob : List Value) (fi : Int → Int) (oB oO on : Nat) (Xo Cp : Nat → List Value) (sm : Nat → Bool) (st : Nat → Int) (aa : Nat → Option Addr) (an ac : Nat → Nat) (ab : Nat → Nat → List Value) (kd wh op va vb : Nat → Nat → Int) (fb : Nat → Nat → Bool) : Prop where
  f32 : ∀ n W, Below w.heap.size w W → Calls P 32 #[.agg SL.toArray, .int .i64 n] W fun e w' => e = .returned (.int .i64 (fi n)) ∧ Gr W w'
  lt : ∀ n, fi n < on
  f33 : ∀ p, p < on → ∀ W, Below w.heap.size w W → Calls P 33 #[.slice ca cn cc, .agg (Xo p).toArray] W fun e w' => e = .returned (.tuple #[.agg (Cp p).toArray, .bool (sm p)]) ∧ Gr W w'
  hX : ∀ p, p < on → (Xo p).length = k56
  lX : ∀ p, p < on → ∀ W, Below w.heap.size w W → Sem.run P (loadCellsFrom ⟨oB, oO + p * k56, none⟩ 0 k56 #[]) W = .ok (Xo p).toArray W
  hst : ∀ p, p < on → ∀ W, Below w.heap.size w W → W.cell? ⟨oB, oO + p * k56 + 9, none⟩ = some (.int .i64 (st p))
  hC : ∀ p, p < on → (Cp p).length = k54
  oC : ∀ p, p < on → ∀ v ∈ Cp p, v.oneCell' = true
  ha : ∀ p, p < on → sm p = true → (Cp p)[10]? = some (.slice (aa p) (an p) (ac p))
  han : ∀ p, p < on → an p ≤ 1000
  hk : ∀ p j, p < on → sm p = true → j < an p → (ab p j).length = k74 ∧ (ab p j)[0]? = some (.int .i64 (kd p j)) ∧ (ab p j)[2]? = some (.int .i64 (wh p j)) ∧ (ab p j)[10]? = some (.int .i64 (op p j)) ∧ (ab p j)[11]? = some (.int .i64 (va p j)) ∧ (ab p j)[12]? = some (.int .i64 (vb p j))
  oA : ∀ p j, p < on → sm p = true → j < an p → ∀ v ∈ ab p j, v.oneCell' = true
  la : ∀ p j, p < on → sm p = true → j < an p → ∃ ad, aa p = some ad ∧ ∀ W, Below w.heap.size w W → Sem.run P (loadCellsFrom (ad.add (j * k74)) 0 k74 #[]) W = .ok (ab p j).toArray W
  f34 : ∀ p j, p < on → sm p = true → j < an p → ∀ W, Below w.heap.size w W → Calls P 34 #[.int .i64 (wh p j), .agg (Xo p).toArray, .agg Ob.toArray] W fun e w' => e = .returned (.bool (fb p j)) ∧ Gr W w'
/-- What an object adds. -/
def rcon (sm : Nat → Bool) (st : Nat → Int) (an : Nat → Nat) (kd op va vb : Nat → Nat → Int) (fb : Nat → Nat → Bool) (p : Nat) : List Ef := if sm p = true then adds (fun j => if kd p j = 4 ∧ fb p j = true then some (op p j, va p j, vb p j, st p) else none) (an p) else []
theorem rcon_le {on : Nat} {sm : Nat → Bool} {st : Nat → Int} {an : Nat → Nat} {kd op va vb : Nat → Nat → Int} {fb : Nat → Nat → Bool} (h : ∀ p, p < on → an p ≤ 1000) (p : Nat) (hp : p < on) : (rcon sm st an kd op va vb fb p).length ≤ 1000 := by
  unfold rcon
  split
  · exact Nat.le_trans (adds_le _ _) (h p hp)
  · simp
theorem gath_len' {fi : Int → Int} {con : Nat → List Ef} {on : Nat} (hlt : ∀ n, fi n < on) (h : ∀ p, p < on → (con p).length ≤ 1000) (fs : List Int) : (gath fi con fs).length ≤ fs.length * 1000 := by
  induction fs with
  | nil => simp [gath]
  | cons n fs ih =>
    unfold gath at ih ⊢
    rw [List.flatMap_cons, List.length_append, List.length_cons]
    have : (if 0 ≤ fi n then con (fi n).toNat else []).length ≤ 1000 := by
      split
      · exact h _ (by have := hlt n; omega)
      · simp
    omega
set_option maxHeartbeats 16000000 in
set_option maxRecDepth 1000000 in
theorem ref_some {P : Program} {k32 k56 k54 k74 : Nat} {y56 y54 y74 : List Value} (L : LayD P k32 k56 k54 k74 y56 y54 y74) (R : LayR P) (hy6 : y56.length = k56) (hy4 : y54.length = k54) (hy7 : y74.length = k74) (h35 : ∀ op W, Calls P 35 #[.int .i64 op] W fun e w' => e = .returned (.int .i64 (lyr op)) ∧ w' = W) (ca : Option Addr) (cn cc : Nat) (SL : List Value) (hS : SL.length = k32) (oB oO on oc : Nat) (q1 : SL[1]? = some (.slice (some ⟨oB, oO, none⟩) on oc)) (fa : Option Addr) (fs : List Int) (fc : Nat) (q6 : SL[6]? = some (.slice fa fs.length fc)) (id : Int) (w : World)
    (Ob : List Value) (hO : Ob.length = k56) (oO' : ∀ v ∈ Ob, v.oneCell' = true)
    (h22 : ∀ W, Gr w W → Calls P 22 #[.slice ca cn cc, .agg SL.toArray, .int .i64 id] W fun e w' => e = .returned (.tuple #[.agg Ob.toArray, .bool true]) ∧ Gr W w')
    (fi : Int → Int) (Xo Cp : Nat → List Value) (sm : Nat → Bool) (st : Nat → Int) (aa : Nat → Option Addr) (an ac : Nat → Nat) (ab : Nat → Nat → List Value) (kd wh op va vb : Nat → Nat → Int) (fb : Nat → Nat → Bool) (I : RfIn P k56 k54 k74 w ca cn cc SL Ob fi oB oO on Xo Cp sm st aa an ac ab kd wh op va vb fb) (hfn : fs.length ≤ 900)
    (hfs : ∀ i, i < fs.length → ∃ B O, fa = some ⟨B, O, none⟩ ∧ ∀ W, Below w.heap.size w W → W.cell? ⟨B, O + i, none⟩ = some (.int .i64 fs[i]!))
    (ea : Option Addr) (effs : List Ef) (ec : Nat) (q13 : Ob[13]? = some (.slice ea effs.length ec)) (hen : effs.length ≤ 1000) (hea : ea = none → effs = [])
    (hef : ∀ ad, ea = some ad → ∀ W, Below w.heap.size w W → ∀ j u, (flatE effs)[j]? = some u → W.cell? (ad.add j) = some u) :
    Calls P 14 #[.slice ca cn cc, .agg SL.toArray, .int .i64 id] w fun e w' => ∃ a c S, e = .returned (.slice a (List.length S) c) ∧ Stb (ltOf cmpE) ((gath fi (rcon sm st an kd op va vb fb) fs ++ effs).filter hasL) S ∧ Srt (ltOf cmpE) S ∧ Below w.heap.size w w' ∧ (S = [] ∨ ∃ g, a = some ⟨g, 0, none⟩ ∧ g < w'.heap.size ∧ HoldsK encE 4 w' g 0 S.toArray) := by
  have mixed := L.c.mixed; have t3 := L.c.t3; have a3 := L.c.a3; have z3 := L.c.z3; have t4 := L.c.t4; have a4 := L.c.a4; have z4 := L.c.z4; have a56 := L.c.a56; have z56 := L.c.z56; have qu56 := run_underlying L.c.t56; have qu54 := run_underlying L.c.t54; have t22 := L.c.t22; have a22 := L.c.a22; have z22 := L.c.z22; have a54 := L.c.a54; have z54 := L.c.z54; have qu74 := run_underlying L.t74; have a74 := L.a74; have z74 := L.z74; have v74 := L.v74; have t52 := L.t52; have a52 := L.a52; have z52 := L.z52; have qu58 := run_underlying L.t58; have a58 := L.a58; have z58 := L.z58; have v58 := L.v58; have t24 := L.c.t24; have a24 := L.c.a24; have z24 := L.c.z24; have t26 := L.c.t26; have a26 := L.c.a26; have z26 := L.c.z26; have qu32 := run_underlying L.c.t32; have a32 := L.c.a32; have z32 := L.c.z32; have v56 := L.c.v56; have v54 := L.c.v54; have t40 := L.c.t40; have a40 := L.c.a40; have z40 := L.c.z40; have qu40 := run_underlying L.c.t40; have t69 := R.t69; have z9 := R.z9; have z51 := R.z51
  have e22 := R.e22; have e32 := R.e32; have e33 := R.e33; have e34 := R.e34; have e35 := R.e35
  have g0 : Gr w (w.alloc (.cells SL.toArray 32)) := (Gr.refl _).alloc _
  have l4 := hold_ld P (hold_new w SL 32) hS
  have G0 : Aside _ := g0
  have H22 : Aside _ := h22
  have II : Aside _ := I
  have HFS : Aside _ := hfs
  have HEF : Aside _ := hef
  have HEA : Aside _ := hea
  have H35 : Aside _ := h35
  clear h22 g0 I hfs hef hea h35
  go_enter R.f14, Try.ntmps14
  go_upto_region 4 with (first | (go_at_fn 22; refine (H22.out _ G0.out).mono ?_; rintro e w1 ⟨rfl, hG⟩; have sA := hold_st P (hold_new w1 y56 56) Ob (hO.trans hy6.symm) oO'; have g7 : Gr w1 ((w1.alloc (.cells y56.toArray 56)).setCells w1.heap.size 0 Ob) := Gr.sets (W := w1) _ (Nat.le_refl _) _ _ ((Gr.refl _).alloc _); have b7 := blk_put (blk_new w1 (.cells y56.toArray 56)) Ob (hO.trans hy6.symm); have n7 : w.heap.size < w1.heap.size := (by have := Gr.le hG; simp at this; omega); have b4 := blk_gr (blk_gr (blk_new w (.cells SL.toArray 32)) hG) g7; have GG : Aside _ := Gr.trans (Gr.trans G0.out hG) g7; have B47 : Aside _ := (And.intro b4 (And.intro b7 n7)); clear hG g7 b7 b4))
  obtain ⟨b4, b7, n7'⟩ := B47.out
  have R0 : Aside _ := (show Ri w w.heap.size w1.heap.size (w1.heap.size + 1) SL Ob (.slice none 0 0) [] ((w1.alloc (.cells y56.toArray 56)).setCells w1.heap.size 0 Ob) from ⟨gr_below (.refl _ _) (Nat.le_refl _) GG.out, b4, b7, World.ownsRow_nil _ _ _ _, by omega, by omega, by omega, by simp⟩)
  clear b4 b7 n7' B47 GG sA H22 G0 l4
  generalize (w1.alloc (.cells y56.toArray 56)).setCells w1.heap.size 0 Ob = W at R0 ⊢
  generalize w1.heap.size = b7 at R0 ⊢
  have c6 := hold_cell (blk_hold R0.out.c4) q6
  generalize hcon : rcon sm st an kd op va vb fb = con
  have HCON : Hid _ := hcon
  have hcl : ∀ p, p < on → (con p).length ≤ 1000 := by rw [← hcon]; exact rcon_le II.out.han
  have HCL : Aside _ := hcl
  clear hcon hcl
  go_wp2
  go_loopg [9, 10] fs.length (fun kx s9 s10 wr => ∃ (i : Nat) (lv : Value), lv = s9 ∧ s10 = .int .i64 i ∧ i ≤ fs.length ∧ fs.length - i ≤ kx ∧ Aside (Ri w w.heap.size b7 (b7 + 1) SL Ob lv (gath fi con (fs.take i)) wr))
  case atStart => exact ⟨0, _, rfl, rfl, Nat.zero_le _, Nat.le_refl _, R0⟩
  case round =>
    clear R0 c6
    obtain ⟨i, lv, rfl, rfl, hid, hkx, A1⟩ := hrel
    have wj : IntKind.i64.wrap ((i : Int) + 1) = (i : Int) + 1 := by rw [IntKind.wrap_i64]; omega
    have c6 := hold_cell (blk_hold A1.out.c4) q6
    by_cases hlt : i < fs.length
    · have hltz : (i : Int) < (fs.length : Int) := by omega
      obtain ⟨fB, fO, rfl, hfc⟩ := HFS.out i hlt
      have cF : wr.cell? ⟨fB, fO + i, none⟩ = some (.int .i64 fs[i]!) := hfc _ A1.out.b
      clear hfc
      have hT : fs.take (i + 1) = fs.take i ++ [fs[i]!] := by rw [List.take_succ_eq_append_getElem hlt, getElem!_pos fs i hlt]
      have hGs := gath_snoc fi con (fs.take i) fs[i]!
      rw [← hT] at hGs
      have hLn : (gath fi con (fs.take i)).length ≤ 900000 := Nat.le_trans (gath_len' II.out.lt HCL.out _) (by rw [List.length_take]; omega)
      obtain ⟨n, hn⟩ : ∃ n, n = fs[i]! := ⟨_, rfl⟩
      rw [← hn] at cF hGs
      have HGS : Hid _ := hGs
      have HLN : Aside _ := hLn
      clear hn hT hGs hLn
      have l4 : Sem.run P (loadCellsFrom ⟨w.heap.size, 0, none⟩ 0 k32 #[]) wr.drew = .ok SL.toArray wr.drew := hold_ld P (blk_hold (A1.out.gr ((Gr.refl wr).drew)).c4) hS
      have h32 := fun W h => II.out.f32 n W h
      have hfl := II.out.lt n
      obtain ⟨f, hf⟩ : ∃ f, f = fi n := ⟨_, rfl⟩
      rw [← hf] at h32 hfl
      have HFI : Hid (f = fi n) := hf
      have H32 : Aside _ := h32
      clear hf h32
      go_wp2
      go_still_tail 6, mixed
      change wpList _ _ _ _ _ wr.drew
      have A2 : Aside _ := A1.out.gr ((Gr.refl wr).drew)
      clear A1 cF l4 c6
      generalize wr.drew = wr1 at A2 ⊢
      by_cases hf0 : 0 ≤ f
      · obtain ⟨p, rfl⟩ : ∃ p : Nat, f = p := ⟨f.toNat, by omega⟩
        have hfd : decide ((p : Int) < 0) = false := decide_eq_false (by omega)
        have hpz : (p : Int) < (on : Int) := hfl
        have hpn : p < on := by omega
        have hG2 : Hid (gath fi con (fs.take (i + 1)) = gath fi con (fs.take i) ++ con p) := by
          show _ = _
          rw [HGS.out, ← HFI.out, if_pos hf0, Int.toNat_natCast]
        clear HFI HGS hf0
        have hCp := II.out.hC p hpn
        have hXp := II.out.hX p hpn
        go_upto_region 11 with (first
          | (go_at_fn 32; refine (H32.out _ A2.out.b).mono ?_; rintro e w3 ⟨rfl, hG⟩; have A3 : Aside _ := A2.out.gr hG; have c1 := hold_cell (blk_hold A3.out.c4) q1; have lX := II.out.lX p hpn w3 A3.out.b; clear hG)
          | (go_at_fn 33; refine (II.out.f33 p hpn _ A3.out.b).mono ?_; rintro e w4 ⟨rfl, hG⟩; have A4 : Aside _ := A3.out.gr hG; have sC := hold_st P (hold_new w4 y54 54) (Cp p) ((II.out.hC p hpn).trans hy4.symm) (II.out.oC p hpn); clear hG c1 lX))
        have g5 : Gr w4 ((w4.alloc (.cells y54.toArray 54)).setCells w4.heap.size 0 (Cp p)) := Gr.sets (W := w4) _ (Nat.le_refl _) _ _ ((Gr.refl _).alloc _)
        have b12 := blk_put (blk_new w4 (.cells y54.toArray 54)) (Cp p) ((II.out.hC p hpn).trans hy4.symm)
        have C0 : Aside _ := (show Rc w w.heap.size b7 (b7 + 1) w4.heap.size SL Ob (Cp p) lv (gath fi con (fs.take i)) ((w4.alloc (.cells y54.toArray 54)).setCells w4.heap.size 0 (Cp p)) from ⟨A4.out.gr g5, b12, fun k hk e => by have := (A4.out.o.lt k hk).2; omega⟩)
        clear g5 b12 sC A2 A3 A4 H32
        generalize (w4.alloc (.cells y54.toArray 54)).setCells w4.heap.size 0 (Cp p) = wq at C0 ⊢
        generalize w4.heap.size = nb at C0 ⊢
        generalize hE : (fun j => if kd p j = 4 ∧ fb p j = true then some (op p j, va p j, vb p j, st p) else none) = ef
        have hcp : con p = if sm p = true then adds ef (an p) else [] := by rw [← HCON.out, ← hE]; rfl
        obtain ⟨b, hb⟩ : ∃ b, sm p = b := ⟨_, rfl⟩
        rw [hb] at hcp ⊢
        have HE : Hid _ := hE
        have HCP : Hid _ := hcp
        have HB : Hid _ := hb
        clear hE hcp hb
        generalize hG : gath fi con (fs.take i) = G at C0 hG2 HLN
        clear hG
        have han := II.out.han p hpn
        go_wp2
        go_loopg [9, 14] (an p) (fun kj s9 s14 wr2 => ∃ (j : Nat) (lv' : Value), lv' = s9 ∧ s14 = .int .i64 j ∧ an p - j ≤ kj ∧ Hid ((b = true → j ≤ an p) ∧ (b = false → j = 0)) ∧ Aside (Rc w w.heap.size b7 (b7 + 1) nb SL Ob (Cp p) lv' (G ++ adds ef j) wr2))
        case atStart => exact ⟨0, _, rfl, rfl, Nat.le_refl _, ⟨fun _ => Nat.zero_le _, fun _ => rfl⟩, by rw [show adds ef 0 = [] from rfl, List.append_nil]; exact C0⟩
        case round =>
          clear C0
          obtain ⟨j, lv', rfl, rfl, hkj, HJ, C1⟩ := hrel
          cases b with
          | false =>
            obtain rfl : j = 0 := HJ.out.2 rfl
            have hE2 : G ++ adds ef 0 = G ++ con p := by
              rw [HCP.out, if_neg (by simp)]
              rfl
            have HE2 : Hid _ := hE2
            clear hE2
            go_wp2
            go_roundg (fs.length - (i + 1))
            case measure => omega
            case rel => exact ⟨i + 1, lv', rfl, by first | rfl | go_num, by omega, Nat.le_refl _, by rw [hG2.out, ← HE2.out]; exact C1.out.r⟩
          | true =>
            have hjn := HJ.out.1 rfl
            have hcA := hold_cell (blk_hold C1.out.c) (II.out.ha p hpn HB.out)
            have wjj : IntKind.i64.wrap ((j : Int) + 1) = (j : Int) + 1 := by rw [IntKind.wrap_i64]; omega
            by_cases hja : j < an p
            · have hjz : (j : Int) < (an p : Int) := by omega
              obtain ⟨ad, had, hld⟩ := II.out.la p j hpn HB.out hja
              rw [had] at hcA
              obtain ⟨k0, k1, k2, k3, k4, k5⟩ := II.out.hk p j hpn HB.out hja
              have lA := hld wr C1.out.r.b
              have hn0 := hold_new wr y74 74
              have sA := hold_st P hn0 (ab p j) (by rw [k0, hy7]) (II.out.oA p j hpn HB.out hja)
              have bx := blk_put (blk_new wr (.cells y74.toArray 74)) (ab p j) (by rw [k0, hy7])
              have G1 : Gr wr ((wr.alloc (.cells y74.toArray 74)).setCells wr.heap.size 0 (ab p j)) := Gr.sets (W := wr.alloc (.cells y74.toArray 74)) _ (Nat.le_refl _) _ 0 ((Gr.refl wr).alloc _)
              have C2 : Aside _ := C1.out.gr G1
              have BX : Aside _ := bx
              clear hld had hn0 bx G1
              go_upto_region 15 with fail
              have hnx : wr.heap.size < ((wr.alloc (.cells y74.toArray 74)).setCells wr.heap.size 0 (ab p j)).heap.size := blk_lt BX.out
              have HNB : Aside (∀ k, lv'.ownBlock = some k → k ≠ wr.heap.size) := fun k hk e => by have := (C1.out.r.o.lt k hk).2; omega
              clear sA lA hcA C1
              generalize (wr.alloc (.cells y74.toArray 74)).setCells wr.heap.size 0 (ab p j) = W1 at C2 BX hnx ⊢
              generalize wr.heap.size = nx at BX hnx HNB ⊢
              have HNX : Aside _ := hnx
              clear hnx
              have b0 : ∀ m os, (grow (W1.drewN m) os).cell? ⟨nx, 0, none⟩ = some (.int .i64 (kd p j)) := fun m os => hold_cell (blk_hold (blk_gr BX.out ⟨m, os, rfl⟩)) k1
              have b2 : ∀ m os, (grow (W1.drewN m) os).cell? ⟨nx, 2, none⟩ = some (.int .i64 (wh p j)) := fun m os => hold_cell (blk_hold (blk_gr BX.out ⟨m, os, rfl⟩)) k2
              have c1 : ∀ m os, (grow (W1.drewN m) os).cell? ⟨w.heap.size, 1, none⟩ = some (.slice (some ⟨oB, oO, none⟩) on oc) := fun m os => hold_cell (blk_hold (C2.out.gr ⟨m, os, rfl⟩).r.c4) q1
              have lX : ∀ m os, Sem.run P (loadCellsFrom ⟨oB, oO + p * k56, none⟩ 0 k56 #[]) (grow (W1.drewN m) os) = .ok (Xo p).toArray (grow (W1.drewN m) os) := fun m os => II.out.lX p hpn _ (C2.out.gr ⟨m, os, rfl⟩).r.b
              have lB : ∀ m os, Sem.run P (loadCellsFrom ⟨b7, 0, none⟩ 0 k56 #[]) (grow (W1.drewN m) os) = .ok Ob.toArray (grow (W1.drewN m) os) := fun m os => hold_ld P (blk_hold (C2.out.gr ⟨m, os, rfl⟩).r.c7) hO
              have hf := II.out.f34 p j hpn HB.out hja
              have HEF : Hid (ef j = if kd p j = 4 ∧ fb p j = true then some (op p j, va p j, vb p j, st p) else none) := by rw [← HE.out]; rfl
              have KK : Aside _ := And.intro k3 (And.intro k4 k5)
              clear k1 k2 k3 k4 k5
              generalize kd p j = kj at b0 HEF
              generalize wh p j = wj' at b2 hf
              generalize fb p j = fj at hf HEF
              by_cases hk4 : kj = 4
              · subst hk4
                refine wp_region_quiet_grown (by assumption) (by kernel_rfl) ?_
                repeat (go_big_quiet_step (first | (go_at_fn 34; exact Calls.grown_of (hf _ (C2.out.gr ⟨_, _, rfl⟩).r.b))))
                refine wpQuiet_nil ?_
                rintro _ ⟨⟨nq, osq⟩, rfl⟩
                have C3 : Aside _ := C2.out.gr ⟨nq, osq, rfl⟩
                have BX3 : Aside _ := blk_gr BX.out ⟨nq, osq, rfl⟩
                clear lX lB b0 b2 c1 hf C2 BX
                generalize grow (W1.drewN nq) osq = W2 at C3 BX3 ⊢
                clear nq osq
                cases fj with
                | false =>
                  have er : adds ef (j + 1) = adds ef j := by rw [adds_succ, HEF.out, if_neg (by simp)]; simp
                  have ER : Hid _ := er
                  clear er HEF
                  go_wp2
                  go_roundg (an p - (j + 1))
                  case measure => omega
                  case rel => exact ⟨j + 1, lv', rfl, by first | rfl | go_num, Nat.le_refl _, ⟨fun _ => by omega, fun h => by cases h⟩, by rw [ER.out]; exact C3⟩
                | true =>
                  have er : G ++ adds ef (j + 1) = G ++ adds ef j ++ [(op p j, va p j, vb p j, st p)] := by rw [adds_succ, HEF.out, if_pos ⟨rfl, rfl⟩, ← List.append_assoc]; rfl
                  have ER : Hid _ := er
                  have hle : (G ++ adds ef j).length ≤ 1000000 := by rw [List.length_append]; have := adds_le ef j; have := HLN.out; omega
                  have HLE : Aside _ := hle
                  clear er HEF hle
                  go_upto_region 16 with fail
                  have O1 : Rz w w.heap.size nx SL (ab p j) W2.drew := ⟨(C3.out.gr ((Gr.refl W2).drew)).r.b, (C3.out.gr ((Gr.refl W2).drew)).r.c4, blk_gr BX3.out ((Gr.refl W2).drew)⟩
                  have C4 := C3.out.gr ((Gr.refl W2).drew)
                  have B4 := blk_gr BX3.out ((Gr.refl W2).drew)
                  have g5 : Gr W2.drew (W2.drew.alloc (.cells #[.int .i64 (op p j), .int .i64 (va p j), .int .i64 (vb p j), .int .i64 (st p)] 58)) := (Gr.refl W2.drew).alloc _
                  have C5 := C4.gr g5
                  have B5 := blk_gr B4 g5
                  have O5 : Rz w w.heap.size nx SL (ab p j) (W2.drew.alloc (.cells #[.int .i64 (op p j), .int .i64 (va p j), .int .i64 (vb p j), .int .i64 (st p)] 58)) := ⟨C5.r.b, C5.r.c4, B5⟩
                  obtain ⟨v5, w5, hr5, ho5, hg5⟩ := app_one L (G ++ adds ef j) (op p j) (va p j) (vb p j) (st p) C5.r.o C5.r.hs (by have := HLE.out; omega)
                  have C6 : Aside _ := C5.app hg5 ho5
                  have O6 : Aside _ := (show Rz w w.heap.size nx SL (ab p j) w5 from ⟨C6.out.r.b, C6.out.r.c4, by
                    rw [hg5.block nx (blk_lt B5) fun e => HNB.out nx e.symm rfl]
                    exact B5⟩)
                  have O5' : Aside _ := O5
                  clear C3 BX3 C4 B4 C5 B5 hg5 ho5 g5 O5
                  refine wp_region_held_drew (S := Rz w w.heap.size nx SL (ab p j)) mixed O1 (fun hHeld => ?_)
                  refine wpAnyH_take (i := 0) (v := lv') rfl (by kernel_rfl) (by kernel_rfl) (by kernel_rfl) (fun _ _ _ h => h) (Or.inl ⟨by rfl, ?_⟩) hHeld ?_
                  · intro W hW
                    clear hW hHeld O1 hr5
                    go_simp
                  simp only [Act.put, List.setIfInBounds_toArray]
                  refine wpAnyH_take (i := 1) (v := .pointer (some ⟨nx, 10, none⟩)) rfl (by kernel_rfl) (by kernel_rfl) (by kernel_rfl) (fun _ _ _ h => h) (Or.inl ⟨by rfl, ?_⟩) hHeld ?_
                  · intro W hW
                    clear hW hHeld O1 hr5
                    go_simp
                  simp only [Act.put]
                  refine wpAnyH_take (i := 2) (v := .int .i64 (op p j)) rfl (by kernel_rfl) (by kernel_rfl) (by kernel_rfl) (fun _ _ _ h => h) (Or.inl ⟨by rfl, ?_⟩) hHeld ?_
                  · intro W hW
                    have c := hold_cell (blk_hold hW.x) KK.out.1
                    clear hW hHeld O1 hr5
                    go_simp
                  simp only [Act.put]
                  refine wpAnyH_take (i := 3) (v := .pointer (some ⟨nx, 11, none⟩)) rfl (by kernel_rfl) (by kernel_rfl) (by kernel_rfl) (fun _ _ _ h => h) (Or.inl ⟨by rfl, ?_⟩) hHeld ?_
                  · intro W hW
                    clear hW hHeld O1 hr5
                    go_simp
                  simp only [Act.put]
                  refine wpAnyH_take (i := 4) (v := .int .i64 (va p j)) rfl (by kernel_rfl) (by kernel_rfl) (by kernel_rfl) (fun _ _ _ h => h) (Or.inl ⟨by rfl, ?_⟩) hHeld ?_
                  · intro W hW
                    have c := hold_cell (blk_hold hW.x) KK.out.2.1
                    clear hW hHeld O1 hr5
                    go_simp
                  simp only [Act.put]
                  refine wpAnyH_take (i := 5) (v := .pointer (some ⟨nx, 12, none⟩)) rfl (by kernel_rfl) (by kernel_rfl) (by kernel_rfl) (fun _ _ _ h => h) (Or.inl ⟨by rfl, ?_⟩) hHeld ?_
                  · intro W hW
                    clear hW hHeld O1 hr5
                    go_simp
                  simp only [Act.put]
                  refine wpAnyH_take (i := 6) (v := .int .i64 (vb p j)) rfl (by kernel_rfl) (by kernel_rfl) (by kernel_rfl) (fun _ _ _ h => h) (Or.inl ⟨by rfl, ?_⟩) hHeld ?_
                  · intro W hW
                    have c := hold_cell (blk_hold hW.x) KK.out.2.2
                    clear hW hHeld O1 hr5
                    go_simp
                  simp only [Act.put]
                  refine wpAnyH_take (i := 7) (v := .pointer (some ⟨w.heap.size, 1, none⟩)) rfl (by kernel_rfl) (by kernel_rfl) (by kernel_rfl) (fun _ _ _ h => h) (Or.inl ⟨by rfl, ?_⟩) hHeld ?_
                  · intro W hW
                    clear hW hHeld O1 hr5
                    go_simp
                  simp only [Act.put]
                  refine wpAnyH_take (i := 8) (v := .slice (some ⟨oB, oO, none⟩) on oc) rfl (by kernel_rfl) (by kernel_rfl) (by kernel_rfl) (fun _ _ _ h => h) (Or.inl ⟨by rfl, ?_⟩) hHeld ?_
                  · intro W hW
                    have c := hold_cell (blk_hold hW.c4) q1
                    clear hW hHeld O1 hr5
                    go_simp
                  simp only [Act.put]
                  refine wpAnyH_take (i := 9) (v := .int .i64 p) rfl (by kernel_rfl) (by kernel_rfl) (by kernel_rfl) (fun _ _ _ h => h) (Or.inl ⟨by rfl, ?_⟩) hHeld ?_
                  · intro W hW
                    clear hW hHeld O1 hr5
                    go_simp
                  simp only [Act.put]
                  refine wpAnyH_take (i := 10) (v := .pointer (some ⟨oB, oO + p * k56, none⟩)) rfl (by kernel_rfl) (by kernel_rfl) (by kernel_rfl) (fun _ _ _ h => h) (Or.inl ⟨by rfl, ?_⟩) hHeld ?_
                  · intro W hW
                    clear hW hHeld O1 hr5
                    go_simp
                  simp only [Act.put]
                  refine wpAnyH_take (i := 11) (v := .pointer (some ⟨oB, oO + p * k56 + 9, none⟩)) rfl (by kernel_rfl) (by kernel_rfl) (by kernel_rfl) (fun _ _ _ h => h) (Or.inl ⟨by rfl, ?_⟩) hHeld ?_
                  · intro W hW
                    clear hW hHeld O1 hr5
                    go_simp
                  simp only [Act.put]
                  refine wpAnyH_take (i := 12) (v := .int .i64 (st p)) rfl (by kernel_rfl) (by kernel_rfl) (by kernel_rfl) (fun _ _ _ h => h) (Or.inl ⟨by rfl, ?_⟩) hHeld ?_
                  · intro W hW
                    have c := II.out.hst p hpn W hW.b
                    clear hW hHeld O1 hr5
                    go_simp
                  simp only [Act.put]
                  refine wpAnyH_take (i := 13) (v := .agg #[.int .i64 (op p j), .int .i64 (va p j), .int .i64 (vb p j), .int .i64 (st p)]) rfl (by kernel_rfl) (by kernel_rfl) (by kernel_rfl) (fun _ _ _ h => h) (Or.inl ⟨by rfl, ?_⟩) hHeld ?_
                  · intro W hW
                    clear hW hHeld O1 hr5
                    go_simp
                  simp only [Act.put]
                  refine wpAnyH_ready (rs := [14]) (by kernel_rfl) (by simp) ?_
                  refine AllReadyH.cons rfl (fun K hK => ?_) AllReadyH.nil
                  go_simp
                  refine hK.out _ _ O5'.out (fun hHeld => ?_)
                  clear hK K
                  refine wpAnyH_ready (rs := [15]) (by kernel_rfl) (by simp) ?_
                  refine AllReadyH.cons rfl (fun K hK => ?_) AllReadyH.nil
                  refine readyH_app (.tmp 86) (.tmp 100) #[40, 40] rfl rfl lv' (.slice (some ⟨W2.drew.heap.size, 0, none⟩) 1 1) rfl rfl v5 w5 hr5 ?_
                  refine hK.out _ _ O6.out (fun hHeld => ?_)
                  clear hK K
                  refine wpAnyH_ready (rs := [16]) (by kernel_rfl) (by simp) ?_
                  refine AllReadyH.cons rfl (fun K hK => ?_) AllReadyH.nil
                  go_simp
                  refine hK.out _ _ O6.out (fun hHeld => ?_)
                  clear hK K
                  refine wpAnyH_done (by kernel_rfl) ?_ _
                  go_wp2
                  go_roundg (an p - (j + 1))
                  case measure => omega
                  case rel => exact ⟨j + 1, v5, rfl, by first | rfl | go_num, Nat.le_refl _, ⟨fun _ => by omega, fun h => by cases h⟩, by rw [ER.out]; exact C6⟩
              · have hkb : (kj == 4) = false := by simp [hk4]
                have er : adds ef (j + 1) = adds ef j := by rw [adds_succ, HEF.out, if_neg (by rintro ⟨h, _⟩; exact hk4 h)]; simp
                have ER : Hid _ := er
                clear er hk4
                refine wp_region_quiet_grown (by assumption) (by kernel_rfl) ?_
                repeat (go_big_quiet_step (first | (go_at_fn 34; exact Calls.grown_of (hf _ (C2.out.gr ⟨_, _, rfl⟩).r.b))))
                refine wpQuiet_nil ?_
                rintro _ ⟨⟨nq, osq⟩, rfl⟩
                have C3 : Aside _ := C2.out.gr ⟨nq, osq, rfl⟩
                have BX3 : Aside _ := blk_gr BX.out ⟨nq, osq, rfl⟩
                clear lX lB b0 b2 c1 hf C2 BX
                generalize grow (W1.drewN nq) osq = W2 at C3 BX3 ⊢
                clear nq osq
                go_wp2
                go_roundg (an p - (j + 1))
                case measure => omega
                case rel => exact ⟨j + 1, lv', rfl, by first | rfl | go_num, Nat.le_refl _, ⟨fun _ => by omega, fun h => by cases h⟩, by rw [ER.out]; exact C3⟩
            · have hjz : ¬ (j : Int) < (an p : Int) := by omega
              obtain rfl : j = an p := by omega
              have hE2 : G ++ adds ef (an p) = G ++ con p := by rw [HCP.out, if_pos rfl]
              have HE2 : Hid _ := hE2
              clear hE2
              go_wp2
              go_roundg (fs.length - (i + 1))
              case measure => omega
              case rel => exact ⟨i + 1, lv', rfl, by first | rfl | go_num, by omega, Nat.le_refl _, by rw [hG2.out, ← HE2.out]; exact C1.out.r⟩
      · have hfd : decide (f < 0) = true := decide_eq_true (by omega)
        have hG2 : Hid (gath fi con (fs.take (i + 1)) = gath fi con (fs.take i)) := by
          show _ = _
          rw [HGS.out, ← HFI.out, if_neg hf0, List.append_nil]
        clear HFI HGS
        go_wp2_with (first | (go_at_fn 32; refine (H32.out _ A2.out.b).mono ?_; rintro e w2 ⟨rfl, hG⟩; have A3 : Aside _ := A2.out.gr hG; clear hG))
        go_roundg (fs.length - (i + 1))
        case measure => omega
        case rel => exact ⟨i + 1, lv, rfl, by first | rfl | go_num, by omega, Nat.le_refl _, by rw [hG2.out]; exact A3⟩
    · have hltz : ¬ (i : Int) < (fs.length : Int) := by omega
      obtain rfl : i = fs.length := by omega
      have hT := A1.out
      rw [List.take_length] at hT
      clear A1
      have c13 := hold_cell (blk_hold hT.c7) q13
      have hgl := gath_len' (fi := fi) II.out.lt HCL.out fs
      have hl0 : (gath fi con fs).length + effs.length ≤ 1000000 := by omega
      obtain ⟨v', w3, hr, ho', hg'⟩ := app_seg L (gath fi con fs) hT.o hT.hs ea effs.length ec effs rfl HEA.out (fun ad h => HEF.out ad h wr hT.b) (by omega)
      have hN := hT.hN
      have hs := hT.hs
      have b3 : Below w.heap.size w w3 := hT.b.grown hg' (by omega) fun k hk => by have := (hT.o.lt k hk).1; omega
      have B3 : Aside _ := b3
      have HO' : Aside _ := ho'
      have HL0 : Aside _ := hl0
      clear hT ho' hg' b3 hgl hN hs hl0
      go_upto_region 17 with fail
      rename_i hKK
      have HKK : Aside _ := hKK
      clear hKK
      go_wp2_with (first | (at_builtin; refine wpList_app_run rfl _ _ #[40, 40] rfl lv (.slice ea effs.length ec) rfl rfl _ w3 hr ?_))
      refine HKK.out _ _ ?_
      refine ph3_ok (by kernel_rfl) L R H35.out v' (gath fi con fs ++ effs) (b7 + 1) w3 HO'.out (by rw [List.length_append]; exact HL0.out) _ _ _ _ _ _ _ _ _ _ _ _ _ _ _ _ _ _ _ _ _ _ _ _ _ _ _ _ _ _ _ _ _ _ _ _ _ _ _ _ _ _ _ _ _ _ _ _ _ _ _ _ _ _ _ _ _ _ _ _ _ _ _ _ _ _ _ _ _ _ _ _ _ _ _ _ _ _ _ _ _ _ _ _ _ _ _ _ _ _ _ _ _ _ _ _ _ _ _ _ _ _ _ _ _ _ _ _ _ _ _ _ _ _ _ _ _ _ _ _ _ _ _ _ _ _ _ _ _ _ _ _ _ _ _ _ _ _ _ _ _ _ _ _ _ _ _ _ _ _ _ _ _ _ _ _ _ _ _ _ _ _ _ _ _ ?_
      intro a c S W k1 k2 k3 k4
      refine ⟨a, c, S, rfl, ?_, k1, B3.out.trans (k3.mono B3.out.size), k4⟩
      rw [HCON.out]
      exact k2
end Go.Proofs.Ytgbhmkdldfhamaa.charsOf
/-
  Chapter 14: the walked functions, of this program.
-/
namespace Go.Proofs.Ytgbhmkdldfhamaa.charsOf
open Go.Shelf Go.RowKit Go.Lib Go.Sort
/-- An ability. -/
structure Av where
  kd : Int
  wh : Int
  op : Int
  va : Int
  vb : Int
  r : Nat → Value
def Av.arr (a : Av) : Array Value := #[.int .i64 a.kd, a.r 1, .int .i64 a.wh, a.r 3, a.r 4, a.r 5, a.r 6, a.r 7, a.r 8, a.r 9, .int .i64 a.op, .int .i64 a.va, .int .i64 a.vb]
def zA : List Value := [.int .i64 0, .int .i64 0, .int .i64 0, .int .i64 0, .int .i64 0, .int .i64 0, .int .i64 0, .bool false, .slice none 0 0, .slice none 0 0, .int .i64 0, .int .i64 0, .int .i64 0]
theorem layD : LayD Try.prog 25 14 11 13 zO.arr.toList zC.arr.toList zA where
  c := layC
  f24 := Try.func24
  e25 := enters_of Try.func25 (by kernel_rfl) rfl
  t74 := Try.underlying74
  a74 := Try.isAgg74
  z74 := Try.sizeOf74
  v74 := Try.zeroValue74
  t52 := Try.underlying52
  a52 := Try.isAgg52
  z52 := Try.sizeOf52
  t71 := Try.underlying71
  a71 := Try.isAgg71
  z71 := Try.sizeOf71
  v71 := Try.zeroValue71
  t58 := Try.underlying58
  a58 := Try.isAgg58
  z58 := Try.sizeOf58
  v58 := Try.zeroValue58
  i58 := by
    have h : (Try.prog.info? 58).map (fun i => (i.zero, i.size, i.bytes)) = some (some (.agg #[.int .i64 0, .int .i64 0, .int .i64 0, .int .i64 0]), 4, 32) := by kernel_rfl
    cases hi : Try.prog.info? 58 with
    | none => rw [hi] at h; cases h
    | some i =>
      rw [hi] at h
      injection h with h
      injection h with h1 h2
      injection h2 with h2 h3
      exact ⟨i, rfl, h1, h2, h3⟩
theorem layE : LayE Try.prog where
  e13 := enters_of Try.func13 (by kernel_rfl) rfl
  e18 := enters_of Try.func18 (by kernel_rfl) rfl
  t36 := Try.underlying36
  a36 := Try.isAgg36
  z36 := Try.sizeOf36
  v36 := Try.zeroValue36
theorem layR : LayR Try.prog where
  z9 := Try.sizeOf9
  z51 := Try.sizeOf51
  z52 := Try.sizeOf52
  t69 := Try.underlying69
  f11 := Try.func11
  f14 := Try.func14
  f22 := Try.func22
  f32 := Try.func32
  f33 := Try.func33
  e14 := enters_of Try.func14 (by kernel_rfl) rfl
  e22 := enters_of Try.func22 (by kernel_rfl) rfl
  e23 := enters_of Try.func23 (by kernel_rfl) rfl
  e32 := enters_of Try.func32 (by kernel_rfl) rfl
  e33 := enters_of Try.func33 (by kernel_rfl) rfl
  e34 := enters_of Try.func34 (by kernel_rfl) rfl
  e35 := enters_of Try.func35 (by kernel_rfl) rfl
theorem idx_none (w : World) : Calls Try.prog 42 #[.slice none 0 0, .func (.func 28) #[] #[]] w fun e w' => e = .returned (.int .i64 (-1)) ∧ w' = w := by
  go_enter Try.func42, Try.ntmps42
  go_wp2
  go_loopg [8] 0 (fun kx s8 wr => s8 = .int .i64 0 ∧ wr = w)
  case atStart => exact ⟨rfl, rfl⟩
  case round =>
    obtain ⟨rfl, rfl⟩ := hrel
    go_wp2
    go_returns
    exact ⟨rfl, rfl⟩
theorem del_none (w : World) : Calls Try.prog 27 #[.slice none 0 0, .func (.func 28) #[] #[]] w fun e w' => e = .returned (.slice none 0 0) ∧ w' = w := by
  have hc := idx_none w
  go_enter Try.func27, Try.ntmps27
  go_wp2_with (go_at_call 42; refine hc.mono ?_; rintro e w1 ⟨rfl, rfl⟩)
  go_returns
  exact ⟨rfl, rfl⟩
theorem tailT : Tail Try.prog where
  d0 := del_none
  d := fun g cap d W hH hg hs hc => del_calls g 0 cap d W hH hg hs hc
  s0 := fun rv W => sorts_none rv none 0 W
  s := fun rv g cap d W hH hg hs => (sorts_calls rv g 0 cap d W hH hg hs).mono fun e w' ⟨h1, d', h2, h3, h4⟩ => by
    have hz : d'.size = d.size := h2.sz
    have h5 := h2.st
    rw [seg_all] at h5
    rw [← hz] at h5
    rw [seg_all] at h5
    refine ⟨h1, d', hz, h5, ?_, swk_below h4 hg, h4.holds hg hH hz⟩
    refine List.pairwise_iff_getElem.2 fun i j hi hj hij => ?_
    have := h3 i j (Nat.zero_le _) hij (by rw [← hz]; simpa using hj)
    rw [getElem!_pos d' i (by simpa using hi), getElem!_pos d' j (by simpa using hj)] at this
    simpa using this
theorem rlayers (op : Int) (W : World) : Calls Try.prog 35 #[.int .i64 op] W fun e w' => e = .returned (.int .i64 (lyr op)) ∧ w' = W := rlayer_calls op W
end Go.Proofs.Ytgbhmkdldfhamaa.charsOf
/-
  Chapter 14: the walked functions, of a state in memory.
-/
namespace Go.Proofs.Ytgbhmkdldfhamaa.charsOf
open Go.Shelf Go.RowKit Go.Lib Go.Sort
instance : Inhabited Av := ⟨⟨0, 0, 0, 0, 0, fun _ => .int .i64 0⟩⟩
theorem Stb.len {l m : List Ef} (h : Stb (ltOf cmpE) l m) : l.length = m.length := by
  refine List.Perm.length_eq (List.perm_iff_count.2 fun a => ?_)
  have k : ∀ l : List Ef, l.count a = (l.filter (eqv (ltOf cmpE) a)).count a := fun l => by
    rw [List.count_filter]
    rw [eqv_cmpE]
    exact ⟨rfl, rfl⟩
  rw [k l, k m, h a]
/-- Cards and a state in memory: each card's abilities, each object's effects. -/
structure Dw (w : World) (cs : List Cv) (ca : Option Addr) (s : Sv) (A : Nat → List Av) (E : Nat → List Ef) : Prop where
  ok : s.OK w
  hC : Rows w ca 11 (cs.map Cv.arr)
  nf : s.fs.length ≤ 900
  hA : ∀ i (h : i < cs.length), (A i).length = cs[i].an ∧ cs[i].an ≤ 1000 ∧ Rows w cs[i].aa 13 ((A i).map Av.arr) ∧ ∀ a ∈ A i, ∀ v ∈ a.arr.toList, v.oneCell' = true
  hE : ∀ i (h : i < s.os.length), (E i).length = s.os[i].en ∧ s.os[i].en ≤ 1000 ∧ Rows w s.os[i].ea 4 ((E i).map fun x => (encE x).toArray)
theorem Rows.below {w w' : World} {a : Option Addr} {k : Nat} {l : List (Array Value)} (h : Rows w a k l) (b : Below w.heap.size w w') : Rows w' a k l := h.later b.size fun _ hp => b.cell hp
theorem Dw.below {w w' : World} {cs : List Cv} {ca : Option Addr} {s : Sv} {A : Nat → List Av} {E : Nat → List Ef} (h : Dw w cs ca s A E) (b : Below w.heap.size w w') : Dw w' cs ca s A E :=
  ⟨⟨h.ok.o.below b, h.ok.f.below b, h.ok.lo, h.ok.lf⟩, h.hC.below b, h.nf, fun i hi => ⟨(h.hA i hi).1, (h.hA i hi).2.1, (h.hA i hi).2.2.1.below b, (h.hA i hi).2.2.2⟩, fun i hi => ⟨(h.hE i hi).1, (h.hE i hi).2.1, (h.hE i hi).2.2.below b⟩⟩
theorem Dw.gr {w w' : World} {cs : List Cv} {ca : Option Addr} {s : Sv} {A : Nat → List Av} {E : Nat → List Ef} (h : Dw w cs ca s A E) (g : Gr w w') : Dw w' cs ca s A E := h.below (gr_below (.refl _ _) (Nat.le_refl _) g)
/-- Whether an object has a card. -/
def smE (cs : List Cv) (s : Sv) (p : Nat) : Bool := decide (0 ≤ (s.os[p]!).card ∧ (s.os[p]!).card < cs.length)
def cdE (s : Sv) (p : Nat) : Nat := (s.os[p]!).card.toNat
/-- What an object adds. -/
def conE (cs : List Cv) (s : Sv) (A : Nat → List Av) (b : Ov) : Nat → List Ef := rcon (smE cs s) (fun p => (s.os[p]!).st) (fun p => (cs[cdE s p]!).an) (fun p j => ((A (cdE s p))[j]!).kd) (fun p j => ((A (cdE s p))[j]!).op) (fun p j => ((A (cdE s p))[j]!).va) (fun p j => ((A (cdE s p))[j]!).vb) (fun p j => fitB ((A (cdE s p))[j]!).wh (s.os[p]!).id (s.os[p]!).ctrl b.id b.ctrl)
/-- All that acts on a beast. -/
def allE (cs : List Cv) (s : Sv) (A : Nat → List Av) (E : Nat → List Ef) (id : Int) : List Ef := gath s.find (conE cs s A (bst cs s id).1) s.fs ++ E (s.find id).toNat
section
variable {w : World} {cs : List Cv} {ca : Option Addr} {s : Sv} {A : Nat → List Av} {E : Nat → List Ef}
theorem Dw.an (D : Dw w cs ca s A E) (i : Nat) : (cs[i]!).an ≤ 1000 := by
  rcases Nat.lt_or_ge i cs.length with h | h
  · rw [getElem!_pos cs i h]
    exact (D.hA i h).2.1
  · rw [getElem!_neg cs i (by omega)]
    decide
theorem Sv.find_lt (s : Sv) (n : Int) : s.find n < (s.os.length : Int) := by
  have := (@fnd_lt n (s.os.map Ov.id) 0).1
  rw [List.length_map] at this
  unfold Sv.find
  omega
theorem Dw.obj (D : Dw w cs ca s A E) {p : Nat} (hp : p < s.os.length) : ∃ B O, s.oa = some ⟨B, O, none⟩ ∧ Sem.run Try.prog (loadCellsFrom ⟨B, O + p * 14, none⟩ 0 14 #[]) w = .ok (s.os[p]!).arr w ∧ w.cell? ⟨B, O + p * 14 + 9, none⟩ = some (.int .i64 (s.os[p]!).st) := by
  obtain ⟨B, O, ho, _, ha⟩ := D.ok.o.obj hp
  have hr := D.ok.o
  rw [ho] at hr
  have := hr.ld Try.prog (i := p) (x := s.os[p].arr) (by simp [hp]) rfl
  rw [Addr.add_lit] at this
  rw [getElem!_pos s.os p hp]
  exact ⟨B, O, ho, this, ha.c9⟩
theorem Dw.card (D : Dw w cs ca s A E) {i : Nat} (hi : i < cs.length) : ∃ B O, ca = some ⟨B, O, none⟩ ∧ Sem.run Try.prog (loadCellsFrom ⟨B, O + i * 11, none⟩ 0 11 #[]) w = .ok (cs[i]!).arr w ∧ w.cell? ⟨B, O + i * 11 + 10, none⟩ = some (.slice (cs[i]!).aa (cs[i]!).an (cs[i]!).ac) := by
  obtain ⟨B, O, ho, _, ha⟩ := D.hC.card hi
  have hr := D.hC
  rw [ho] at hr
  have := hr.ld Try.prog (i := i) (x := cs[i].arr) (by simp [hi]) rfl
  rw [Addr.add_lit] at this
  rw [getElem!_pos cs i hi]
  exact ⟨B, O, ho, this, ha.c10⟩
theorem Dw.abil (D : Dw w cs ca s A E) {i : Nat} (hi : i < cs.length) {j : Nat} (hj : j < (cs[i]!).an) : ∃ ad, (cs[i]!).aa = some ad ∧ Sem.run Try.prog (loadCellsFrom (ad.add (j * 13)) 0 13 #[]) w = .ok ((A i)[j]!).arr w ∧ ∀ v ∈ ((A i)[j]!).arr.toList, v.oneCell' = true := by
  obtain ⟨h1, _, h3, h4⟩ := D.hA i hi
  rw [getElem!_pos cs i hi] at hj ⊢
  have hj' : j < (A i).length := by omega
  rw [getElem!_pos (A i) j hj']
  have hx : ((A i).map Av.arr)[j]? = some ((A i)[j]).arr := by simp [hj']
  rcases h3 with h | ⟨B, O, e, hb, h⟩
  · rw [h] at hx
    simp at hx
  · refine ⟨_, e, ?_, h4 _ (List.getElem_mem hj')⟩
    have : Rows w (some ⟨B, O, none⟩) 13 ((A i).map Av.arr) := .inr ⟨B, O, rfl, hb, h⟩
    exact this.ld Try.prog hx rfl
theorem Dw.field (D : Dw w cs ca s A E) {i : Nat} (hi : i < s.fs.length) : ∃ B O, s.fa = some ⟨B, O, none⟩ ∧ w.cell? ⟨B, O + i, none⟩ = some (.int .i64 s.fs[i]!) := by
  rcases D.ok.f with h | ⟨B, O, e, hb, h⟩
  · rw [List.map_eq_nil_iff.1 h] at hi
    simp at hi
  · refine ⟨B, O, e, ?_⟩
    have := h i #[.int .i64 s.fs[i]] (by simp [hi]) 0 _ rfl
    rw [getElem!_pos s.fs i hi]
    simpa using this
theorem Dw.effs (D : Dw w cs ca s A E) {i : Nat} (hi : i < s.os.length) : (E i).length = (s.os[i]!).en ∧ (s.os[i]!).en ≤ 1000 ∧ ((s.os[i]!).ea = none → E i = []) ∧ ∀ ad, (s.os[i]!).ea = some ad → ∀ j u, (flatE (E i))[j]? = some u → w.cell? (ad.add j) = some u := by
  obtain ⟨h1, h2, h3⟩ := D.hE i hi
  rw [getElem!_pos s.os i hi]
  refine ⟨h1, h2, fun hn => ?_, fun ad had j u hu => ?_⟩
  · rcases h3 with h | ⟨B, O, e, _⟩
    · exact List.map_eq_nil_iff.1 h
    · rw [hn] at e
      cases e
  · rcases h3 with h | ⟨B, O, e, hb, h⟩
    · rw [List.map_eq_nil_iff.1 h] at hu
      simp [flatE] at hu
    · rw [had] at e
      injection e with e
      subst e
      have hj : j < (flatE (E i)).length := (List.getElem?_eq_some_iff.1 hu).1
      rw [flatE_len] at hj
      have hk : j / 4 < (E i).length := by omega
      have := flatE_get (E i) (j / 4) hk (j % 4) (by omega)
      rw [show j / 4 * 4 + j % 4 = j by omega, hu] at this
      have := h (j / 4) (encE (E i)[j / 4]).toArray (by simp [hk]) (j % 4) u (by simpa using this.symm)
      rw [Addr.add_lit]
      rwa [show O + j / 4 * 4 + j % 4 = O + j by omega] at this
theorem smE_iff {p : Nat} : smE cs s p = true ↔ 0 ≤ (s.os[p]!).card ∧ (s.os[p]!).card < cs.length := by simp [smE]
theorem card_le (D : Dw w cs ca s A E) (b : Ov) (p : Nat) : (conE cs s A b p).length ≤ 1000 := by
  unfold conE
  exact rcon_le (on := p + 1) (fun _ _ => D.an _) p (Nat.lt_succ_self _)
theorem all_le (D : Dw w cs ca s A E) (id : Int) (h : (bst cs s id).2.2 = true) : (allE cs s A E id).length ≤ 1000000 := by
  unfold allE
  rw [List.length_append]
  have h1 := gath_len' (fi := s.find) (con := conE cs s A (bst cs s id).1) (on := s.os.length) s.find_lt (fun p _ => card_le D _ p) s.fs
  have h2 := D.nf
  have h3 : (E (s.find id).toNat).length ≤ 1000 := by
    have hf : ¬ (s.find id < 0) := fun hn => by
      rw [bst, if_pos (.inl hn)] at h
      cases h
    have hl := s.find_lt id
    have := D.effs (i := (s.find id).toNat) (by omega)
    omega
  omega
end
end Go.Proofs.Ytgbhmkdldfhamaa.charsOf
/-
  Chapter 14: the walked functions, of a state in memory: what each tells.
-/
namespace Go.Proofs.Ytgbhmkdldfhamaa.charsOf
open Go.Shelf Go.RowKit Go.Lib Go.Sort
variable {w : World} {cs : List Cv} {ca : Option Addr} {s : Sv} {A : Nat → List Av} {E : Nat → List Ef}
theorem find_below (D : Dw w cs ca s A E) (n : Int) (W : World) (b : Below w.heap.size w W) : Calls Try.prog 26 #[.agg s.arr, .int .i64 n] W fun e w' => e = .returned (.int .i64 (s.find n)) ∧ Gr W w' := find_calls s n W (D.below b).ok
theorem act_calls (D : Dw w cs ca s A E) (cc : Nat) (b : Ov) (p : Nat) (_hp : p < s.os.length) (b3 b7 bl : Nat) (W : World) (lv : Value) (l : List Ef) (_h3 : b3 < bl) (h7 : b7 < bl) (hN : w.heap.size ≤ bl) (hB : Below w.heap.size w W) (c3 : W.heap[b3]? = some (.cells #[.slice ca cs.length cc] 22)) (c7 : W.heap[b7]? = some (.cells b.arr 56)) (cl : W.heap[bl]? = some (.cells #[lv] 71)) (ho : W.ownsRow (bl + 1) 58 4 lv l.length (flatE l)) (hl : l.length ≤ 999000) :
    Calls Try.prog 24 #[.agg (s.os[p]!).arr, .pointer (some ⟨b3, 0, none⟩), .pointer (some ⟨b7, 0, none⟩), .pointer (some ⟨bl, 0, none⟩)] W fun e w' => e = .returned (.tuple #[]) ∧ ∃ lv', Below bl W w' ∧ w'.heap[bl]? = some (.cells #[lv'] 71) ∧ w'.ownsRow (bl + 1) 58 4 lv' (l ++ conE cs s A b p).length (flatE (l ++ conE cs s A b p)) := by
  have D1 := D.below hB
  have k3 := hold_cell (blk_hold (l := [.slice ca cs.length cc]) c3) (j := 0) rfl
  cases hs : smE cs s p with
  | false =>
    have hz : (s.os[p]!).card < 0 ∨ (cs.length : Int) ≤ (s.os[p]!).card := by
      by_cases h : 0 ≤ (s.os[p]!).card ∧ (s.os[p]!).card < cs.length
      · rw [smE_iff.2 h] at hs
        cases hs
      · omega
    have hc : conE cs s A b p = [] := by
      unfold conE rcon
      rw [if_neg (by rw [hs]; exact Bool.false_ne_true)]
    rw [hc, List.append_nil]
    refine (act_none layD b3 b7 bl (s.os[p]!).arr.toList (s.os[p]!).card rfl ca cs.length cc W k3 lv l.length (flatE l) cl ho hz).mono ?_
    rintro e w' ⟨h1, h2, h4, h5⟩
    exact ⟨h1, lv, h2, h4, h5⟩
  | true =>
    obtain ⟨z1, z2⟩ := smE_iff.1 hs
    have hcd : ((cdE s p : Nat) : Int) = (s.os[p]!).card := by unfold cdE; omega
    have hcl : cdE s p < cs.length := by omega
    obtain ⟨B, O, rfl, _, _⟩ := D1.card hcl
    have ho1 : ∀ W', Below bl W W' → Dw W' cs (some ⟨B, O, none⟩) s A E := fun W' k => D.below (hB.trans (k.mono hN))
    have := act_some layD rfl b3 b7 bl h7 (s.os[p]!).arr.toList rfl (cdE s p) (s.os[p]!).st (by rw [hcd]; rfl) rfl b.arr.toList rfl B O cs.length cc W k3 (blk_hold (l := b.arr.toList) c7) lv l cl ho hcl (cs[cdE s p]!).aa (cs[cdE s p]!).an (cs[cdE s p]!).ac (fun W' k => by
        obtain ⟨B', O', e, _, h⟩ := (ho1 W' k).card hcl
        injection e with e
        injection e with e1 e2
        subst e1 e2
        exact h) (fun j => ((A (cdE s p))[j]!).arr.toList) (fun j => ((A (cdE s p))[j]!).kd) (fun j => ((A (cdE s p))[j]!).wh) (fun j => ((A (cdE s p))[j]!).op) (fun j => ((A (cdE s p))[j]!).va) (fun j => ((A (cdE s p))[j]!).vb) (fun j => fitB ((A (cdE s p))[j]!).wh (s.os[p]!).id (s.os[p]!).ctrl b.id b.ctrl)
      (fun j _ => ⟨rfl, rfl, rfl, rfl, rfl, rfl⟩) (fun j hj => by
        obtain ⟨_, _, _, h⟩ := D1.abil hcl hj
        exact h) (fun j hj => by
        obtain ⟨ad, e, _, _⟩ := D1.abil hcl hj
        refine ⟨ad, e, fun W' k => ?_⟩
        obtain ⟨ad', e', h, _⟩ := (ho1 W' k).abil hcl hj
        rw [e] at e'
        injection e' with e'
        subst e'
        simpa using h) (fun j _ W' => fits_calls _ (s.os[p]!) b W') (by have := D.an (cdE s p); omega)
    unfold conE rcon
    rw [if_pos hs]
    exact this
theorem efIn (D : Dw w cs ca s A E) (cc : Nat) (b : Ov) : EfIn Try.prog 14 w ca cs.length cc s.arr.toList b.arr.toList s.find s.os.length (fun p => (s.os[p]!).arr.toList) (conE cs s A b) where
  e24 := enters_of Try.func24 (by kernel_rfl) rfl
  e27 := enters_of Try.func27 (by kernel_rfl) rfl
  e30 := enters_of Try.func30 (by kernel_rfl) rfl
  f26 := fun n W h => find_below D n W h
  lt := s.find_lt
  act := fun p hp b3 b7 bl W lv l h3 h7 hN hB c3 c7 cl ho hl => act_calls D cc b p hp b3 b7 bl W lv l h3 h7 hN hB c3 (by simpa using c7) cl ho hl
  con := card_le D b
  hX := fun p _ => rfl
theorem rcard_calls (D : Dw w cs ca s A E) (cc : Nat) (p : Nat) (W : World) (hB : Below w.heap.size w W) : Calls Try.prog 33 #[.slice ca cs.length cc, .agg (s.os[p]!).arr] W fun e w' => e = .returned (.tuple #[.agg (if smE cs s p = true then cs[cdE s p]! else zC).arr, .bool (smE cs s p)]) ∧ Gr W w' := by
  have D1 := D.below hB
  cases hs : smE cs s p with
  | false =>
    have hz : (s.os[p]!).card < 0 ∨ (cs.length : Int) ≤ (s.os[p]!).card := by
      by_cases h : 0 ≤ (s.os[p]!).card ∧ (s.os[p]!).card < cs.length
      · rw [smE_iff.2 h] at hs
        cases hs
      · omega
    rw [if_neg Bool.false_ne_true]
    exact rcard_none layC layR rfl zC.one (s.os[p]!).arr.toList (s.os[p]!).card rfl ca cs.length cc W hz
  | true =>
    obtain ⟨z1, z2⟩ := smE_iff.1 hs
    have hcd : ((cdE s p : Nat) : Int) = (s.os[p]!).card := by unfold cdE; omega
    have hcl : cdE s p < cs.length := by omega
    obtain ⟨B, O, rfl, _, _⟩ := D1.card hcl
    rw [if_pos rfl]
    exact rcard_some layC layR rfl (s.os[p]!).arr.toList (cdE s p) (by rw [hcd]; rfl) B O cs.length cc hcl (cs[cdE s p]!).arr.toList rfl (cs[cdE s p]!).one W (fun W' k => by
      obtain ⟨B', O', e, h, _⟩ := (D1.gr k).card hcl
      injection e with e
      injection e with e1 e2
      subst e1 e2
      simpa using h)
theorem rfind_below (D : Dw w cs ca s A E) (n : Int) (W : World) (hB : Below w.heap.size w W) : Calls Try.prog 32 #[.agg s.arr, .int .i64 n] W fun e w' => e = .returned (.int .i64 (s.find n)) ∧ Gr W w' := by
  have := rfind_calls layC layR.f32 s.arr.toList s.oa (s.os.map Ov.id) s.oc (by rw [List.length_map]; rfl) (by rw [List.length_map]; exact D.ok.lo) n W (fun i hi => by
    rw [List.length_map] at hi
    obtain ⟨B, O, ho, _, _⟩ := (D.below hB).ok.o.obj hi
    refine ⟨B, O, ho, fun W' k => ?_⟩
    obtain ⟨B', O', ho', _, h⟩ := ((D.below hB).gr k).ok.o.obj hi
    rw [ho] at ho'
    injection ho' with e
    injection e with e1 e2
    subst e1 e2
    rw [h.c0, getElem!_pos _ i (by simpa using hi), List.getElem_map])
  exact this
theorem fnd_iff {n : Int} : ∀ {l : List Int} {i : Nat}, (0 ≤ fnd n l i ↔ ∃ j, j < l.length ∧ l[j]! = n)
  | [], i => by simp [fnd]
  | x :: l, i => by
    have ih := @fnd_iff n l (i + 1)
    rw [fnd]
    split
    · rename_i h
      exact ⟨fun _ => ⟨0, by simp, by simpa using h⟩, fun _ => by omega⟩
    · rename_i h
      rw [ih]
      constructor
      · rintro ⟨j, hj, e⟩
        exact ⟨j + 1, by simpa using hj, by simpa using e⟩
      · rintro ⟨j, hj, e⟩
        cases j with
        | zero => exact absurd (by simpa using e) h
        | succ j => exact ⟨j, by simpa using hj, by simpa using e⟩
theorem beast_calls (D : Dw w cs ca s A E) (cc : Nat) (id : Int) (W : World) (hB : Below w.heap.size w W) : Calls Try.prog 22 #[.slice ca cs.length cc, .agg s.arr, .int .i64 id] W fun e w' => e = .returned (.tuple #[.agg (bst cs s id).1.arr, .bool (bst cs s id).2.2]) ∧ Gr W w' := by
  have D1 := D.below hB
  have hF : ∀ i, i < s.fs.length → ∃ B O, s.fa = some ⟨B, O, none⟩ ∧ ∀ W', Gr W W' → W'.cell? ⟨B, O + i, none⟩ = some (.int .i64 s.fs[i]!) := fun i hi => by
    obtain ⟨B, O, e, _⟩ := D1.field hi
    refine ⟨B, O, e, fun W' k => ?_⟩
    obtain ⟨B', O', e', h⟩ := (D1.gr k).field hi
    rw [e] at e'
    injection e' with e'
    injection e' with e1 e2
    subst e1 e2
    exact h
  have h32 : ∀ W', Gr W W' → Calls Try.prog 32 #[.agg s.arr, .int .i64 id] W' fun e w' => e = .returned (.int .i64 (s.find id)) ∧ Gr W' w' := fun W' k => rfind_below D1 id W' (gr_below (.refl _ _) (Nat.le_refl _) k)
  by_cases h1 : s.find id < 0 ∨ fnd id s.fs 0 < 0
  · have e : bst cs s id = (zO, zC, false) := by rw [bst, if_pos h1]
    rw [e]
    refine beast_none layC layR rfl zO.one s.arr.toList rfl ca cs.length cc id W s.fa s.fs s.fc rfl D.nf hF (s.find id) h32 (h1.imp (fun h => h) fun h i hi he => ?_)
    have := fnd_iff (i := 0).2 ⟨i, hi, he⟩
    omega
  · have hl := s.find_lt id
    obtain ⟨ix, hix⟩ : ∃ ix : Nat, s.find id = ix := ⟨(s.find id).toNat, by omega⟩
    have hlt : ix < s.os.length := by omega
    obtain ⟨B, O, hoa, _, _⟩ := D1.obj hlt
    obtain ⟨i0, hi0, hi1⟩ := (fnd_iff (n := id) (l := s.fs) (i := 0)).1 (by omega)
    have h33 : ∀ W', Gr W W' → Calls Try.prog 33 #[.slice ca cs.length cc, .agg (s.os[ix]!).arr] W' fun e w' => e = .returned (.tuple #[.agg (if smE cs s ix = true then cs[cdE s ix]! else zC).arr, .bool (smE cs s ix)]) ∧ Gr W' w' := fun W' k => rcard_calls D1 cc ix W' (gr_below (.refl _ _) (Nat.le_refl _) k)
    rw [hix] at h32
    have := beast_at layC layR rfl s.arr.toList rfl ca cs.length cc id W s.fa s.fs s.fc rfl D.nf hF ix h32 B O s.os.length s.oc (by rw [← hoa]; rfl) hlt (s.os[ix]!).arr.toList rfl (s.os[ix]!).one (fun W' k => by
      obtain ⟨B', O', e', h, _⟩ := (D1.gr k).obj hlt
      rw [hoa] at e'
      injection e' with e'
      injection e' with e1 e2
      subst e1 e2
      simpa using h) (if smE cs s ix = true then cs[cdE s ix]! else zC).arr.toList rfl rfl (if smE cs s ix = true then cs[cdE s ix]! else zC).one (smE cs s ix) (if smE cs s ix = true then cs[cdE s ix]! else zC).kind rfl h33 i0 hi0 hi1
    have e1 : (bst cs s id).1 = s.os[ix]! := by
      rw [bst, if_neg h1, hix, Int.toNat_natCast]
      split <;> rfl
    have e2 : (bst cs s id).2.2 = (smE cs s ix && (if smE cs s ix = true then cs[cdE s ix]! else zC).kind == 2) := by
      rw [bst, if_neg h1, hix, Int.toNat_natCast]
      by_cases hc : (s.os[ix]!).card < 0 ∨ (cs.length : Int) ≤ (s.os[ix]!).card
      · rw [if_pos hc]
        have : smE cs s ix = false := by
          cases hs : smE cs s ix with
          | false => rfl
          | true => have := smE_iff.1 hs; omega
        rw [this]
        rfl
      · rw [if_neg hc]
        have : smE cs s ix = true := smE_iff.2 (by omega)
        rw [this]
        rfl
    rw [e1, e2]
    exact this
/-- What is told of lists. -/
def Qe (all R : List Ef) : Prop := Stb (ltOf cmpE) (all.filter hasL) R ∧ Srt (ltOf cmpE) R
theorem Qe.le {all R : List Ef} (h : Qe all R) : R.length ≤ all.length := by
  rw [← h.1.len]
  exact List.length_filter_le _ _
theorem Qe.uniq {all R S : List Ef} (h : Qe all R) (k : Qe all S) : R = S := uniq_stb (fun x => by rw [ltE_f]; omega) h.2 k.2 (h.1.symm.trans k.1)
theorem rfIn (D : Dw w cs ca s A E) (cc : Nat) (b : Ov) {B O : Nat} (hoa : s.oa = some ⟨B, O, none⟩) : RfIn Try.prog 14 11 13 w ca cs.length cc s.arr.toList b.arr.toList s.find B O s.os.length (fun p => (s.os[p]!).arr.toList) (fun p => (if smE cs s p = true then cs[cdE s p]! else zC).arr.toList) (smE cs s) (fun p => (s.os[p]!).st) (fun p => (cs[cdE s p]!).aa) (fun p => (cs[cdE s p]!).an) (fun p => (cs[cdE s p]!).ac) (fun p j => ((A (cdE s p))[j]!).arr.toList) (fun p j => ((A (cdE s p))[j]!).kd) (fun p j => ((A (cdE s p))[j]!).wh) (fun p j => ((A (cdE s p))[j]!).op) (fun p j => ((A (cdE s p))[j]!).va) (fun p j => ((A (cdE s p))[j]!).vb) (fun p j => fitB ((A (cdE s p))[j]!).wh (s.os[p]!).id (s.os[p]!).ctrl b.id b.ctrl) where
  f32 := fun n W h => rfind_below D n W h
  lt := s.find_lt
  f33 := fun p _ W h => rcard_calls D cc p W h
  hX := fun p _ => rfl
  lX := fun p hp W h => by
    obtain ⟨B', O', e, k, _⟩ := (D.below h).obj hp
    rw [hoa] at e
    injection e with e
    injection e with e1 e2
    subst e1 e2
    simpa using k
  hst := fun p hp W h => by
    obtain ⟨B', O', e, _, k⟩ := (D.below h).obj hp
    rw [hoa] at e
    injection e with e
    injection e with e1 e2
    subst e1 e2
    exact k
  hC := fun p _ => rfl
  oC := fun p _ => Cv.one _
  ha := fun p _ hs => by
    show (if smE cs s p = true then cs[cdE s p]! else zC).arr.toList[10]? = _
    rw [if_pos hs]
    rfl
  han := fun p _ => D.an _
  hk := fun p j _ _ _ => ⟨rfl, rfl, rfl, rfl, rfl, rfl⟩
  oA := fun p j _ hs hj => by
    obtain ⟨z1, z2⟩ := smE_iff.1 hs
    obtain ⟨_, _, _, h⟩ := D.abil (i := cdE s p) (by unfold cdE; omega) hj
    exact h
  la := fun p j _ hs hj => by
    obtain ⟨z1, z2⟩ := smE_iff.1 hs
    have hcl : cdE s p < cs.length := by unfold cdE; omega
    obtain ⟨ad, e, _, _⟩ := D.abil hcl hj
    refine ⟨ad, e, fun W' k => ?_⟩
    obtain ⟨ad', e', h, _⟩ := (D.below k).abil hcl hj
    rw [e] at e'
    injection e' with e'
    subst e'
    simpa using h
  f34 := fun p j _ _ _ W _ => rfits_calls _ (s.os[p]!) b W
theorem bst_on {id : Int} (h : (bst cs s id).2.2 = true) : ∃ ix : Nat, s.find id = ix ∧ ix < s.os.length ∧ (bst cs s id).1 = s.os[ix]! := by
  have h1 : ¬ (s.find id < 0 ∨ fnd id s.fs 0 < 0) := fun h1 => by
    rw [bst, if_pos h1] at h
    cases h
  have hl := s.find_lt id
  refine ⟨(s.find id).toNat, by omega, by omega, ?_⟩
  rw [bst, if_neg h1]
  split <;> rfl
/-- A list that a function tells. -/
def OutE (w : World) (all : List Ef) (e : Ending) (w' : World) : Prop := ∃ a c R, e = .returned (.slice a (List.length R) c) ∧ Qe all R ∧ Below w.heap.size w w' ∧ (R = [] ∨ ∃ g o, a = some ⟨g, o, none⟩ ∧ g < w'.heap.size ∧ HoldsK encE 4 w' g o R.toArray)
section
variable (D : Dw w cs ca s A E) (cc : Nat) (id : Int)
include D
theorem ef_all (h : (bst cs s id).2.2 = true) : Calls Try.prog 13 #[.slice ca cs.length cc, .agg s.arr, .int .i64 id] w (OutE w (allE cs s A E id)) := by
  obtain ⟨ix, hix, hlt, e1⟩ := bst_on h
  obtain ⟨B, O, hoa, _, _⟩ := D.obj hlt
  obtain ⟨f1, f2, f3, f4⟩ := D.effs hlt
  have h21 : ∀ W, Gr w W → Calls Try.prog 21 #[.slice ca cs.length cc, .agg s.arr, .int .i64 id] W fun e w' => e = .returned (.tuple #[.agg (bst cs s id).1.arr, .agg (bst cs s id).2.1.arr, .bool true]) ∧ Gr W w' := fun W k => by
    have := findb_calls cs ca cc s id W (D.gr k).ok (D.gr k).hC
    rwa [h] at this
  rw [e1] at h21
  have := ef_beast layD rfl rfl ca cs.length cc s.arr.toList rfl B O s.os.length s.oc (by rw [← hoa]; rfl) s.fa s.fs s.fc rfl id w (s.os[ix]!).arr.toList (bst cs s id).2.1.arr.toList rfl rfl (Ov.one _) (Cv.one _) h21 s.find (fun p => (s.os[p]!).arr.toList) (conE cs s A (s.os[ix]!)) (efIn D cc (s.os[ix]!)) D.nf
    (fun i hi => by
      obtain ⟨B', O', e, _⟩ := D.field hi
      refine ⟨B', O', e, fun W k => ?_⟩
      obtain ⟨B'', O'', e', k'⟩ := (D.below k).field hi
      rw [e] at e'
      injection e' with e'
      injection e' with e1 e2
      subst e1 e2
      exact k')
    (fun p hp W k => by
      obtain ⟨B', O', e, k', _⟩ := (D.below k).obj hp
      rw [hoa] at e
      injection e with e
      injection e with e1 e2
      subst e1 e2
      simpa using k') (s.os[ix]!).ea (E ix) (s.os[ix]!).ec (by rw [f1]; rfl) (by omega) f3 (fun ad had W k => ((D.below k).effs hlt).2.2.2 ad had) tailT
  refine this.mono ?_
  rintro e w' ⟨a, c, R, k1, k2, k3, k4, k5⟩
  refine ⟨a, c, R, k1, ⟨?_, k3⟩, k4, k5.imp (fun h => h) fun ⟨g, h1, h2, h3⟩ => ⟨g, 0, h1, h2, h3⟩⟩
  unfold allE
  rw [e1, hix, Int.toNat_natCast]
  exact k2
theorem ref_all (h : (bst cs s id).2.2 = true) : Calls Try.prog 14 #[.slice ca cs.length cc, .agg s.arr, .int .i64 id] w (OutE w (allE cs s A E id)) := by
  obtain ⟨ix, hix, hlt, e1⟩ := bst_on h
  obtain ⟨B, O, hoa, _, _⟩ := D.obj hlt
  obtain ⟨f1, f2, f3, f4⟩ := D.effs hlt
  have h22 : ∀ W, Gr w W → Calls Try.prog 22 #[.slice ca cs.length cc, .agg s.arr, .int .i64 id] W fun e w' => e = .returned (.tuple #[.agg (bst cs s id).1.arr, .bool true]) ∧ Gr W w' := fun W k => by
    have := beast_calls D cc id W (gr_below (.refl _ _) (Nat.le_refl _) k)
    rwa [h] at this
  rw [e1] at h22
  have := ref_some layD layR rfl rfl rfl rlayers ca cs.length cc s.arr.toList rfl B O s.os.length s.oc (by rw [← hoa]; rfl) s.fa s.fs s.fc rfl id w (s.os[ix]!).arr.toList rfl (Ov.one _) h22 s.find _ _ _ _ _ _ _ _ _ _ _ _ _ _ (rfIn D cc (s.os[ix]!) hoa) D.nf
    (fun i hi => by
      obtain ⟨B', O', e, _⟩ := D.field hi
      refine ⟨B', O', e, fun W k => ?_⟩
      obtain ⟨B'', O'', e', k'⟩ := (D.below k).field hi
      rw [e] at e'
      injection e' with e'
      injection e' with e1 e2
      subst e1 e2
      exact k') (s.os[ix]!).ea (E ix) (s.os[ix]!).ec (by rw [f1]; rfl) (by omega) f3 (fun ad had W k => ((D.below k).effs hlt).2.2.2 ad had)
  refine this.mono ?_
  rintro e w' ⟨a, c, R, k1, k2, k3, k4, k5⟩
  refine ⟨a, c, R, k1, ⟨?_, k3⟩, k4, k5.imp (fun h => h) fun ⟨g, h1, h2, h3⟩ => ⟨g, 0, h1, h2, h3⟩⟩
  unfold allE
  rw [e1, hix, Int.toNat_natCast]
  exact k2
end
end Go.Proofs.Ytgbhmkdldfhamaa.charsOf
/-
  Chapter 14: what Of tells on both sides, of a state in memory.
-/
namespace Go.Proofs.Ytgbhmkdldfhamaa.charsOf
open Go.Shelf Go.RowKit Go.Lib Go.Sort
set_option maxHeartbeats 4000000 in
set_option maxRecDepth 100000 in
theorem ref_none {P : Program} {k32 k56 k54 : Nat} {y56 y54 : List Value} (L : LayC P k32 k56 k54 y56 y54) (R : LayR P) (hy6 : y56.length = k56) (SL Ob : List Value) (hS : SL.length = k32) (hO : Ob.length = k56) (oO : ∀ v ∈ Ob, v.oneCell' = true) (ca : Option Addr) (cn cc : Nat) (id : Int) (w : World)
    (h22 : ∀ W, Gr w W → Calls P 22 #[.slice ca cn cc, .agg SL.toArray, .int .i64 id] W fun e w' => e = .returned (.tuple #[.agg Ob.toArray, .bool false]) ∧ Gr W w') :
    Calls P 14 #[.slice ca cn cc, .agg SL.toArray, .int .i64 id] w fun e w' => e = .returned (.slice none 0 0) ∧ Below w.heap.size w w' := by
  have mixed := L.mixed; have t3 := L.t3; have a3 := L.a3; have z3 := L.z3; have t4 := L.t4; have a4 := L.a4; have z4 := L.z4; have a56 := L.a56; have z56 := L.z56; have qu56 := run_underlying L.t56; have t22 := L.t22; have a22 := L.a22; have z22 := L.z22; have qu32 := run_underlying L.t32; have a32 := L.a32; have z32 := L.z32; have v56 := L.v56; have e22 := R.e22; have t40 := L.t40; have a40 := L.a40; have z40 := L.z40; have t69 := R.t69
  have g0 : Gr w (w.alloc (.cells SL.toArray 32)) := (Gr.refl _).alloc _
  have l4 := hold_ld P (hold_new w SL 32) hS
  have G0 : Aside _ := g0
  have H22 : Aside _ := h22
  clear h22 g0
  go_enter R.f14, Try.ntmps14
  go_wp2_with (first | (go_at_fn 22; refine (H22.out _ G0.out).mono ?_; rintro e w1 ⟨rfl, hG⟩; have sA := hold_st P (hold_new w1 y56 56) Ob (hO.trans hy6.symm) oO; have g7 : Gr w1 ((w1.alloc (.cells y56.toArray 56)).setCells w1.heap.size 0 Ob) := Gr.sets (W := w1) _ (Nat.le_refl _) _ _ ((Gr.refl _).alloc _); have GG : Aside _ := Gr.trans (Gr.trans G0.out hG) g7; clear hG g7))
  go_returns
  exact ⟨rfl, gr_below (.refl _ _) (Nat.le_refl _) GG.out⟩
theorem bst_card {cs : List Cv} {s : Sv} {id : Int} (h : (bst cs s id).2.2 = true) : ∃ cd : Nat, cd < cs.length ∧ (bst cs s id).1.card = cd ∧ (bst cs s id).2.1 = cs[cd]! := by
  have h1 : ¬ (s.find id < 0 ∨ fnd id s.fs 0 < 0) := fun h1 => by
    rw [bst, if_pos h1] at h
    cases h
  rw [bst, if_neg h1] at h ⊢
  by_cases h2 : (s.os[(s.find id).toNat]!).card < 0 ∨ (cs.length : Int) ≤ (s.os[(s.find id).toNat]!).card
  · rw [if_pos h2] at h
    cases h
  · rw [if_neg h2]
    refine ⟨(s.os[(s.find id).toNat]!).card.toNat, by omega, ?_, rfl⟩
    show (s.os[(s.find id).toNat]!).card = _
    omega
section
variable {w : World} {cs : List Cv} {ca : Option Addr} {s : Sv} {A : Nat → List Av} {E : Nat → List Ef} (D : Dw w cs ca s A E) (cc : Nat) (id : Int)
include D
theorem h21_of (b : Bool) (h : (bst cs s id).2.2 = b) (W : World) (k : Gr w W) : Calls Try.prog 21 #[.slice ca cs.length cc, .agg s.arr, .int .i64 id] W fun e w' => e = .returned (.tuple #[.agg (bst cs s id).1.arr, .agg (bst cs s id).2.1.arr, .bool b]) ∧ Gr W w' := by
  have := findb_calls cs ca cc s id W (D.gr k).ok (D.gr k).hC
  rwa [h] at this
theorem h22_of (b : Bool) (h : (bst cs s id).2.2 = b) (W : World) (k : Gr w W) : Calls Try.prog 22 #[.slice ca cs.length cc, .agg s.arr, .int .i64 id] W fun e w' => e = .returned (.tuple #[.agg (bst cs s id).1.arr, .bool b]) ∧ Gr W w' := by
  have := beast_calls D cc id W (gr_below (.refl _ _) (Nat.le_refl _) k)
  rwa [h] at this
theorem ef_nil (h : (bst cs s id).2.2 = false) : Calls Try.prog 13 #[.slice ca cs.length cc, .agg s.arr, .int .i64 id] w fun e w' => e = .returned (.slice none 0 0) ∧ Below w.heap.size w w' :=
  ef_none layD rfl rfl ca cs.length cc s.arr.toList rfl id w (bst cs s id).1.arr.toList (bst cs s id).2.1.arr.toList rfl rfl (Ov.one _) (Cv.one _) (h21_of D cc id false h)
theorem ref_nil (h : (bst cs s id).2.2 = false) : Calls Try.prog 14 #[.slice ca cs.length cc, .agg s.arr, .int .i64 id] w fun e w' => e = .returned (.slice none 0 0) ∧ Below w.heap.size w w' :=
  ref_none layC layR rfl s.arr.toList (bst cs s id).1.arr.toList rfl rfl (Ov.one _) ca cs.length cc id w (h22_of D cc id false h)
theorem of_nil (h : (bst cs s id).2.2 = false) : Calls Try.prog 10 #[.slice ca cs.length cc, .agg s.arr, .int .i64 id] w fun e w' => e = .returned (.tuple #[.agg (encV (0, 0, 0)).toArray, .bool false]) ∧ Below w.heap.size w w' :=
  chof_none layC layE rfl rfl s.arr.toList (bst cs s id).1.arr.toList (bst cs s id).2.1.arr.toList rfl rfl rfl (Ov.one _) (Cv.one _) ca cs.length cc id w (h21_of D cc id false h)
theorem rof_nil (h : (bst cs s id).2.2 = false) : Calls Try.prog 11 #[.slice ca cs.length cc, .agg s.arr, .int .i64 id] w fun e w' => e = .returned (.tuple #[.agg (encV (0, 0, 0)).toArray, .bool false]) ∧ Below w.heap.size w w' :=
  rof_none layC layE layR rfl s.arr.toList (bst cs s id).1.arr.toList rfl rfl (Ov.one _) ca cs.length cc id w (h22_of D cc id false h)
theorem of_all (h : (bst cs s id).2.2 = true) : Calls Try.prog 10 #[.slice ca cs.length cc, .agg s.arr, .int .i64 id] w fun e w' => ∃ R, Qe (allE cs s A E id) R ∧ e = .returned (.tuple #[.agg (encV (foldE R ((bst cs s id).2.1.pow, (bst cs s id).2.1.tou, (bst cs s id).2.1.keys))).toArray, .bool true]) ∧ Below w.heap.size w w' :=
  chof_some layC layE rfl rfl s.arr.toList (bst cs s id).1.arr.toList (bst cs s id).2.1.arr.toList rfl rfl rfl (Ov.one _) (Cv.one _) ca cs.length cc id w (h21_of D cc id true h) _ _ _ rfl rfl rfl (Qe (allE cs s A E id)) (fun _R k => Nat.le_trans k.le (all_le D id h)) (fun _W k => ef_all (D.below k) cc id h) fold_calls
theorem rof_all (h : (bst cs s id).2.2 = true) : Calls Try.prog 11 #[.slice ca cs.length cc, .agg s.arr, .int .i64 id] w fun e w' => ∃ R, Qe (allE cs s A E id) R ∧ e = .returned (.tuple #[.agg (encV (foldE R ((bst cs s id).2.1.pow, (bst cs s id).2.1.tou, (bst cs s id).2.1.keys))).toArray, .bool true]) ∧ Below w.heap.size w w' := by
  obtain ⟨cd, hcl, hcd, hc⟩ := bst_card h
  obtain ⟨B, O, hca, _, _⟩ := D.card hcl
  have := rof_some layC layE layR rfl rfl s.arr.toList (bst cs s id).1.arr.toList (bst cs s id).2.1.arr.toList rfl rfl rfl (Ov.one _) (Cv.one _) B O cs.length cc cd (by rw [← hcd]; rfl) hcl id w (fun W k => by
    obtain ⟨B', O', e, k', _⟩ := (D.gr k).card hcl
    rw [hca] at e
    injection e with e
    injection e with e1 e2
    subst e1 e2
    rw [hc]
    simpa using k') (by rw [← hca]; exact h22_of D cc id true h) _ _ _ rfl rfl rfl (Qe (allE cs s A E id)) (fun R k => Nat.le_trans k.le (all_le D id h)) (fun W k => by rw [← hca]; exact ref_all (D.below k) cc id h) rfold_calls
  rw [← hca] at this
  exact this
end
end Go.Proofs.Ytgbhmkdldfhamaa.charsOf
