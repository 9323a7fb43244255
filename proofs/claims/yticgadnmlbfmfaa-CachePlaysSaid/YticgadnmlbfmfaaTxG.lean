/-
  Chapter 25: what acts on a slot's beast: the iterator, walked.
-/
import Derived.RangeFuncNested
import Derived.RangeFuncBound
import Derived.RangeFuncCalls
import Derived.RangeFuncLeaves
import Derived.Shelf.Abstract
import Derived.Shelf.RegionOpen
import Derived.OwnWalkIn
import Derived.TacticsInMore
import Derived.LoopNIn
import Derived.LoopIn
import Derived.Test.YticgadnmlbfmfaaTxF
namespace Go.Proofs.Yticgadnmlbfmfaa.cachePlays
open Go.Shelf Go.RowKit Go.Lib Go.Sort Go.Maps
attribute [local go_sem] Oper.semAt_some
/-- What a static of one slot adds. -/
def statE (K : Ca) (on by_ : Int) (l : List Ab) : List Ef := l.filterMap fun a => if a.kind = 4 ∧ fitC a.who by_ on ((K.at by_).ctrl == (K.at on).ctrl) = true then some (a.op, a.a, a.b, (K.at by_).stamp) else none
/-- The numbers of the slots that hold something. -/
def keysK (K : Ca) : List Int := ((List.range 256).map Int.ofNat).filter fun k => (K.sl k).isSome
/-- What acts on a slot's beast, the statics first. -/
def actE (K : Ca) (on : Int) : List Ef := (keysK K).flatMap (fun b => statE K on b (K.at b).cd.abs) ++ (K.at on).effs
theorem statE_snoc (K : Ca) (on b : Int) (l : List Ab) (a : Ab) : statE K on b (l ++ [a]) = statE K on b l ++ if a.kind = 4 ∧ fitC a.who b on ((K.at b).ctrl == (K.at on).ctrl) = true then [(a.op, a.a, a.b, (K.at b).stamp)] else [] := by
  unfold statE
  rw [List.filterMap_append, List.filterMap_cons, List.filterMap_nil]
  split
  · rename_i h
    split at h
    · cases h
    · rename_i h2
      rw [if_neg h2]
  · rename_i h
    split at h
    · rename_i h2
      cases h
      rw [if_pos h2]
    · cases h
theorem statE_len (K : Ca) (on b : Int) (l : List Ab) : (statE K on b l).length ≤ l.length := List.length_filterMap_le _ _
theorem flat_len' {α β : Type} (f : α → List β) (m : Nat) : ∀ (l : List α), (∀ x ∈ l, (f x).length ≤ m) → (l.flatMap f).length ≤ l.length * m
  | [], _ => by simp
  | x :: l, h => by
    have h1 := h x (List.mem_cons_self ..)
    have h2 := flat_len' f m l (fun y hy => h y (List.mem_cons_of_mem _ hy))
    rw [List.flatMap_cons, List.length_append, List.length_cons, Nat.succ_mul]
    omega
/-- What the rounds keep: all that lay there, but one box, and rows of effects that are new. -/
def KpA (n₀ x : Nat) (W W' : World) : Prop := W.heap.size ≤ W'.heap.size ∧ ∀ k o, k ≠ x → W.heap[k]? = some o → (k < n₀ ∨ ∃ cs t f, o = .cells cs t f ∧ t ≠ 49) → W'.heap[k]? = some o
theorem KpA.trans {n₀ x : Nat} {A B C : World} (h : KpA n₀ x A B) (g : KpA n₀ x B C) : KpA n₀ x A C := ⟨Nat.le_trans h.1 g.1, fun k o a b c => g.2 k o a (h.2 k o a b c) c⟩
theorem KpA.putObj {n₀ x : Nat} {w : World} (hn : n₀ ≤ w.heap.size) (W : World) (l : Nat) (o o' : Obj) (hl : w.heap.size ≤ l) (ho : W.heap[l]? = some o) (hc : o.isCells = false) (_ : o.isWalk = false) : KpA n₀ x W (W.putObj l o') := by
  refine ⟨by simp, fun k q _ hq hk => ?_⟩
  by_cases e : k = l
  · subst e
    rw [ho] at hq
    cases hq
    rcases hk with h | ⟨cs, t, f, rfl, _⟩
    · omega
    · cases hc
  · exact (World.putObj_heap_other e).trans hq
theorem KpA.gr {n₀ x : Nat} {W W' : World} (g : Gr W W') : KpA n₀ x W W' := ⟨Gr.le g, fun _ _ _ h _ => blk_gr h g⟩
def intOf' : Value → Int
  | .int _ a => a
  | _ => 0
/-- What is held while the iterator runs. -/
structure It (Z : Nat → Prop) (n₀ cb sb tb bc bs gk : Nat) (K : Ca) (on : Int) (kc : Array Value) (J : List Ef → World → Prop) (pre : List Ef) (W : World) : Prop where
  j : J pre W
  c : CaAt Z W cb sb tb K
  b1 : W.heap[bc]? = some (.cells [Value.pointer (some ⟨cb, 0, none⟩)].toArray 24)
  b2 : W.heap[bs]? = some (.cells [Value.int .i64 on].toArray 3)
  g : kc = #[] ∨ W.heap[gk]? = some (.cells kc 3)
  s : n₀ ≤ W.heap.size
  gl : n₀ ≤ gk
theorem It.gr {Z : Nat → Prop} {n₀ cb sb tb bc bs gk B : Nat} {K : Ca} {on : Int} {kc : Array Value} {J : List Ef → World → Prop} {pre : List Ef} {W W' : World} (h : It Z n₀ cb sb tb bc bs gk K on kc J pre W) (hJ : AbidesFrom B J) (g : Gr W W') : It Z n₀ cb sb tb bc bs gk K on kc J pre W' :=
  ⟨hJ _ _ _ none h.j (gr_grown g) (fun r e => by cases e), h.c.gr g, blk_gr h.b1 g, blk_gr h.b2 g, h.g.imp id (fun e => blk_gr e g), Nat.le_trans h.s (Gr.le g), h.gl⟩
/-- The caller's box is none of these blocks. -/
structure Ox (Z : Nat → Prop) (n₀ x cb sb tb bc bs : Nat) : Prop where
  l : cb < n₀ ∧ sb < n₀ ∧ tb < n₀ ∧ bc < n₀ ∧ bs < n₀
  n : x ≠ cb ∧ x ≠ sb ∧ x ≠ tb ∧ x ≠ bc ∧ x ≠ bs
  xl : x < n₀
  z : ∀ b, Z b → b < n₀ ∧ b ≠ x
theorem It.yield {Z : Nat → Prop} {n₀ x cb sb tb bc bs gk : Nat} {K : Ca} {on : Int} {kc : Array Value} {J : List Ef → World → Prop} {pre pre' : List Ef} {W W' : World} (h : It Z n₀ cb sb tb bc bs gk K on kc J pre W) (O : Ox Z n₀ x cb sb tb bc bs) (hJ : J pre' W') (g : KpA n₀ x W W') : It Z n₀ cb sb tb bc bs gk K on kc J pre' W' := by
  have same : ∀ k, k < n₀ → k ≠ x → k < W.heap.size → W'.heap[k]? = W.heap[k]? := fun k hk hx hl => by
    obtain ⟨o, ho⟩ : ∃ o, W.heap[k]? = some o := ⟨_, Array.getElem?_eq_getElem hl⟩
    rw [ho]
    exact g.2 k o hx ho (.inl hk)
  obtain ⟨l1, l2, l3⟩ := h.c.lt
  refine ⟨hJ, h.c.keep ⟨g.1, fun b hb hl => same b (O.z b hb).1 (O.z b hb).2 hl⟩ (same _ O.l.1 (fun e => O.n.1 e.symm) l1) (same _ O.l.2.1 (fun e => O.n.2.1 e.symm) l2) (same _ O.l.2.2.1 (fun e => O.n.2.2.1 e.symm) l3), ?_, ?_, ?_, Nat.le_trans h.s g.1, h.gl⟩
  · exact g.2 _ _ (fun e => O.n.2.2.2.1 e.symm) h.b1 (.inl O.l.2.2.2.1)
  · exact g.2 _ _ (fun e => O.n.2.2.2.2 e.symm) h.b2 (.inl O.l.2.2.2.2)
  · exact h.g.imp id (fun e => g.2 _ _ (fun e => by have := O.xl; have := h.gl; omega) e (.inr ⟨_, _, _, rfl, by decide⟩))
theorem KpA.kz {Z : Nat → Prop} {n₀ x cb sb tb bc bs : Nat} {W W' : World} (O : Ox Z n₀ x cb sb tb bc bs) (g : KpA n₀ x W W') : Kz Z W W' := ⟨g.1, fun k hk hl => by
  obtain ⟨o, ho⟩ : ∃ o, W.heap[k]? = some o := ⟨_, Array.getElem?_eq_getElem hl⟩
  rw [ho]
  exact g.2 k o (O.z k hk).2 ho (.inl (O.z k hk).1)⟩
theorem RowsZ.cells {Z : Nat → Prop} {w : World} {B O k : Nat} {l : List (List Value)} (h : RowsZ Z w (some ⟨B, O, none⟩) k l) {i : Nat} {x : List Value} (hx : l[i]? = some x) : ∀ (j : Nat) v, x[j]? = some v → w.cell? ⟨B, O + i * k + j, none⟩ = some v := by
  rcases h with h | ⟨B', O', e, _, _, h⟩
  · rw [h] at hx
    simp at hx
  · cases e
    exact h i x hx
theorem fld_objP {P : Program} {k30 k82 k89 k92 : Nat} {y30 y82 y89 y92 : List Value} (L : LayQ P k30 k82 k89 k92 y30 y82 y89 y92) (S : Sz k30 k82 k89 k92) {ob cr : List Value} (h : ob.length = 14) (W : World) : (Instr.field 92 (.agg (ob ++ cr).toArray) 0).run P W = .ok (.agg ob.toArray) W := by
  have e : List.take 14 (ob ++ cr) = ob := by
    rw [← h]
    simp
  have z30 : ∀ w, (Go.sizeOf 30).run P w = .ok 14 w := fun w => by rw [L.z30, S.s30]
  have ha : ∀ a W, (asAgg (.agg a)).run P W = .ok a W := fun _ _ => rfl
  simp [Instr.field, run_underlying L.t92, go_sem, L.a30, z30, ha, Result.andThen, e]
theorem fld_effP {P : Program} {k30 k82 k89 k92 : Nat} {y30 y82 y89 y92 : List Value} (L : LayQ P k30 k82 k89 k92 y30 y82 y89 y92) {ob : List Value} {v : Value} (h : ob[13]? = some v) (W : World) : (Instr.field 30 (.agg ob.toArray) 13).run P W = .ok v W := by
  have ha : ∀ a W, (asAgg (.agg a)).run P W = .ok a W := fun _ _ => rfl
  simp [Instr.field, run_underlying L.t30, go_sem, L.a28, L.z28, ha, Result.andThen, h]
set_option maxRecDepth 100000 in
set_option maxHeartbeats 16000000 in
theorem acting1_in {P : Program} {k30 k82 k89 k92 : Nat} {y30 y82 y89 y92 : List Value} (L : LayQ P k30 k82 k89 k92 y30 y82 y89 y92) (R : Fs P) (S : Sz k30 k82 k89 k92) (hy9 : y92.length = k92) (hy8 : y89.length = k89) (F : Fence) (N : Nat) (hF : ∀ f, F.fn f) (hro : F.round = none) (hn : 1 ≤ N)
    (cK : ∀ mb W, CallsIn F (N - 1) P 55 #[.map mb] W fun e w' => e = .returned (.func (.func 74) #[] #[.pointer (some ⟨W.heap.size, 0, none⟩)]) ∧ w' = W.alloc (.cells #[.map mb] 83))
    (cS : ∀ {W : World} {b n : Nat} {G : Int → Option Value}, MapV W b n G → (∀ k, (G k).isSome = true → 0 ≤ k ∧ k < 256) → CallsIn F (N - 1) P 54 #[.func (.func 74) #[] #[.pointer (some ⟨W.heap.size, 0, none⟩)]] (W.alloc (.cells #[.map (some b)] 83)) fun e w' => ∃ (a : Option Addr) (c : Nat), e = .returned (.slice a (keysF G).length c) ∧ (keysF G = [] ∨ ∃ g cur, a = some ⟨g, 0, none⟩ ∧ W.heap.size + 1 ≤ g ∧ w'.heap[g]? = some (.cells cur 3) ∧ ∀ (i : Nat) (k : Int), (keysF G)[i]? = some k → cur[i]? = some (.int .i64 k)) ∧ Below W.heap.size W w')
    {Z : Nat → Prop} {cb sb tb : Nat} {K : Ca} {on : Int}
    (cF : ∀ W, CaAt Z W cb sb tb K → ∀ who b : Int, CallsIn F (N - 1) P 56 #[.pointer (some ⟨cb, 0, none⟩), .int .i64 who, .int .i64 b, .int .i64 on] W fun e w' => e = .returned (.bool (fitC who b on ((K.at b).ctrl == (K.at on).ctrl))) ∧ Gr W w')
    (hon : (K.sl on).isSome = true) (l bc bs n₀ x : Nat) (J Jx : List Ef → World → Prop)
    (hY : ∀ pre y W, J pre W → pre.length < 1000000 → YieldAt F (N - 1) P l #[.agg (encE y).toArray] W fun e W' =>
      (e = .returned (.bool true) ∧ J (pre ++ [y]) W' ∧ KpA n₀ x W W') ∨ (e = .returned (.bool false) ∧ Jx (pre ++ [y]) W'))
    (W : World) (hn₀ : n₀ ≤ W.heap.size) (hJ : AbidesFrom W.heap.size J) (hO : Ox Z n₀ x cb sb tb bc bs) (hC : CaAt Z W cb sb tb K) (hb1 : W.heap[bc]? = some (.cells [Value.pointer (some ⟨cb, 0, none⟩)].toArray 24)) (hb2 : W.heap[bs]? = some (.cells [Value.int .i64 on].toArray 3)) (h0 : J [] W) :
    CallsIn F N P 53 #[.func (.yield l) #[] #[], .pointer (some ⟨bc, 0, none⟩), .pointer (some ⟨bs, 0, none⟩)] W fun e W' => (∃ v, e = .returned v) ∧
      ((∃ ys, ys = actE K on ∧ J ys W') ∨ (∃ pre, True ∧ Jx pre W')) := by
  have mixed := L.mixed; have t3 := L.t3; have a3 := L.a3; have z3 := L.z3; have v3 := L.v3; have qu3 := run_underlying L.t3; have t4 := L.t4; have a4 := L.a4; have z4 := L.z4; have qu4 := run_underlying L.t4
  have t24 := L.t24; have a24 := L.a24; have z24 := L.z24; have qu24 := run_underlying L.t24; have t28 := L.t28; have a28 := L.a28; have z28 := L.z28; have qu28 := run_underlying L.t28
  have t69 := L.t69; have a69 := L.a69; have z69 := L.z69; have qu69 := run_underlying L.t69; have t80 := L.t80; have a80 := L.a80; have z80 := L.z80; have qu80 := run_underlying L.t80
  have a83 := L.a83; have z83 := L.z83; have qu83 := run_underlying L.t83
  have qu30 := run_underlying L.t30; have a30 := L.a30; have z30 := L.z30; have qu82 := run_underlying L.t82; have a82 := L.a82; have z82 := L.z82; have qu89 := run_underlying L.t89; have a89 := L.a89; have z89 := L.z89; have v89 := L.v89; have qu92 := run_underlying L.t92; have a92 := L.a92; have z92 := L.z92; have v92 := L.v92
  have qu49 := run_underlying L.t49; have a49 := L.a49; have z49 := L.z49; have v49 := L.v49; have qu86 := run_underlying L.t86; have a86 := L.a86; have z86 := L.z86
  have e54 := R.e54; have e55 := R.e55; have e56 := R.e56
  have n30 : ¬ k30 = 0 := by rw [S.s30]; decide
  have n82 : ¬ k82 = 0 := by rw [S.s82]; decide
  obtain ⟨ca, cc, d0, d1, d2, d3, rs, c1, _⟩ := hC.c
  obtain ⟨n, G, s1, s2⟩ := hC.s
  have kF := hC.kF s2
  have sF : ∀ k, (G k).isSome = (K.sl k).isSome := fun k => (s2 k).isSome
  have hkk : keysF G = keysK K := by
    unfold keysF keysK
    simp only [sF]
  obtain ⟨⟨a0, a1, a2, _⟩, _⟩ := ca_cells c1
  have q1 := hold_cell (blk_hold hb1) (j := 0) (v := .pointer (some ⟨cb, 0, none⟩)) rfl
  have q2 := hold_cell (blk_hold hb2) (j := 0) (v := .int .i64 on) rfl
  have cS' := cS s1 kF
  rw [hkk] at cS'
  have HI : Aside (It Z n₀ cb sb tb bc bs W.heap.size K on #[] J [] W) := ⟨h0, hC, hb1, hb2, .inl rfl, hn₀, hn₀⟩
  have HJ : Aside _ := hJ
  have HO : Aside _ := hO
  have HY : Aside _ := hY
  have CF : Aside _ := cF
  have HN : Aside _ := hon
  clear hJ hO hY cF hon hC hb1 hb2 h0 c1 s1 s2 kF sF hkk
  refine callsIn_of_wp R.f53 rfl (hF _) ?_ hro
  simp only [Try.ntmps53, List.size_toArray, List.length_cons, List.length_nil, Nat.reduceAdd, Nat.reduceSub, Array.replicate_succ, Array.replicate_zero, List.push_toArray, List.append_toArray, List.nil_append, List.cons_append]
  gi_wp2_with (first
    | (gi_at_fn 55; refine (cK _ _).mono ?_; rintro e w' ⟨rfl, rfl⟩)
    | (gi_at_fn 54; go_loud (refine cS'.mono ?_); rintro e W1 ⟨sa, sc, rfl, hrow, hb⟩; have HR : Aside _ := hrow; have HB : Aside _ := hb; clear hrow hb))
  have hbw := HB.out
  have gw : W.grownBy W1 none := ⟨hbw.os, hbw.tape, hbw.output, hbw.size, fun k hk _ => hbw.block k hk⟩
  obtain ⟨gk, kc, hgk, hck, hW1⟩ : ∃ (gk : Nat) (kc : Array Value), W.heap.size ≤ gk ∧ (∀ (i : Nat) (k : Int), (keysK K)[i]? = some k → sa = some ⟨gk, 0, none⟩ ∧ kc[i]? = some (.int .i64 k)) ∧ (kc = #[] ∨ W1.heap[gk]? = some (.cells kc 3)) := by
    rcases HR.out with h | ⟨g, cur, rfl, hg, hh, hc⟩
    · exact ⟨W.heap.size, #[], Nat.le_refl _, (fun i k hk => by rw [h] at hk; simp at hk), .inl rfl⟩
    · exact ⟨g, cur, by omega, fun i k hk => ⟨rfl, hc i k hk⟩, .inr hh⟩
  have I0 := HI.out
  have I1 : Aside (It Z n₀ cb sb tb bc bs gk K on kc J [] W1) := ⟨HJ.out _ _ _ none I0.j gw (fun r e => by cases e), I0.c.below hbw, (hbw.block _ (blk_lt I0.b1)).trans I0.b1, (hbw.block _ (blk_lt I0.b2)).trans I0.b2, hW1, Nat.le_trans I0.s hbw.size, Nat.le_trans I0.s hgk⟩
  have HCK : Aside _ := hck
  have hkl : (keysK K).length ≤ 256 := by
    refine Nat.le_trans (List.length_filter_le _ _) ?_
    simp
  clear hbw gw hck hW1 I0 HR HB a0 a1 a2 q1 q2 hgk
  gi_loopw [18] (fun s wr => ∃ i : Nat, s = .int .i64 i ∧ i ≤ (keysK K).length ∧ Aside (It Z n₀ cb sb tb bc bs gk K on kc J (((keysK K).take i).flatMap (fun b => statE K on b (K.at b).cd.abs)) wr))
    (fun s _ => (keysK K).length - (intOf' s).toNat)
  case atStart => exact ⟨0, rfl, Nat.zero_le _, I1⟩
  case round =>
    clear I1
    obtain ⟨i, rfl, hi, I1⟩ := hrel
    have wi : IntKind.i64.wrap ((i : Int) + 1) = (i : Int) + 1 := by rw [IntKind.wrap_i64]; omega
    by_cases hlt : i < (keysK K).length
    · have hltz : (i : Int) < ((keysK K).length : Int) := by omega
      have hkk : (keysK K)[i]? = some (keysK K)[i] := List.getElem?_eq_getElem hlt
      obtain ⟨rfl, hkc⟩ := HCK.out i _ hkk
      have hk := (List.mem_filter.1 (List.getElem_mem hlt)).2
      have hT : (keysK K).take (i + 1) = (keysK K).take i ++ [(keysK K)[i]] := List.take_succ_eq_append_getElem hlt
      have hol : (((keysK K).take i).flatMap (fun b => statE K on b (K.at b).cd.abs)).length ≤ 256000 := by
        refine Nat.le_trans (flat_len' _ 1000 _ (fun b _ => Nat.le_trans (statE_len _ _ _ _) (I1.out.c.nab b))) ?_
        rw [List.length_take]
        omega
      generalize (keysK K)[i] = k at hkk hkc hk hT
      have q20 : wr.cell? ⟨gk, i, none⟩ = some (.int .i64 k) := by
        rcases I1.out.g with e | e
        · rw [e] at hkc
          simp at hkc
        · exact hold_cell (l := kc.toList) (blk_hold (l := kc.toList) (by simpa using e)) (by simpa using hkc)
      have q1 := hold_cell (blk_hold I1.out.b1) (j := 0) (v := .pointer (some ⟨cb, 0, none⟩)) rfl
      have q2 := hold_cell (blk_hold I1.out.b2) (j := 0) (v := .int .i64 on) rfl
      obtain ⟨ca, cc, d0, d1, d2, d3, rs, c1, _⟩ := I1.out.c.c
      obtain ⟨n, G, s1, s2⟩ := I1.out.c.s
      obtain ⟨⟨a0, a1, a2, _⟩, _⟩ := ca_cells c1
      obtain ⟨ob, cr, e1, kh⟩ : ∃ ob cr, G k = some (.agg (ob ++ cr).toArray) ∧ HdR Z wr ob cr (K.at k) := by
        have h := s2 k
        obtain ⟨hd, hh⟩ := Option.isSome_iff_exists.1 hk
        unfold Ca.at
        rw [hh] at h ⊢
        cases hf : G k with
        | none => rw [hf] at h; exact h.elim
        | some v =>
          rw [hf] at h
          obtain ⟨ob, cr, rfl, kh⟩ := h
          exact ⟨ob, cr, rfl, kh⟩
      have lk := s1.look L.t83 L.t3 L.v92 k
      rw [e1] at lk
      simp only [Option.getD_some] at lk
      have o9 : ∀ v ∈ ob ++ cr, v.oneCell' = true := fun v hv => by
        rcases List.mem_append.1 hv with h | h
        · exact kh.one v h
        · exact kh.c.one v h
      have hX : (ob ++ cr).length = k92 := by rw [List.length_append, kh.len, kh.c.len, S.s92]
      obtain ⟨ad, cp, rs2, r10, rz, rl, ra⟩ := kh.c.ab
      have x24 : (ob ++ cr)[24]? = some (.slice ad (K.at k).cd.abs.length cp) := by rw [List.getElem?_append_right (by rw [kh.len]; decide), kh.len]; exact r10
      have x9 : (ob ++ cr)[9]? = some (.int .i64 (K.at k).stamp) := by rw [List.getElem?_append_left (by rw [kh.len]; decide)]; exact kh.q9
      have hnab := kh.c.n
      clear kh e1 s1 s2
      generalize ob ++ cr = X at lk o9 hX x24 x9
      have hl9 : X.length = y92.length := by rw [hX, hy9]
      have sA := hold_st P (hold_new wr y92 92) X hl9 o9
      have bh := blk_put (blk_new wr (.cells y92.toArray 92)) X hl9
      have g2 : Gr wr ((wr.alloc (.cells y92.toArray 92)).setCells wr.heap.size 0 X) := Gr.sets (W := wr) _ (Nat.le_refl _) _ _ ((Gr.refl _).alloc _)
      have c24 := hold_cell (blk_hold bh) (j := 24) (v := .slice ad (K.at k).cd.abs.length cp) x24
      have I2 : Aside _ := I1.out.gr HJ.out g2
      have BH : Aside _ := bh
      have X9 : Aside _ := x9
      have RZ : Aside (RowsZ Z ((wr.alloc (.cells y92.toArray 92)).setCells wr.heap.size 0 X) ad 13 rs2) := rz.keep (Kz.gr g2)
      have RA : Aside _ := ra
      have RL : Hid _ := rl
      have BHn : wr.heap.size < ((wr.alloc (.cells y92.toArray 92)).setCells wr.heap.size 0 X).heap.size := blk_lt bh
      clear g2 bh hl9 o9 c1 rz ra rl x24 x9 r10
      have hbn : n₀ ≤ wr.heap.size := I1.out.s
      clear I1
      gi_wp2
      generalize hbh : wr.heap.size = bh at I2 BH RZ BHn q1 q2 q20 a0 a1 a2 sA c24 hbn
      generalize ((wr.alloc (.cells y92.toArray 92)).setCells bh 0 X) = W2 at I2 BH RZ BHn c24
      generalize hpre : ((keysK K).take i).flatMap (fun b => statE K on b (K.at b).cd.abs) = pre0 at I2 hol
      have HPRE : Hid _ := hpre
      have HT : Hid _ := hT
      clear sA lk a0 a1 a2 q1 q2 q20 c24 hpre hT hbh BHn
      gi_loopw [32] (fun s w3 => ∃ j : Nat, s = .int .i64 j ∧ j ≤ (K.at k).cd.abs.length ∧ Aside (It Z n₀ cb sb tb bc bs gk K on kc J (pre0 ++ statE K on k ((K.at k).cd.abs.take j)) w3) ∧ Aside (w3.heap[bh]? = some (.cells X.toArray 92)) ∧ Aside (RowsZ Z w3 ad 13 rs2))
        (fun s _ => (K.at k).cd.abs.length - (intOf' s).toNat)
      case atStart => exact ⟨0, rfl, Nat.zero_le _, by rw [List.take_zero]; show Aside (It _ _ _ _ _ _ _ _ _ _ _ _ (pre0 ++ []) _); rw [List.append_nil]; exact I2, BH, RZ⟩
      case round =>
        clear I2 BH RZ
        obtain ⟨j, rfl, hj, I2, BH, RZ⟩ := hrel
        have wj : IntKind.i64.wrap ((j : Int) + 1) = (j : Int) + 1 := by rw [IntKind.wrap_i64]; omega
        rename_i w3
        by_cases hlj : j < (K.at k).cd.abs.length
        · have hljz : (j : Int) < ((K.at k).cd.abs.length : Int) := by omega
          have hjr : j < rs2.length := by rw [RL.out]; exact hlj
          have hr : rs2[j]? = some rs2[j] := List.getElem?_eq_getElem hjr
          have hA := RA.out j _ _ hr (List.getElem?_eq_getElem hlj)
          have hTj : (K.at k).cd.abs.take (j + 1) = (K.at k).cd.abs.take j ++ [(K.at k).cd.abs[j]] := List.take_succ_eq_append_getElem hlj
          have hlen : (pre0 ++ statE K on k ((K.at k).cd.abs.take j)).length < 1000000 := by
            have := statE_len K on k ((K.at k).cd.abs.take j)
            rw [List.length_take] at this
            rw [List.length_append]
            omega
          obtain ⟨B, O, hBO, _, _, hl⟩ := RZ.out.ld P hr hA.len
          subst hBO
          have lA := hl wr (Kz.refl _ _)
          rw [← S.s89] at lA
          generalize rs2[j] = q at hA lA
          generalize (K.at k).cd.abs[j] = y at hA hTj
          have hq8 : q.length = k89 := hA.len.trans S.s89.symm
          have sB := hold_st P (hold_new wr y89 89) q (hq8.trans hy8.symm) hA.one
          have bb := blk_put (blk_new wr (.cells y89.toArray 89)) q (hq8.trans hy8.symm)
          have g3 : Gr wr ((wr.alloc (.cells y89.toArray 89)).setCells wr.heap.size 0 q) := Gr.sets (W := wr) _ (Nat.le_refl _) _ _ ((Gr.refl _).alloc _)
          have I3 := I2.out.gr HJ.out g3
          have BH3 := blk_gr BH.out g3
          have RZ3 := RZ.out.keep (Kz.gr g3)
          have c0 := hold_cell (blk_hold bb) hA.q0
          have c2 := hold_cell (blk_hold bb) hA.q2
          have p1 := hold_cell (blk_hold I3.b1) (j := 0) (v := .pointer (some ⟨cb, 0, none⟩)) rfl
          have p2 := hold_cell (blk_hold I3.b2) (j := 0) (v := .int .i64 on) rfl
          have hst := statE_snoc K on k ((K.at k).cd.abs.take j) y
          rw [← hTj] at hst
          have CF3 := CF.out _ I3.c y.who k
          have fin : ∀ w4, Gr ((wr.alloc (.cells y89.toArray 89)).setCells wr.heap.size 0 q) w4 → (It Z n₀ cb sb tb bc bs gk K on kc J (pre0 ++ statE K on k ((K.at k).cd.abs.take j)) w4 ∧ w4.heap[bh]? = some (.cells X.toArray 92) ∧ RowsZ Z w4 (some ⟨B, O, none⟩) 13 rs2) ∧ (w4.cell? ⟨wr.heap.size, 10, none⟩ = some (.int .i64 y.op) ∧ w4.cell? ⟨wr.heap.size, 11, none⟩ = some (.int .i64 y.a) ∧ w4.cell? ⟨wr.heap.size, 12, none⟩ = some (.int .i64 y.b) ∧ w4.cell? ⟨bh, 9, none⟩ = some (.int .i64 (K.at k).stamp)) := fun w4 g => by
            have hb4 := blk_hold (blk_gr bb g)
            exact ⟨⟨I3.gr HJ.out g, blk_gr BH3 g, RZ3.keep (Kz.gr g)⟩, hold_cell hb4 hA.q10, hold_cell hb4 hA.q11, hold_cell hb4 hA.q12, hold_cell (blk_hold (blk_gr BH3 g)) X9.out⟩
          have FIN : Aside _ := fin
          have I3' : Aside _ := I3
          have BH3' : Aside _ := BH3
          have RZ3' : Aside (RowsZ Z ((wr.alloc (.cells y89.toArray 89)).setCells wr.heap.size 0 q) (some ⟨B, O, none⟩) 13 rs2) := RZ3
          have HST : Hid _ := hst
          have CF3' : Aside _ := CF.out _ I3.c y.who k
          clear fin hst I3 BH3 RZ3 bb g3 hA hl hr hjr hTj I2 BH RZ CF3
          generalize hW3 : ((wr.alloc (.cells y89.toArray 89)).setCells wr.heap.size 0 q) = W3 at sB c0 c2 p1 p2 FIN I3' BH3' RZ3' CF3'
          cases h4 : (y.kind == 4) with
          | false =>
            have hk4 : ¬ y.kind = 4 := by simpa using h4
            have HK4 : Hid _ := (show statE K on k ((K.at k).cd.abs.take (j + 1)) = statE K on k ((K.at k).cd.abs.take j) by rw [HST.out, if_neg (fun h => hk4 h.1), List.append_nil])
            gi_wp2
            go_roundw
            case rel => exact ⟨j + 1, by first | rfl | go_num, by omega, by rw [HK4.out]; exact I3', BH3', RZ3'⟩
            case measure => simp only [intOf']; omega
          | true =>
            have hk4 : y.kind = 4 := by simpa using h4
            cases hf : fitC y.who k on ((K.at k).ctrl == (K.at on).ctrl) with
            | false =>
              have HK4 : Hid _ := (show statE K on k ((K.at k).cd.abs.take (j + 1)) = statE K on k ((K.at k).cd.abs.take j) by rw [HST.out, if_neg (fun h => by rw [hf] at h; cases h.2), List.append_nil])
              rw [hf] at CF3'
              gi_wp2_with (first
                | (gi_at_fn 56; refine CallsIn.mono CF3'.out ?_; rintro e w4 ⟨rfl, hG⟩; obtain ⟨⟨i4, b4, z4'⟩, _⟩ := FIN.out _ hG; have I4 : Aside _ := i4; have B4 : Aside _ := b4; have Z4 : Aside (RowsZ Z w4 (some ⟨B, O, none⟩) 13 rs2) := z4'; clear i4 b4 z4' hG))
              go_roundw
              case rel => exact ⟨j + 1, by first | rfl | go_num, by omega, by rw [HK4.out]; exact I4, B4, Z4⟩
              case measure => simp only [intOf']; omega
            | true =>
              have HK4 : Hid _ := (show statE K on k ((K.at k).cd.abs.take (j + 1)) = statE K on k ((K.at k).cd.abs.take j) ++ [(y.op, y.a, y.b, (K.at k).stamp)] by rw [HST.out, if_pos ⟨hk4, hf⟩])
              rw [hf] at CF3'
              gi_wp2_with (first
                | (gi_at_fn 56; refine CallsIn.mono CF3'.out ?_; rintro e w4 ⟨rfl, hG⟩; obtain ⟨⟨i4, b4, z4'⟩, c10, c11, c12, c9⟩ := FIN.out _ hG; obtain ⟨fn, tmps, assign, body, hy, hR⟩ := HY.out _ (y.op, y.a, y.b, (K.at k).stamp) w4 i4.j hlen; have I4 : Aside _ := i4; have B4 : Aside _ := b4; have Z4 : Aside (RowsZ Z w4 (some ⟨B, O, none⟩) 13 rs2) := z4'; simp only [encE] at hy; clear i4 b4 z4' hG))
              refine hR.mono ?_
              clear hR hy c9 c10 c11 c12
              rintro e W5 (⟨rfl, hJ5, hk5⟩ | ⟨rfl, hJx⟩)
              · have I5 : Aside (It Z n₀ cb sb tb bc bs gk K on kc J (pre0 ++ statE K on k ((K.at k).cd.abs.take (j + 1))) W5) := by
                  rw [HK4.out, ← List.append_assoc]
                  exact I4.out.yield HO.out hJ5 hk5
                have B5 : Aside (W5.heap[bh]? = some (.cells X.toArray 92)) := hk5.2 _ _ (by have := HO.out.xl; omega) B4.out (.inr ⟨_, _, _, rfl, by decide⟩)
                have Z5 : Aside (RowsZ Z W5 (some ⟨B, O, none⟩) 13 rs2) := Z4.out.keep (hk5.kz HO.out)
                clear hJ5 hk5
                gi_wp2
                go_roundw
                case rel => exact ⟨j + 1, by first | rfl | go_num, by omega, I5, B5, Z5⟩
                case measure => simp only [intOf']; omega
              · gi_wp2
                refine bodyPost_ret (results_none rfl _ _ _) rfl ?_
                exact ⟨⟨_, rfl⟩, .inr ⟨_, trivial, hJx⟩⟩
        · have hljz : ¬ (j : Int) < ((K.at k).cd.abs.length : Int) := by omega
          obtain rfl : j = (K.at k).cd.abs.length := by omega
          gi_wp2
          go_roundw
          case rel => exact ⟨i + 1, by first | rfl | go_num, by omega, by rw [HT.out, List.flatMap_append, HPRE.out]; have := I2.out; rw [List.take_length] at this; simp only [List.flatMap_cons, List.flatMap_nil, List.append_nil]; exact this⟩
          case measure => simp only [intOf']; omega
    · have hltz : ¬ (i : Int) < ((keysK K).length : Int) := by omega
      obtain rfl : i = (keysK K).length := by omega
      have hol : ((keysK K).flatMap (fun b => statE K on b (K.at b).cd.abs)).length ≤ 256000 := by
        refine Nat.le_trans (flat_len' _ 1000 _ (fun b _ => Nat.le_trans (statE_len _ _ _ _) (I1.out.c.nab b))) ?_
        omega
      have I2 : Aside (It Z n₀ cb sb tb bc bs gk K on kc J ((keysK K).flatMap (fun b => statE K on b (K.at b).cd.abs)) wr.drew) := by
        have := I1.out
        rw [List.take_length] at this
        exact this.gr HJ.out (Gr.refl _).drew
      clear I1
      generalize hpre : (keysK K).flatMap (fun b => statE K on b (K.at b).cd.abs) = pre0 at I2 hol
      have q1 := hold_cell (blk_hold I2.out.b1) (j := 0) (v := .pointer (some ⟨cb, 0, none⟩)) rfl
      have q2 := hold_cell (blk_hold I2.out.b2) (j := 0) (v := .int .i64 on) rfl
      obtain ⟨ca, cc, d0, d1, d2, d3, rs, c1, _⟩ := I2.out.c.c
      obtain ⟨n, G, s1, s2⟩ := I2.out.c.s
      obtain ⟨⟨a0, a1, a2, _⟩, _⟩ := ca_cells c1
      obtain ⟨ob, cr, e1, kh⟩ : ∃ ob cr, G on = some (.agg (ob ++ cr).toArray) ∧ HdR Z wr.drew ob cr (K.at on) := by
        have h := s2 on
        obtain ⟨hd, hh⟩ := Option.isSome_iff_exists.1 HN.out
        unfold Ca.at
        rw [hh] at h ⊢
        cases hf : G on with
        | none => rw [hf] at h; exact h.elim
        | some v =>
          rw [hf] at h
          obtain ⟨ob, cr, rfl, kh⟩ := h
          exact ⟨ob, cr, rfl, kh⟩
      have lk := s1.look L.t83 L.t3 L.v92 on
      rw [e1] at lk
      simp only [Option.getD_some] at lk
      obtain ⟨ea, ec, o13, rz⟩ := kh.ef
      have f1 := fld_objP L S (cr := cr) kh.len
      have f2 := fld_effP L o13
      have hne := kh.n
      have RZ : Aside (RowsZ Z wr.drew ea 4 ((K.at on).effs.map encE)) := rz
      have HPRE : Hid _ := hpre
      clear kh e1 s1 s2 c1 o13 rz hpre
      gi_wp2
      obtain ⟨Ffn, Fdep, Fal, Frd⟩ := F
      obtain rfl : Frd = none := hro
      gi_big_region_o
      clear lk f1 f2 a0 a1 a2 q1 q2
      generalize wr.drew = W2 at I2 RZ ⊢
      gi_wp2
      gi_loopw [73] (fun s w3 => ∃ j : Nat, s = .int .i64 j ∧ j ≤ (K.at on).effs.length ∧ Aside (It Z n₀ cb sb tb bc bs gk K on kc J (pre0 ++ (K.at on).effs.take j) w3) ∧ Aside (RowsZ Z w3 ea 4 ((K.at on).effs.map encE)))
        (fun s _ => (K.at on).effs.length - (intOf' s).toNat)
      case atStart => exact ⟨0, rfl, Nat.zero_le _, by rw [List.take_zero, List.append_nil]; exact I2, RZ⟩
      case round =>
        clear I2 RZ
        obtain ⟨j, rfl, hj, I2, RZ⟩ := hrel
        have wj : IntKind.i64.wrap ((j : Int) + 1) = (j : Int) + 1 := by rw [IntKind.wrap_i64]; omega
        by_cases hlj : j < (K.at on).effs.length
        · have hljz : (j : Int) < ((K.at on).effs.length : Int) := by omega
          have hr : ((K.at on).effs.map encE)[j]? = some (encE (K.at on).effs[j]) := by rw [List.getElem?_map, List.getElem?_eq_getElem hlj]; rfl
          have hTj : (K.at on).effs.take (j + 1) = (K.at on).effs.take j ++ [(K.at on).effs[j]] := List.take_succ_eq_append_getElem hlj
          have hlen : (pre0 ++ (K.at on).effs.take j).length < 1000000 := by
            rw [List.length_append, List.length_take]
            omega
          obtain ⟨B, O, hBO, hZB, hBl, hl⟩ := RZ.out.ld P hr (encE_len _)
          subst hBO
          have lA := RZ.out.cells hr
          generalize (K.at on).effs[j] = y at hTj lA
          obtain ⟨y0, y1, y2, y3⟩ := y
          have r0 := lA 0 _ rfl
          have r1 := lA 1 _ rfl
          have r2 := lA 2 _ rfl
          have r3 := lA 3 _ rfl
          rw [Nat.add_zero] at r0
          clear lA
          have g3 : Gr wr (wr.alloc (.cells #[.int .i64 y0, .int .i64 y1, .int .i64 y2, .int .i64 y3] 49)) := (Gr.refl _).alloc _
          have I3 := I2.out.gr HJ.out g3
          have RZ3 := RZ.out.keep (Kz.gr g3)
          obtain ⟨fn, tmps, assign, body, hy, hR⟩ := HY.out _ (y0, y1, y2, y3) _ I3.j hlen
          have I3' : Aside _ := I3
          have RZ3' : Aside (RowsZ Z _ (some ⟨B, O, none⟩) 4 ((K.at on).effs.map encE)) := RZ3
          have HTJ : Hid _ := hTj
          simp only [encE] at hy
          clear g3 I3 RZ3 hr hl hTj I2 RZ
          gi_wp2
          refine hR.mono ?_
          clear hR hy
          rintro e W5 (⟨rfl, hJ5, hk5⟩ | ⟨rfl, hJx⟩)
          · have I5 : Aside (It Z n₀ cb sb tb bc bs gk K on kc J (pre0 ++ (K.at on).effs.take (j + 1)) W5) := by
              rw [HTJ.out, ← List.append_assoc]
              exact I3'.out.yield HO.out hJ5 hk5
            have Z5 : Aside (RowsZ Z W5 (some ⟨B, O, none⟩) 4 ((K.at on).effs.map encE)) := RZ3'.out.keep (hk5.kz HO.out)
            clear hJ5 hk5
            gi_wp2
            go_roundw
            case rel => exact ⟨j + 1, by first | rfl | go_num, by omega, I5, Z5⟩
            case measure => simp only [intOf']; omega
          · gi_wp2
            refine bodyPost_ret (results_none rfl _ _ _) rfl ?_
            exact ⟨⟨_, rfl⟩, .inr ⟨_, trivial, hJx⟩⟩
        · have hljz : ¬ (j : Int) < ((K.at on).effs.length : Int) := by omega
          obtain rfl : j = (K.at on).effs.length := by omega
          gi_wp2
          go_end0
          refine ⟨⟨_, rfl⟩, .inl ?_⟩
          have := I2.out.j
          rw [List.take_length, ← HPRE.out] at this
          first | exact this | exact ⟨_, rfl, this⟩
end Go.Proofs.Yticgadnmlbfmfaa.cachePlays
