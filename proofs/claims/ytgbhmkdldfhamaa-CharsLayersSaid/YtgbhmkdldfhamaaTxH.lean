/-
  The law CharsLayers: from the entry to the outer loop, what the kernel runs; works().
-/
import Derived.Test.YtgbhmkdldfhamaaTxG
import Derived.Test.YtgbhmkdldfhamaaRows
import Derived.Test.YtgbhmkdldfhamaaTxF
import Derived.WalkKit
import Derived.ProofKit
import Derived.OpenShut
import Derived.Deep.Slices
namespace Go.Proofs.Ytgbhmkdldfhamaa.layers
open Go.Ev Go.RowKit
set_option linter.unusedVariables false
noncomputable section
theorem ran15 : runV Try.prog 20000 15 = true := by kernel_rfl
theorem walk15 (w : World) : Calls Try.prog 15 #[] w fun e w' => e = .returned (.bool true) ∧ Below w.heap.size w w' := runV_calls (noNG_of noNG) mixed ran15 w
def wkK : List KE := [⟨15, [], [], .bool true⟩]
theorem wkK_ok {ρ : Rho} {w : World} {S : Nat → Prop} : ∀ e ∈ wkK, KEok Try.prog ρ w e S := by
  intro e he
  simp only [wkK, List.mem_singleton] at he
  subst he
  intro φ vs w' hφ h1 h2 hv hp
  simp only [VRs] at hv
  subst hv
  refine (walk15 w').mono ?_
  rintro en w'' ⟨rfl, hb⟩
  exact ⟨_, rfl, by simp only [VR], hb⟩
/-! ### pieces of code -/
def sq1 : Code → Code
  | .seq a _ => a
  | c => c
def sq2 : Code → Code
  | .seq _ b => b
  | c => c
def rops : Code → List Oper
  | .region _ ops _ => ops.toList
  | _ => []
def rid : Code → Nat
  | .region id _ _ => id
  | _ => 0
theorem evN_fe [Ext] {P : Program} (hng : NoNG P) (hm : P.follows .mixedOrders = true) {kn : KN} (hK : KnOK P kn) (n : Nat) : FEok P (evN P (drawRun P) kn n).2 := (evN_sound hng (fun _ h => drawRun_sound hng hm h) hK n).2.2
abbrev feK (P : Program) (K : List KE) : FE := (evN P (drawRun P) (knL K) 20000).2
theorem feK_ok {P : Program} (hng : NoNG P) (hm : P.follows .mixedOrders = true) {K : List KE} {S : Nat → Prop} : @FEok (XK P K S) P (feK P K) := by
  letI : Ext := XK P K S
  exact evN_fe hng hm (knL_ok fun _ _ h => h) 20000
/-- A Go call by its operation: what is asked. -/
def entB (P : Program) (o : Option Oper) (a : VT) (H : VH) (d : Nat) (f : FuncId) (args : List VV) : Bool := match o with
  | some o => match o.guard, o.dst with
    | none, some d' => match Nat.beq d d', (evE P o.op a H).get with
      | true, .enter g l => match Nat.beq f g with
        | true => vvsEq l args
        | false => false
      | _, _ => false
    | _, _ => false
  | none => false
theorem entB_of {P : Program} {o : Option Oper} {a : VT} {H : VH} {d : Nat} {f : FuncId} {args : List VV} (h : entB P o a H d f args = true) : ∃ o', o = some o' ∧ o'.guard = none ∧ o'.dst = some d ∧ (evE P o'.op a H).get = .enter f args := by
  unfold entB at h
  split at h
  · rename_i o'
    split at h
    · rename_i d' hg hd
      split at h
      · rename_i g l hb0 he
        split at h
        · rename_i hb
          rw [vvsEq_eq _ _ h, ← Nat.eq_of_beq_eq_true hb] at he
          rw [← Nat.eq_of_beq_eq_true hb0] at hd
          exact ⟨o', rfl, hg, hd, he⟩
        · cases h
      · cases h
    · cases h
  · cases h
def ly0 : Code := sq1 lybody
def ly1 : Code := sq1 (sq2 lybody)
def ly3 : Code := sq1 (sq2 (sq2 lybody))
def ly4 : Code := sq1 (sq2 (sq2 (sq2 lybody)))
def ly5 : Code := sq2 (sq2 (sq2 (sq2 lybody)))
def o3 : List Oper := rops ly3
def o4 : List Oper := rops ly4
theorem lyshape : lybody = .seq ly0 (.seq ly1 (.seq ly3 (.seq ly4 ly5))) := by kernel_rfl
theorem ly3_eq : ly3 = .region (rid ly3) ⟨o3⟩ false := by kernel_rfl
theorem ly4_eq : ly4 = .region (rid ly4) ⟨o4⟩ false := by kernel_rfl
def E0 : Env := ⟨fun _ => none, ivAt [], [], fun _ => none⟩
/-! ### to the first call -/
def lyp1 : Option (VT × VH) := match rcK Try.prog wkK Try.f5.ntmps ly0 (listT [.sym 0] 0 .lf) ⟨E0, .lf, 0⟩ with
  | some (.normal, a, H) => match rcK Try.prog wkK Try.f5.ntmps ly1 a H with
    | some (.normal, a, H) => runOps Try.prog (feK Try.prog wkK) Try.f5.ntmps o3 (o3.take 1) a H
    | _ => none
  | _ => none
def lyq1 : Bool := match lyp1 with
  | some (a, H) => entB Try.prog (o3[1]?) a H 18 16 [.sym 0]
  | none => false
theorem lyq1T : lyq1 = true := by kernel_rfl
theorem lyp1_of : ∃ a1 H1 a2 H2 a3 H3, rcK Try.prog wkK Try.f5.ntmps ly0 (listT [.sym 0] 0 .lf) ⟨E0, .lf, 0⟩ = some (.normal, a1, H1) ∧ rcK Try.prog wkK Try.f5.ntmps ly1 a1 H1 = some (.normal, a2, H2) ∧ runOps Try.prog (feK Try.prog wkK) Try.f5.ntmps o3 (o3.take 1) a2 H2 = some (a3, H3) ∧ entB Try.prog (o3[1]?) a3 H3 18 16 [.sym 0] = true := by
  have h := lyq1T
  unfold lyq1 at h
  split at h
  · rename_i a3 H3 hp
    unfold lyp1 at hp
    split at hp
    · rename_i a1 H1 h1
      split at hp
      · rename_i a2 H2 h2
        exact ⟨a1, H1, a2, H2, a3, H3, h1, h2, hp, h⟩
      · cases hp
    · cases hp
  · cases h
/-! ### behind it -/
def lyp2 : Option (VT × VH) := runOps Try.prog (feK Try.prog []) Try.f5.ntmps o3 (o3.drop 2) (mkT Try.f5.ntmps [(18, stV)]) ⟨E0, .lf, 0⟩
def lyq2 : Bool := match lyp2 with
  | some (a, H) => match vvEq (tget a 3) (.ptr (some ⟨.loc 0, 0⟩)), H.locs.get 0 with
    | true, some (.cells c none _ _) => match vvsEq c lySt with
      | true => entB Try.prog (o4[0]?) a H 19 17 []
      | false => false
    | _, _ => false
  | none => false
theorem lyq2T : lyq2 = true := by kernel_rfl
theorem lyp2_of : ∃ a H ro et, lyp2 = some (a, H) ∧ tget a 3 = .ptr (some ⟨.loc 0, 0⟩) ∧ H.locs.get 0 = some (.cells lySt none ro et) ∧ entB Try.prog (o4[0]?) a H 19 17 [] = true := by
  have h := lyq2T
  unfold lyq2 at h
  split at h
  · rename_i a H hp
    split at h
    · rename_i h1 h2
      split at h
      · rename_i h3
        rw [vvsEq_eq _ _ h3] at h2
        exact ⟨a, H, _, _, hp, vvEq_eq _ _ h1, h2, h⟩
      · cases h
    · cases h
  · cases h
/-! ### behind the pool; to the loop -/
def lyp3 : Option (VT × VH) := runOps Try.prog (feK Try.prog []) Try.f5.ntmps o4 (o4.drop 1) (mkT Try.f5.ntmps [(3, .ptr (some ⟨.sym 5, 0⟩)), (19, .sym 90)]) ⟨E0, .lf, 0⟩
def lyz5 : Option SegO := match lyp3 with
  | some (a, H) => seg (rcK Try.prog []) Try.f5.ntmps [0, 1] 1000 ly5 0 [] a H
  | none => none
def lyb5 : List VV := [i8 0, i8 1, i8 1, i8 2, i8 3]
def lyq3 : Bool := match lyz5 with
  | some (.cut 0 a H) => match keepL a [(3, .ptr (some ⟨.sym 5, 0⟩)), (4, .sym 90), (5, .ptr (some ⟨.loc 0, 0⟩)), (6, i8 1)], H.locs.get 0 with
    | true, some (.cells c none _ _) => vvsEq c lyb5
    | _, _ => false
  | _ => false
theorem lyq3T : lyq3 = true := by kernel_rfl
theorem lyp3_of : ∃ a H a' H' ro et, lyp3 = some (a, H) ∧ seg (rcK Try.prog []) Try.f5.ntmps [0, 1] 1000 ly5 0 [] a H = some (.cut 0 a' H') ∧ keepL a' [(3, .ptr (some ⟨.sym 5, 0⟩)), (4, .sym 90), (5, .ptr (some ⟨.loc 0, 0⟩)), (6, i8 1)] = true ∧ H'.locs.get 0 = some (.cells lyb5 none ro et) := by
  have h := lyq3T
  unfold lyq3 at h
  split at h
  · rename_i a' H' hp
    unfold lyz5 at hp
    split at hp
    · rename_i a H h1
      split at h
      · rename_i h2 h3
        rw [vvsEq_eq _ _ h] at h3
        exact ⟨a, H, a', H', _, _, h1, hp, h2, h3⟩
      · cases h
    · cases hp
  · cases h
end
end Go.Proofs.Ytgbhmkdldfhamaa.layers
namespace Go.Proofs.Ytgbhmkdldfhamaa.layers
open Go.Ev Go.RowKit
set_option linter.unusedVariables false
noncomputable section
theorem body5 : Try.f5.body = some lybody := rfl
theorem anc_below {w w' : World} (h : Below w.heap.size w w') : Anc w w' := ⟨⟨h.os, h.tape, h.output, h.size⟩, fun k hk => h.block k hk⟩
theorem anc_back {w w' : World} (h : Anc w w') : Below w.heap.size w w' := ⟨h.wk.os, h.wk.tape, h.wk.output, h.wk.size, h.old⟩
theorem E0_ok {X : Ext} {ρ : Rho} {w : World} (hx : X.ok ρ w) (hf : ∀ k, I64 (ρ.int k)) : @EnvOK X E0 ⟨fun _ => none, ρ⟩ w :=
  @EnvOK.mk X _ _ _ hx (ivs_nil hf) (fun f hf => by cases hf) (fun k c hk => by cases hk)
/-- Symbols of the argument; of the state; of the state's place and the pool. -/
def arho (v : Value) (h : v.oneCell' = true) : Rho := ⟨fun _ => 0, fun _ => v, fun _ => 0, fun _ => 0, fun _ => h, fun _ => [], fun _ _ h => by cases h⟩
def grho (G : StG) : Rho := ⟨fun _ => 0, qval G, fun _ => 0, fun _ => 0, qval_one, fun _ => [], fun _ _ h => by cases h⟩
def prho (p : PoG) (b o : Nat) : Rho := ⟨fun _ => 0, fun _ => p.v, fun _ => b, fun _ => o, fun _ => rfl, fun _ => [], fun _ _ h => by cases h⟩
theorem sym_cells {φ : Phi} {w : World} {B O : Nat} {us : List Value} {l : List VV} (hl : ∀ x ∈ l, ∃ k, x = .sym k) (h1 : VRs φ l us) (hlt : B < w.heap.size) (hc : ∀ j x, l[j]? = some x → ∃ y, w.cell? ⟨B, O + j, none⟩ = some y ∧ VR φ x y) : CellsAt w B O us :=
  ⟨hlt, fun j v hj => by
    have hlen := VRs_length _ _ h1
    have hj' : j < l.length := by rw [hlen]; exact (List.getElem?_eq_some_iff.1 hj).1
    obtain ⟨v', e1, e2⟩ := VRs_at h1 (List.getElem?_eq_getElem hj')
    obtain ⟨y, y1, y2⟩ := hc j _ (List.getElem?_eq_getElem hj')
    rw [hj] at e1
    cases e1
    obtain ⟨k, hk⟩ := hl _ (List.getElem_mem hj')
    rw [hk] at e2 y2
    simp only [VR] at e2 y2
    rw [y1, y2, e2]⟩
theorem lySt_sym : ∀ x ∈ lySt, ∃ k, x = VV.sym k := by
  intro x hx
  simp only [lySt, stV, List.mem_cons, List.not_mem_nil, or_false] at hx
  rcases hx with rfl | rfl | rfl | rfl | rfl | rfl | rfl | rfl | rfl | rfl | rfl | rfl | rfl | rfl | rfl | rfl | rfl | rfl | rfl | rfl | rfl | rfl | rfl | rfl | rfl <;> exact ⟨_, rfl⟩
theorem num_cells {φ : Phi} {w : World} {B O : Nat} (hlt : B < w.heap.size) (hc : ∀ j x, lyb5[j]? = some x → ∃ y, w.cell? ⟨B, O + j, none⟩ = some y ∧ VR φ x y) : CellsAt w B O lay5 :=
  ⟨hlt, fun j v hj => by
    have key : ∀ n, lyb5[j]? = some (i8 n) → w.cell? ⟨B, O + j, none⟩ = some (n64 n) := fun n hn => by
      obtain ⟨y, y1, y2⟩ := hc j _ hn
      rw [y1, i8V y2]
      rfl
    match j with
    | 0 => cases hj; exact key 0 rfl
    | 1 => cases hj; exact key 1 rfl
    | 2 => cases hj; exact key 1 rfl
    | 3 => cases hj; exact key 2 rfl
    | 4 => cases hj; exact key 3 rfl
    | j + 5 => simp [lay5] at hj⟩
/-- What is asked at the end. -/
def lyQ (w0 : World) : Exit → Act → World → Prop := fun e act w => (e = .ret ∨ e = .normal) ∧ act.defers = [] ∧ ∃ v, (results Try.f5 act.tmps).run Try.prog w = .ok v w ∧ Ending.returned v = .returned (.bool true) ∧ Below w0.heap.size w0 w
theorem FoIn.OK.later {f : FoIn} {w w' : World} (h : f.OK w) (hs : w.heap.size ≤ w'.heap.size) (hb : ∀ k, k < w.heap.size → w'.heap[k]? = w.heap[k]?) : f.OK w' :=
  ⟨h.n, h.fit, fun i e he => by
    obtain ⟨g1, g2, g3⟩ := h.cl i e he
    refine ⟨g1, by omega, fun j hj => ?_⟩
    rw [← g3 j hj]
    unfold World.cell?
    rw [hb _ g2]⟩
/-- At the heads. -/
inductive LyI (y : LyG) (w0 w1 : World) : Nat → Nat → Act → World → Prop
  | out {j : Nat} {act : Act} {w : World} : j ≤ y.g.m → LoT y ((j : Int) + 1) act → LyM y w0 w1 w → LyI y w0 w1 ((y.g.m - j) * 100) 0 act w
  | inn {j i : Nat} {act : Act} {w : World} {e : EfG} {f : FoIn} {b8 o8 : Nat} : j < y.g.m → e.OK ((j : Int) + 1) w → (∀ x ∈ e.all, Ok4 x) → f.l = e.all → f.OK w → CellsAt w b8 o8 (num3 (foldN e.base e.all)) → i ≤ f.l.length → LiT y ((j : Int) + 1) f b8 o8 i ((f.l.take i).foldl stepP e.base) act → LyM y w0 w1 w → LyI y w0 w1 ((y.g.m - j) * 100 - 1 - i) 1 act w
section
variable {w0 w1 w : World} {y : LyG} {act : Act} {HD : Nat → Act → World → Prop}
set_option maxRecDepth 4000 in
theorem ly_end (hM : LyM y w0 w1 w) {c : Code} {K : List Fr1} (hc : ctx 0 lybody 0 [] = some (c, K)) (hat : At1 lybody (.loop c) 0 K) (hko : KOK lybody K) (ha : LoT y ((y.g.m : Int) + 1) act) :
    c.wpIn (Fr none) 0 Try.prog (postK Try.prog HD (lyQ w0) (.lp c 0 :: K)) act w := by
  letI : Ext := XK Try.prog [] (fun _ => False)
  obtain ⟨a, H, hseg, hres⟩ := lyz_of
  unfold lyz lyseg at hseg
  rw [hc] at hseg
  simp only at hseg
  have hno := hM.pls.no
  have hm := hM.pls.m10
  let ρ : Rho := ⟨fun k => if k = 3 then (y.g.m : Int) + 1 else if k = 14 then (y.G.os.length : Int) else 0, fun k => if k = 90 then y.p.v else qval y.G k, fun k => if k = 5 then y.b5 else y.b6, fun k => if k = 5 then y.o5 else y.o6, fun k => by show (if k = 90 then y.p.v else qval y.G k).oneCell' = true; split; rfl; exact qval_one _, fun _ => [], fun _ _ h => by cases h⟩
  have hst : StRho y.G ρ := ⟨fun k hk => if_neg (by omega)⟩
  have htr : TR ⟨fun _ => none, ρ⟩ (mkT Try.f5.ntmps (lyT (si 3))) act.tmps := by
    have h1 : ∀ q ∈ lyT (si 3), q.1 < top ∧ VR ⟨fun _ => none, ρ⟩ q.2 (act.tmps.getD q.1 undef) := by
      intro q hq
      simp only [lyT, List.mem_cons, List.not_mem_nil, or_false] at hq
      rcases hq with rfl | rfl | rfl | rfl
      · exact ⟨show 3 < top by decide, by simp only [ha.t3, VR, AR]; exact ⟨_, _, ⟨rfl, rfl⟩, rfl⟩⟩
      · exact ⟨show 4 < top by decide, by simp only [ha.t4, VR]; rfl⟩
      · exact ⟨show 5 < top by decide, by simp only [ha.t5, VR, AR]; exact ⟨_, _, ⟨rfl, rfl⟩, rfl⟩⟩
      · exact ⟨show 6 < top by decide, by simp only [ha.t6, si, VR]; rfl⟩
    exact mkT_TR ha.sz nt5 h1
  refine plain_part (X := XK Try.prog [] (fun _ => False)) (ρ := ρ) (hrcK (noNG_of noNG) mixed) nt5 hat.loop.2 hko hseg htr (EnvOK.mk (fun e he => by cases he) (ivs_nil fun k => ?_) ?_ ?_) (fun r => rfl) ha.sz ha.df (fun k h => h) fun act' w' φ b => ?_
  · show I64 (if k = 3 then (y.g.m : Int) + 1 else if k = 14 then (y.G.os.length : Int) else 0)
    split
    · exact ⟨by omega, by omega⟩
    split
    · exact ⟨by omega, by omega⟩
    · exact i64_0
  · have h1 : FsOK [.len false (.sym 41) (si 14), .bin .leq (si 3) (si 14) (.bool false)] ρ :=
      fs_cons (fact_lenV (a := y.G.oa) (n := y.G.os.length) (c := y.G.oc) rfl rfl) (fs_cons (fact_leqG rfl rfl (decide_eq_false (show ¬ (y.g.m : Int) + 1 ≤ (y.G.os.length : Int) by omega))) fs_nil)
    exact fun x hx => FactOK.w (h1 x hx)
  · intro k c hk
    dsimp only at hk
    split at hk
    · cases hk
      exact cells_blk hM.st (lySt_VR hst)
    · cases hk
  · obtain ⟨v', r1, r2⟩ := results_sound (P := Try.prog) b.tr b.sim (fn := Try.f5) hres
    have r3 : v' = .bool true := by
      simpa only [oneV, VR] using r2
    refine ⟨.inl rfl, b.df, v', r1, by rw [r3], ?_⟩
    exact anc_back (hM.anc.trans ⟨b.wk, fun k hk => b.same k hk (fun h => h)⟩)
theorem ly_heads (hg : ∀ k, 0 ≤ y.g.x k ∧ y.g.x k ≤ 255) : ∀ k t act w', LyI y w0 w1 k t act w' → ∀ c K, ctx t lybody 0 [] = some (c, K) → At1 lybody (.loop c) t K → KOK lybody K → ∀ HD : Nat → Act → World → Prop, (∀ t' act' w'', (∃ j, j < k ∧ LyI y w0 w1 j t' act' w'') → HD t' act' w'' ∧ ∀ c' K', ctx t' lybody 0 [] = some (c', K') → (Code.loop c').wpIn (Fr none) 0 Try.prog (postK Try.prog HD (lyQ w0) K') act' w'') →
      c.wpIn (Fr none) 0 Try.prog (postK Try.prog HD (lyQ w0) (.lp c t :: K)) act w' := by
  rintro k t act w' hI c K hc hat hko HD hHD
  cases hI with
  | @out j _ _ hj ha hM =>
    by_cases hlt : j < y.g.m
    · obtain ⟨e, e1, e2, e3, e4, e5⟩ := hM.pls.ef_at hg hM.pok hlt
      have hno := hM.pls.no
      have hsm := all_small (hg j) e4
      have hle : (j : Int) + 1 ≤ (y.G.os.length : Int) := by omega
      by_cases hall : e.all = []
      · refine ou_round0 hM e5 e1 e2 (by rw [e3]) hle hall hc hat hko ha fun act' w'' ha' hw hs => hHD 0 act' w'' ⟨(y.g.m - (j + 1)) * 100, by omega, ?_⟩
        exact .out (by omega) (by rw [show (((j + 1 : Nat) : Int)) + 1 = (j : Int) + 1 + 1 by omega]; exact ha') (hM.later hw hs)
      · refine ou_round1 hM e5 e1 e2 (by rw [e3]) hle hall hc hat hko ha fun act' w'' f b8 o8 f1 f2 f3 f4 hw hs => hHD 1 act' w'' ⟨(y.g.m - j) * 100 - 1 - 0, by omega, ?_⟩
        exact .inn hlt (e5.later hw.size hs) hsm f1 f2 f3 (Nat.zero_le _) f4 (hM.later hw hs)
    · obtain rfl : j = y.g.m := by omega
      exact ly_end hM hc hat hko ha
  | @inn j i _ _ e f b8 o8 hj e5 hsm f1 f2 f3 hi ha hM =>
    have h18 := all_len e5
    have hfl : f.l.length = e.all.length := by rw [f1]
    have hfit : ((f.l.take i).foldl stepP e.base).Fit := foldP_fit _ _ (base_fit e) fun x hx => f2.fit x (List.mem_of_mem_take hx)
    have hm := hM.pls.m10
    by_cases hlt : i < f.l.length
    · refine li_round hM ⟨by omega, by omega⟩ f2 (by omega) hfit (fun x hx => (hsm x (by rw [← f1]; exact hx)).2) (by rw [f1]; exact all_sorted e) hlt hc hat hko ha fun act' w'' ha' hw hs => hHD 1 act' w'' ⟨(y.g.m - j) * 100 - 1 - (i + 1), by omega, ?_⟩
      refine .inn hj (e5.later hw.size hs) hsm f1 (f2.later hw.size hs) (f3.later hw.size hs) hlt ?_ (hM.later hw hs)
      rw [List.take_add_one, at_of hlt, List.foldl_append]
      exact ha'
    · obtain rfl : i = f.l.length := by omega
      have hs' : (f.l.take f.l.length).foldl stepP e.base = foldN e.base e.all := by
        rw [List.take_length, f1, ef_fold e5 hsm]
      rw [hs'] at ha hfit
      refine li_exit hM ⟨by omega, by omega⟩ f2 hfit f3 hc hat hko ha fun act' w'' ha' hw hs => hHD 0 act' w'' ⟨(y.g.m - (j + 1)) * 100, by omega, ?_⟩
      exact .out (by omega) (by rw [show (((j + 1 : Nat) : Int)) + 1 = (j : Int) + 1 + 1 by omega]; exact ha') (hM.later hw hs)
theorem hno0 : ∀ k, ¬ (fun _ : Nat => False) k := fun k h => h
/-- Behind the pool. -/
theorem ly_tail (hg : ∀ k, 0 ≤ y.g.x k ∧ y.g.x k ≤ 255) {w6 : World} {act6 : Act} (hz : act6.tmps.size = Try.f5.ntmps) (hd : act6.defers = []) (t3 : act6.tmps.getD 3 undef = .pointer (some ⟨y.b5, y.o5, none⟩)) (t19 : act6.tmps.getD 19 undef = y.p.v) (an : Anc w0 w6) (hP : PlS y.g w1 y.G w6) (hp : y.p.OK w6) (c5 : CellsAt w6 y.b5 y.o5 (cellsV y.G.v)) :
    wpOpsIn (Fr none) 0 Try.prog ⟨o4⟩ (Exit.then (ly5.wpIn (Fr none) 0 Try.prog (lyQ w0)) (lyQ w0)) [1] act6 w6 := by
  letI X2 : Ext := XK Try.prog [] (fun _ => False)
  have hng := noNG_of noNG
  have hat : At1 lybody lybody 0 [] := fun t _ _ => rfl
  have hat5 : At1 lybody ly5 (0 + nl ly0 + nl ly1 + nl ly3 + nl ly4) [] := by
    have h1 : At1 lybody (.seq ly0 (.seq ly1 (.seq ly3 (.seq ly4 ly5)))) 0 [] := by rw [← lyshape]; exact hat
    exact h1.seq.2.seq.2.seq.2.seq.2
  have hat5' : At1 lybody ly5 0 [] := by
    rw [show (0 + nl ly0 + nl ly1 + nl ly3 + nl ly4) = 0 by kernel_rfl] at hat5
    exact hat5
  obtain ⟨a7, H7, a8, H8, ro8, et8, r1, r2, r3, r4⟩ := lyp3_of
  have k6 : @RSN X2 w6 (· = prho y.p y.b5 y.o5) Try.f5.ntmps (mkT Try.f5.ntmps [(3, .ptr (some ⟨.sym 5, 0⟩)), (19, .sym 90)]) ⟨E0, .lf, 0⟩ act6 w6 := by
    have hl : ∀ q ∈ [(3, VV.ptr (some ⟨.sym 5, 0⟩)), (19, VV.sym 90)], q.1 < top ∧ VR ⟨fun _ => none, prho y.p y.b5 y.o5⟩ q.2 (act6.tmps.getD q.1 undef) := by
      intro q hq
      simp only [List.mem_cons, List.not_mem_nil, or_false] at hq
      rcases hq with rfl | rfl
      · refine ⟨show 3 < top by decide, ?_⟩
        simp only [t3, VR, AR]
        exact ⟨_, _, ⟨rfl, rfl⟩, rfl⟩
      · refine ⟨show 19 < top by decide, ?_⟩
        simp only [t19, VR]
        rfl
    exact @RSN.here X2 (prho y.p y.b5 y.o5) E0 _ _ _ w6 hz nt5 hd hl (E0_ok (X := X2) (fun e he => by cases he) fun k => i64_0) (fun r => rfl) hno0
  rw [show ([1] : List Nat) = List.range' (o4.take 1).length (o4.drop 1).length ++ [] by kernel_rfl]
  refine @opsN_sound X2 _ hng _ (feK_ok hng mixed) _ _ _ _ nt5 (Nat.le_refl _) _ (o4.take 1) (o4.drop 1) [] (by rw [List.append_nil]; exact (List.take_append_drop 1 o4).symm) _ _ _ _ r1 _ _ k6 _ _ fun act7 w7 hb7 k7 => ?_
  show ly5.wpIn (Fr none) 0 Try.prog (lyQ w0) act7 w7
  refine @segN_sound Try.prog (lyQ w0) (fun t act w => ∃ j, j ≤ y.g.m * 100 ∧ ∃ y' : LyG, y'.g = y.g ∧ LyI y' w0 w1 j t act w) X2 (fun _ => True) trivial _ (hrcK hng mixed) _ _ _ _ nt5 (Nat.le_refl _) lybody _ _ _ _ [] _ _ _ hat5' trivial r2 _ _ k7 ?_
  intro act8 w8 hb8 k8
  have an8 : Anc w6 w8 := @RSN.anc X2 _ _ _ _ _ _ _ k8 hno0
  obtain ⟨φ8, hφ8, ht8, hs8, _, hz8, hd8⟩ := k8
  obtain ⟨inf8, j1, j2, j3⟩ := @HSim.cellsAt X2 _ _ _ _ hs8 _ _ _ _ _ r4
  have hq := keepL_VR ht8 r3
  have b3 := hq (3, .ptr (some ⟨.sym 5, 0⟩)) (by simp)
  have b4 := hq (4, .sym 90) (by simp)
  have b5 := hq (5, .ptr (some ⟨.loc 0, 0⟩)) (by simp)
  have b6 := hq (6, i8 1) (by simp)
  simp only [VR, AR, hφ8] at b3 b4 b5
  obtain ⟨_, _, ⟨rfl, rfl⟩, b3⟩ := b3
  obtain ⟨_, _, ⟨jnf, e1, rfl, rfl⟩, b5⟩ := b5
  rw [j1] at e1
  cases e1
  let y' : LyG := ⟨y.g, y.G, y.p, y.b5, y.o5, inf8.blk, inf8.off⟩
  have hM : LyM y' w0 w1 w8 := ⟨an.trans an8, hP.later an8.wk.size an8.old, hp.later an8.wk.size an8.old, c5.later an8.wk.size an8.old, num_cells j2 j3⟩
  have hI : LyI y' w0 w1 (y.g.m * 100) 0 act8 w8 := .out (y := y') (j := 0) (Nat.zero_le _) ⟨hz8, hd8, b3, b4, b5, i8V b6⟩ hM
  refine ⟨⟨_, Nat.le_refl _, y', rfl, hI⟩, fun c' K' hc' => ?_⟩
  have hh := heads_ok (ly_heads (y := y') (w0 := w0) (w1 := w1) hg) (y.g.m * 100) 0 c' K' hc' (y.g.m * 100) (Nat.le_refl _) act8 w8 ⟨_, Nat.le_refl _, hI⟩
  exact wpIn_mono hh (postK_mono (fun n act w => fun ⟨j, j1, j2⟩ => ⟨j, j1, y', rfl, j2⟩) K')
/-- Behind the state. -/
theorem ly_mid {g : PlIn} {G : StG} {w4 : World} {act4 : Act} (hg : ∀ k, 0 ≤ g.x k ∧ g.x k ≤ 255) (hz : act4.tmps.size = Try.f5.ntmps) (hd : act4.defers = []) (t18 : act4.tmps.getD 18 undef = G.v) (an : Anc w0 w4) (hP : PlS g w1 G w4) :
    wpOpsIn (Fr none) 0 Try.prog ⟨o3⟩ (Exit.then ((Code.seq ly4 ly5).wpIn (Fr none) 0 Try.prog (lyQ w0)) (lyQ w0)) [2, 3] act4 w4 := by
  letI X2 : Ext := XK Try.prog [] (fun _ => False)
  have hng := noNG_of noNG
  obtain ⟨a5, H5, ro5, et5, q1, q2, q3, q4⟩ := lyp2_of
  obtain ⟨o2, po2, pg2, pd2, pe2⟩ := entB_of q4
  have k4 : @RSN X2 w4 (· = grho G) Try.f5.ntmps (mkT Try.f5.ntmps [(18, stV)]) ⟨E0, .lf, 0⟩ act4 w4 := by
    have hl : ∀ q ∈ [(18, stV)], q.1 < top ∧ VR ⟨fun _ => none, grho G⟩ q.2 (act4.tmps.getD q.1 undef) := by
      intro q hq
      simp only [List.mem_singleton] at hq
      subst hq
      refine ⟨show 18 < top by decide, ?_⟩
      simp only [t18]
      exact stV_VR ⟨fun k hk => rfl⟩
    exact @RSN.here X2 (grho G) E0 _ _ _ w4 hz nt5 hd hl (E0_ok (X := X2) (fun e he => by cases he) fun k => i64_0) (fun r => rfl) hno0
  rw [show ([2, 3] : List Nat) = List.range' (o3.take 2).length (o3.drop 2).length ++ [] by kernel_rfl]
  refine @opsN_sound X2 _ hng _ (feK_ok hng mixed) _ _ _ _ nt5 (Nat.le_refl _) _ (o3.take 2) (o3.drop 2) [] (by rw [List.append_nil]; exact (List.take_append_drop 2 o3).symm) _ _ _ _ q1 _ _ k4 _ _ fun act5 w5 hb5 k5 => ?_
  show (Code.seq ly4 ly5).wpIn (Fr none) 0 Try.prog (lyQ w0) act5 w5
  have an5 : Anc w4 w5 := @RSN.anc X2 _ _ _ _ _ _ _ k5 hno0
  have k5' := k5
  obtain ⟨φ5, hφ5, ht5, hs5, _, hz5, hd5⟩ := k5'
  obtain ⟨inf5, i1, i2, i3⟩ := @HSim.cellsAt X2 _ _ _ _ hs5 _ _ _ _ _ q3
  have c5 : CellsAt w5 inf5.blk inf5.off (cellsV G.v) := sym_cells lySt_sym (lySt_VR (y := ⟨g, G, ⟨0, 0, 0, fun _ => 0, fun _ => 0, fun _ => 0⟩, 0, 0, 0, 0⟩) (φ := φ5) (by rw [hφ5]; exact ⟨fun k hk => rfl⟩)) i2 i3
  have t3 : act5.tmps.getD 3 undef = .pointer (some ⟨inf5.blk, inf5.off, none⟩) := by
    have := ht5 3
    rw [q2] at this
    simp only [VR, AR] at this
    obtain ⟨_, _, ⟨jnf, j1, rfl, rfl⟩, e⟩ := this
    rw [i1] at j1
    cases j1
    exact e
  refine wpIn_seq ?_
  rw [ly4_eq]
  refine wpIn_region ?_
  rw [show List.range (⟨o4⟩ : Array Oper).size = 0 :: [1] by kernel_rfl]
  refine callN (Rf := fun en w' => ∃ p : PoG, en = .returned p.v ∧ p.OK w' ∧ Below w5.heap.size w5 w') hng po2 pg2 pe2 k5 (fun φ vs hφ hv => ?_) fun en w6 hR => ?_
  · have e : vs = [] := by simpa only [VRs] using hv
    rw [e]
    exact pool_calls w5
  obtain ⟨p, rfl, hp, hB6⟩ := hR
  refine ⟨_, rfl, ?_⟩
  rw [pd2]
  have an6 := anc_below hB6
  exact ly_tail (y := ⟨g, G, p, inf5.blk, inf5.off, 0, 0⟩) hg (by rw [putN_size]; exact hz5) (by rw [putN_defers]; exact hd5) (by rw [putN_other (by decide), t3]) (putN_same (by rw [hz5]; exact Nat.le_of_ble_eq_true (by kernel_rfl))) ((an.trans an5).trans an6) (hP.later (an5.trans an6).wk.size (an5.trans an6).old) hp (c5.later an6.wk.size an6.old)
set_option maxRecDepth 4000 in
/-- The law, over memory. -/
theorem layers_calls {g : PlIn} (h : g.OK w0) : Calls Try.prog 5 ⟨[g.v]⟩ w0 fun en w' => en = .returned (.bool true) ∧ Below w0.heap.size w0 w' := by
  letI X1 : Ext := XK Try.prog wkK (fun _ => False)
  have hng := noNG_of noNG
  obtain ⟨a1, H1, a2, H2, a3, H3, p1, p2, p3, p4⟩ := lyp1_of
  obtain ⟨o1, po1, pg1, pd1, pe1⟩ := entB_of p4
  refine calls_of_body (c := lybody) Try.func5 body5 ?_
  have hargs : VRs ⟨fun _ => none, arho g.v rfl⟩ [.sym 0] [g.v] := by
    simp only [VRs, VR]
    exact ⟨_, _, rfl, rfl, rfl⟩
  generalize hact : ({ tmps := (⟨[g.v]⟩ : Array Value) ++ Array.replicate (Try.f5.ntmps - (⟨[g.v]⟩ : Array Value).size) undef, defers := [] } : Act) = act0
  have k0 : @RSN X1 w0 (· = arho g.v rfl) Try.f5.ntmps (listT [.sym 0] 0 .lf) ⟨E0, .lf, 0⟩ act0 w0 := by
    subst hact
    exact ⟨⟨fun _ => none, arho g.v rfl⟩, rfl, TR_args hargs (by decide) nt5, @HSim.startE X1 w0 (arho g.v rfl) E0 (E0_ok (X := X1) wkK_ok fun k => i64_0) (fun r b h => by cases h) hno0, .refl w0, by simp, rfl⟩
  show lybody.wpIn (Fr none) 0 Try.prog (lyQ w0) act0 w0
  rw [lyshape]
  refine wpIn_seq (@codeN_sound X1 _ _ (hrcK hng mixed) _ _ _ _ nt5 (Nat.le_refl _) _ _ _ _ _ _ p1 _ _ k0 _ fun act1 w1 hb1 k1 => ?_)
  show (Code.seq ly1 (.seq ly3 (.seq ly4 ly5))).wpIn (Fr none) 0 Try.prog (lyQ w0) act1 w1
  refine wpIn_seq (@codeN_sound X1 _ _ (hrcK hng mixed) _ _ _ _ nt5 (Nat.le_refl _) _ _ _ _ _ _ p2 _ _ k1 _ fun act2 w2 hb2 k2 => ?_)
  show (Code.seq ly3 (.seq ly4 ly5)).wpIn (Fr none) 0 Try.prog (lyQ w0) act2 w2
  refine wpIn_seq ?_
  rw [ly3_eq]
  refine wpIn_region ?_
  rw [show List.range (⟨o3⟩ : Array Oper).size = List.range' ([] : List Oper).length (o3.take 1).length ++ (1 :: [2, 3]) by kernel_rfl]
  refine @opsN_sound X1 _ hng _ (feK_ok hng mixed) _ _ _ _ nt5 (Nat.le_refl _) _ [] (o3.take 1) (o3.drop 1) (List.take_append_drop 1 o3).symm _ _ _ _ p3 _ _ k2 _ _ fun act3 w3 hb3 k3 => ?_
  have an3 : Anc w0 w3 := @RSN.anc X1 _ _ _ _ _ _ _ k3 hno0
  have hg3 : g.OK w3 := h.later an3.wk.size an3.old
  refine callN (Rf := fun en w' => ∃ G : StG, en = .returned G.v ∧ PlS g w3 G w' ∧ Below w3.heap.size w3 w') hng po1 pg1 pe1 k3 (fun φ vs hφ hv => ?_) fun en w4 hR => ?_
  · have e : vs = [g.v] := by
      simp only [VRs, VR, hφ] at hv
      obtain ⟨_, _, rfl, rfl, rfl⟩ := hv
      rfl
    rw [e]
    exact placed_calls hg3
  obtain ⟨G, rfl, hP, hB4⟩ := hR
  refine ⟨_, rfl, ?_⟩
  rw [pd1]
  obtain ⟨_, _, _, _, _, hz3, hd3⟩ := k3
  exact ly_mid (fun k => h.x_fit k) (by rw [putN_size]; exact hz3) (by rw [putN_defers]; exact hd3) (putN_same (by rw [hz3]; exact Nat.le_of_ble_eq_true (by kernel_rfl))) (an3.trans (anc_below hB4)) hP
end
end
end Go.Proofs.Ytgbhmkdldfhamaa.layers
namespace Go.Proofs.Ytgbhmkdldfhamaa.layers
open Go.Ev Go.RowKit Go.ChangeShapes Go.WideShapes Go.ChangeAt
set_option linter.unusedVariables false
noncomputable section
theorem own : ownKnob Try.prog.godebug = none := by kernel_rfl
section
variable {H : Type} {enc : TypeId × Value → H} {w : World} {base : Nat} {sp : Nat → Bool} {held : Bool}
theorem cell_lt {a : Addr} {v : Value} (h : w.cell? a = some v) : a.block < w.heap.size ∧ a.spot = none := by
  refine ⟨?_, World.cell?_spot h⟩
  unfold World.cell? at h
  split at h
  · rename_i he
    exact (Array.getElem?_eq_some_iff.1 he).1
  · cases h
theorem litu8 {x : Int} (h : (Lit.int .u8 x).wf = true) : 0 ≤ x ∧ x ≤ 255 := by
  simpa [Lit.wf, IntKind.min, IntKind.max, IntKind.signed, IntKind.bits] using h
theorem max_len : maxLen ≤ 9223372036854775807 := by decide
/-- A slice of numbers that came in. -/
theorem bytes_of {n : Nat} {v : Value} {y : DataW H × List MemPlace} (h : DataW.trod enc Try.prog w base sp held n 44 [v] = some y) :
    ∃ g : PlIn, g.OK w ∧ v = g.v := by
  have hm := max_len
  rcases Go.Deep.open_slice1 Try.underlying44 (by kernel_rfl) h with ⟨hcs, _⟩ | ⟨a, len, cap, m, n', V, D, Pl, hcs, _, hl, hc, hmm, _, hall⟩
  · simp only [List.cons.injEq, and_true] at hcs
    subst hcs
    exact ⟨⟨[], none, 0, 0, 0⟩, ⟨by simp, (fun z hz => by cases hz), (fun i x hi => by simp at hi)⟩, rfl⟩
  · simp only [List.cons.injEq, and_true] at hcs
    subst hcs
    have hlm : len ≤ m := by rw [hmm]; split <;> omega
    have each : ∀ j, ∃ z : Int, j < len → w.cell? (a.add j) = some (.int .u8 z) ∧ 0 ≤ z ∧ z ≤ 255 := fun j => by
      by_cases hj : j < len
      · obtain ⟨h1, h2⟩ := hall j (by omega)
        obtain ⟨z, e, _, hw⟩ := DataW.trod_int Try.underlying5 h2
        simp only [List.cons.injEq, and_true] at e
        rw [e] at h1
        exact ⟨z, fun _ => ⟨h1, litu8 hw⟩⟩
      · exact ⟨0, fun h => absurd h hj⟩
    obtain ⟨f, hf⟩ := Classical.skolem.1 each
    refine ⟨⟨(List.range len).map f, some a, cap, a.block, a.off⟩, ⟨by simp; omega, fun z hz => ?_, fun j x hx => ?_⟩, by simp [PlIn.v]⟩
    · simp only [List.mem_map, List.mem_range] at hz
      obtain ⟨j, hj, rfl⟩ := hz
      exact (hf j hj).2
    · have hx' : ((List.range len).map f)[j]? = some x := hx
      have hj : j < len := by
        have := (List.getElem?_eq_some_iff.1 hx').1
        simpa using this
      have ex : x = f j := by
        rw [List.getElem?_map, List.getElem?_range hj] at hx'
        exact (Option.some.inj hx').symm
      obtain ⟨g1, g2⟩ := hf j hj
      obtain ⟨k1, k2⟩ := cell_lt (hf 0 (by omega)).1
      obtain ⟨B, O, spot⟩ := a
      have hspot : spot = none := by simpa [Addr.add] using k2
      subst hspot
      refine ⟨rfl, by simpa [Addr.add] using k1, ?_⟩
      rw [Addr.add_lit] at g1
      rw [ex]
      exact g1
end
end
end Go.Proofs.Ytgbhmkdldfhamaa.layers
