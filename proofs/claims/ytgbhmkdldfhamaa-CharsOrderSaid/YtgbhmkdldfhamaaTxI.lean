/-
  The law CharsApart: what the kernel runs.
-/
import Derived.Test.YtgbhmkdldfhamaaTxH
namespace Go.Proofs.Ytgbhmkdldfhamaa.order
open Go.Ev Go.RowKit
set_option linter.unusedVariables false
noncomputable section
def apbody : Code := match Try.f6.body with | some c => c | none => .skip
def ap3 : Code := sq1 (sq2 (sq2 apbody))
def oa3 : List Oper := rops ap3
/-! ### behind the second call -/
/-! ### no object -/
/-! ### a round of the loop -/
/-- The small pool in local blocks from a number on. -/
def plC (k : Nat) : List VV := cardV (.string ⟨#[98, 101, 97, 114]⟩) 2 2 2 0 (.slice none 0 0) ++ (cardV (.string ⟨#[108, 111, 114, 100]⟩) 2 2 2 0 (.slice (some ⟨.loc (k + 1), 0⟩) 1 1) ++ (cardV (.string ⟨#[115, 104, 114, 105, 110, 107, 101, 114]⟩) 4 0 0 0 (.slice (some ⟨.loc (k + 3), 0⟩) 1 1) ++ cardV (.string ⟨#[107, 105, 116, 101]⟩) 2 1 1 4 (.slice (some ⟨.loc (k + 6), 0⟩) 2 2)))
def plP (k : Nat) : List (Nat × VO) := [(k + 7, .cells (plC k) none 0 none), (k + 1, .cells (abV 3 4 1 1) none 0 none), (k + 3, .cells (abV 2 3 0 1) none 0 none), (k + 6, .cells (abV 0 1 1 0 ++ abV 1 2 4 0) none 0 none)]
def stW : VV := .agg (symsV 25 200)
def apRes (b : Bool) : VV := .tuple [.agg [si 176, si 177, si 178], .bool b]
def apG : Env := ⟨fun _ => none, ivAt [], [.bin .leq (si 3) (si 14) (.bool true), .bin .add (si 3) (i8 1) (si 9)], fun i => match i with
  | 5 => some lySt
  | 6 => some (symsV 25 200)
  | _ => none⟩
/-! ### to the first call -/
/-! ### to the second call -/
def app2 : Option (VT × VH) := runOps Try.prog (feK Try.prog []) Try.f6.ntmps oa3 ((oa3.drop 2).take 1) (mkT Try.f6.ntmps [(0, .sym 0), (1, s8 1), (17, stV)]) ⟨E0, .lf, 0⟩
end
end Go.Proofs.Ytgbhmkdldfhamaa.order
namespace Go.Proofs.Ytgbhmkdldfhamaa.order
open Go.Ev Go.RowKit
set_option linter.unusedVariables false
noncomputable section
/-! ### states that are alike -/
/-- An effect that an object has. -/
def EfA (x : Int) (k : Nat) (v : Value) (w : World) : Prop :=
  (x / 8 % 2 ≠ 1 ∧ v = .slice none 0 0) ∨ (x / 8 % 2 = 1 ∧ ∃ B O, v = .slice (some ⟨B, O, none⟩) 1 1 ∧ CellsAt w B O [n64 (1 + x / 16 % 4), n64 (x / 64), n64 1, n64 (20 + (k : Int))])
theorem EfS.any {w1 w : World} {G : StG} {x : Int} {k : Nat} {v : Value} (h : EfS w1 G x k v w) : EfA x k v w := by
  rcases h with h | ⟨h1, B, O, h2, _, _, _, h3⟩
  · exact .inl h
  · exact .inr ⟨h1, B, O, h2, h3⟩
theorem EfA.later {w w' : World} {x : Int} {k : Nat} {v : Value} (h : EfA x k v w) (hs : w.heap.size ≤ w'.heap.size) (hb : ∀ k, k < w.heap.size → w'.heap[k]? = w.heap[k]?) : EfA x k v w' := by
  rcases h with h | ⟨h1, B, O, h2, h3⟩
  · exact .inl h
  · exact .inr ⟨h1, B, O, h2, h3.later hs hb⟩
theorem ef_any {G : StG} {p : PoG} {w : World} {k : Nat} {x : Int} (hG : G.OK w) (hp : p.OK w) (hk : k < G.os.length) (hk10 : k < 1000) (hf : G.find ((k : Int) + 1) = k) (hh : 0 ≤ G.has ((k : Int) + 1)) (hx : 0 ≤ x ∧ x ≤ 255) (hc : (G.ob k).card = x % 4) (he : EfA x k (G.ob k).eff w) (hn : G.fs.Nodup) (hl : G.fs.length ≤ 16) :
    ∃ e : EfG, e.g = G ∧ e.p = p ∧ e.bi = k ∧ e.effs = effsOf x k ∧ e.OK ((k : Int) + 1) w := by
  have fit : ∀ y ∈ effsOf x k, y.Fit ∧ 1 ≤ y.op ∧ y.op ≤ 4 := fun y hy => by
    unfold effsOf at hy
    split at hy
    · simp only [List.mem_singleton] at hy
      subst hy
      exact ⟨⟨⟨by dsimp only; omega, by dsimp only; omega⟩, ⟨by dsimp only; omega, by dsimp only; omega⟩, ⟨by dsimp only; omega, by dsimp only; omega⟩, ⟨by dsimp only; omega, by dsimp only; omega⟩⟩, by dsimp only; omega, by dsimp only; omega⟩
    · cases hy
  rcases he with ⟨h1, h2⟩ | ⟨h1, B, O, h2, h6⟩
  · have ee : effsOf x k = [] := by unfold effsOf; rw [if_neg h1]
    refine ⟨⟨G, p, k, effsOf x k, 0, 0⟩, rfl, rfl, rfl, rfl, hG, hp, hk, hf, hh, ⟨by omega, by omega⟩, ?_, ?_, ?_, fun y hy => (fit y hy).2, fun y hy => (fit y hy).1, ?_, fun y hy => ?_, coll_nodup hn hl⟩
    · show 0 ≤ (G.ob k).card
      omega
    · show (G.ob k).card ≤ 3
      omega
    · show (effsOf x k).length ≤ 1
      rw [ee]; simp
    · show (G.ob k).eff = _
      rw [h2]
      simp only [ee]
    · have hy' : (effsOf x k)[0]? = some y := hy
      rw [ee] at hy'
      cases hy'
  · have ee : effsOf x k = [⟨1 + x / 16 % 4, x / 64, 1, 20 + (k : Int)⟩] := by unfold effsOf; rw [if_pos h1]
    refine ⟨⟨G, p, k, effsOf x k, B, O⟩, rfl, rfl, rfl, rfl, hG, hp, hk, hf, hh, ⟨by omega, by omega⟩, ?_, ?_, ?_, fun y hy => (fit y hy).2, fun y hy => (fit y hy).1, ?_, fun y hy => ?_, coll_nodup hn hl⟩
    · show 0 ≤ (G.ob k).card
      omega
    · show (G.ob k).card ≤ 3
      omega
    · show (effsOf x k).length ≤ 1
      rw [ee]; simp
    · show (G.ob k).eff = _
      rw [h2]
      simp only [ee]
    · have hy' : (effsOf x k)[0]? = some y := hy
      rw [ee] at hy'
      cases hy'
      exact h6
/-- The numbers of an object. -/
def core (x : Ob) : Int × Int × Int × Int := (x.id, x.card, x.ctrl, x.st)
theorem acts_core {o o' b b' : Ob} (h : core o = core o') (k : core b = core b') : actsOf o b = actsOf o' b' := by
  simp only [core, Prod.mk.injEq] at h k
  unfold actsOf
  rw [h.1, h.2.1, h.2.2.1, h.2.2.2, k.1, k.2.2.1]
/-- What holds of a state: the beasts are as they were placed, and what acts on each is the same as there. -/
structure Like (g : PlIn) (G G2 : StG) (w : World) : Prop where
  ok : G2.OK w
  nf : G2.fs.length ≤ 16
  nd : G2.fs.Nodup
  at_ : ∀ k, k < g.m → k < G2.os.length ∧ G2.find ((k : Int) + 1) = k ∧ (k : Int) + 1 ∈ G2.fs ∧ core (G2.ob k) = core (G.ob k) ∧ EfA (g.x k) k (G2.ob k).eff w
  same : ∀ k, k < g.m → ∀ t, isort (G2.coll (G2.ob k) G2.fs ++ t) = isort (G.coll (G.ob k) G.fs ++ t)
theorem Like.later {g : PlIn} {G G2 : StG} {w w' : World} (h : Like g G G2 w) (hs : w.heap.size ≤ w'.heap.size) (hb : ∀ k, k < w.heap.size → w'.heap[k]? = w.heap[k]?) : Like g G G2 w' :=
  ⟨h.ok.later hs hb, h.nf, h.nd, fun k hk => let ⟨a, b, c, d, e⟩ := h.at_ k hk; ⟨a, b, c, d, e.later hs hb⟩, h.same⟩
section
variable {g : PlIn} {G G2 : StG} {w w1 : World} {p p2 : PoG} {k : Nat}
/-- Both beasts, and that they are the same. -/
theorem Like.both (h : Like g G G2 w) (hs : PlS g w1 G w) (hx : ∀ k, 0 ≤ g.x k ∧ g.x k ≤ 255) (hk : k < g.m) : ∃ d : Nums × Bool × List Eff, (∀ (w' : World) (p : PoG), w.heap.size ≤ w'.heap.size → (∀ k, k < w.heap.size → w'.heap[k]? = w.heap[k]?) → p.OK w' → ∃ e : EfG, e.g = G ∧ e.p = p ∧ e.OK ((k : Int) + 1) w' ∧ e.ofV = .tuple ⟨[numV d.1, .bool d.2.1]⟩ ∧ e.all = d.2.2) ∧
    (∀ (w' : World) (p : PoG), w.heap.size ≤ w'.heap.size → (∀ k, k < w.heap.size → w'.heap[k]? = w.heap[k]?) → p.OK w' → ∃ e : EfG, e.g = G2 ∧ e.p = p ∧ e.OK ((k : Int) + 1) w' ∧ e.ofV = .tuple ⟨[numV d.1, .bool d.2.1]⟩ ∧ e.all = d.2.2) ∧ (∀ x ∈ d.2.2, Ok4 x ∧ x.Fit) ∧ d.2.2.length ≤ 18 ∧ d.1.Fit := by
  have h10 := hs.m10
  obtain ⟨a1, a2, a3, a4, a5⟩ := h.at_ k hk
  have hc : (G2.ob k).card = (G.ob k).card := by simp only [core, Prod.mk.injEq] at a4; exact a4.2.1
  let c := (G.ob k).card
  let raw := isort (G.coll (G.ob k) G.fs ++ effsOf (g.x k) k)
  let all : List Eff := if c = 2 then [] else raw
  let base : Nums := if c = 3 then base2 else base1
  refine ⟨(if c = 2 then ⟨0, 0, 0⟩ else foldN base all, if c = 2 then false else true, all), fun w' p hsz hb hp => ?_, fun w' p hsz hb hp => ?_, ?_⟩
  · obtain ⟨e, e1, e2, e3, e4, e5⟩ := (hs.later hsz hb).ef_at hx hp hk
    have hb' : e.b = G.ob k := by unfold EfG.b; rw [e1, e3]
    have hall : e.all = all := by
      unfold EfG.all EfG.res EfG.raw
      rw [hb', e1, e4]
    refine ⟨e, e1, e2, e5, ?_, hall⟩
    unfold EfG.ofV EfG.base
    rw [hb', hall]
    by_cases h2 : (G.ob k).card = 2
    · rw [if_pos h2]
      show _ = Value.tuple ⟨[numV (if (G.ob k).card = 2 then ⟨0, 0, 0⟩ else foldN base all), .bool (if (G.ob k).card = 2 then false else true)]⟩
      rw [if_pos h2, if_pos h2]
    · rw [if_neg h2]
      show _ = Value.tuple ⟨[numV (if (G.ob k).card = 2 then ⟨0, 0, 0⟩ else foldN base all), .bool (if (G.ob k).card = 2 then false else true)]⟩
      rw [if_neg h2, if_neg h2]
  · have hl := h.later hsz hb
    obtain ⟨_, _, _, _, a5'⟩ := hl.at_ k hk
    obtain ⟨e, e1, e2, e3, e4, e5⟩ := ef_any hl.ok hp a1 (by omega) a2 (has_mem a3) (hx k) (by rw [hc]; exact (hs.ob k hk).2.1) a5' h.nd h.nf
    have hb' : e.b = G2.ob k := by unfold EfG.b; rw [e1, e3]
    have hall : e.all = all := by
      unfold EfG.all EfG.res EfG.raw
      rw [hb', e1, e4, hc, h.same k hk]
    refine ⟨e, e1, e2, e5, ?_, hall⟩
    unfold EfG.ofV EfG.base
    rw [hb', hall, hc]
    by_cases h2 : (G.ob k).card = 2
    · rw [if_pos h2]
      show _ = Value.tuple ⟨[numV (if (G.ob k).card = 2 then ⟨0, 0, 0⟩ else foldN base all), .bool (if (G.ob k).card = 2 then false else true)]⟩
      rw [if_pos h2, if_pos h2]
    · rw [if_neg h2]
      show _ = Value.tuple ⟨[numV (if (G.ob k).card = 2 then ⟨0, 0, 0⟩ else foldN base all), .bool (if (G.ob k).card = 2 then false else true)]⟩
      rw [if_neg h2, if_neg h2]
  · have hcl : (G.coll (G.ob k) G.fs).length ≤ 17 := coll_nodup hs.nodup (by rw [hs.fsl]; omega)
    have hel : (effsOf (g.x k) k).length ≤ 1 := by unfold effsOf; split <;> simp
    have hraw : ∀ x ∈ G.coll (G.ob k) G.fs ++ effsOf (g.x k) k, Ok4 x ∧ x.Fit := fun x hx' => by
      have hx1 := hx k
      rcases List.mem_append.1 hx' with hx' | hx'
      · refine ⟨?_, coll_fit hs.ok _ _ x hx'⟩
        unfold StG.coll at hx'
        obtain ⟨n, _, hn⟩ := List.mem_flatMap.1 hx'
        exact (acts_ok hn).1
      · unfold effsOf at hx'
        split at hx'
        · simp only [List.mem_singleton] at hx'
          subst hx'
          unfold Ok4 SmallE
          dsimp only
          exact ⟨⟨⟨by omega, by omega, by decide, by decide⟩, by omega, by omega⟩, ⟨by dsimp only; omega, by dsimp only; omega⟩, ⟨by dsimp only; omega, by dsimp only; omega⟩, ⟨by dsimp only; omega, by dsimp only; omega⟩, ⟨by dsimp only; omega, by dsimp only; omega⟩⟩
        · cases hx'
    have hall : ∀ x ∈ all, Ok4 x ∧ x.Fit := fun x hx' => by
      have hx'' : x ∈ (if c = 2 then [] else raw) := hx'
      split at hx''
      · cases hx''
      · exact hraw x (isort_mem hx'')
    refine ⟨hall, ?_, ?_⟩
    · show (if c = 2 then [] else raw).length ≤ 18
      split
      · exact Nat.zero_le _
      · show (isort _).length ≤ 18
        rw [isort_len, List.length_append]
        omega
    · show Nums.Fit (if c = 2 then ⟨0, 0, 0⟩ else foldN base all)
      split
      · exact ⟨i64_0, i64_0, i64_0⟩
      · refine foldN_fit ?_ fun x hx' => (hall x hx').2
        show Nums.Fit (if c = 3 then base2 else base1)
        split
        · exact base2_fit
        · exact base1_fit
end
/-! ### the pool in local blocks -/
theorem pre_at {φ : Phi} {pre : List (Nat × VO)} {w : World} (h : preOK φ pre w) {i : Nat} {o : VO} (hm : (i, o) ∈ pre) : ∃ inf o', φ i = some inf ∧ w.heap[inf.blk]? = some o' ∧ OR φ inf o o' := h (i, o) hm
theorem pool_pre {φ : Phi} {w : World} {k : Nat} (h : preOK φ (plP k) w) : ∃ p : PoG, p.OK w ∧ ∀ v, VR φ (.slice (some ⟨.loc (k + 7), 0⟩) 4 4) v → v = p.v := by
  obtain ⟨i0, o0, f0, h0, q0⟩ := pre_at h (i := k + 7) (o := .cells (plC k) none 0 none) (by simp [plP])
  obtain ⟨i1, o1, f1, h1, q1⟩ := pre_at h (i := k + 1) (o := .cells (abV 3 4 1 1) none 0 none) (by simp [plP])
  obtain ⟨i2, o2, f2, h2, q2⟩ := pre_at h (i := k + 3) (o := .cells (abV 2 3 0 1) none 0 none) (by simp [plP])
  obtain ⟨i3, o3, f3, h3, q3⟩ := pre_at h (i := k + 6) (o := .cells (abV 0 1 1 0 ++ abV 1 2 4 0) none 0 none) (by simp [plP])
  let p : PoG := ⟨i0.blk, i0.off, 4 + i0.slack, fun k => if k = 1 then i1.blk else if k = 2 then i2.blk else i3.blk, fun k => if k = 1 then i1.off else if k = 2 then i2.off else i3.off, fun k => if k = 1 then 1 + i1.slack else if k = 2 then 1 + i2.slack else 2 + i3.slack⟩
  refine ⟨p, ⟨fun k hk => ?_, ?_, ?_, ?_, ?_⟩, fun v k1 => by rw [fun_l f0 v k1]; rfl⟩
  · match k, hk with
    | 0, _ => exact cells_out (pre := []) (xs := cardV (.string ⟨#[98, 101, 97, 114]⟩) 2 2 2 0 (.slice none 0 0)) h0 q0 (fun_card (fun_s _) fun_n)
    | 1, _ => exact cells_out (pre := cardV (.string ⟨#[98, 101, 97, 114]⟩) 2 2 2 0 (.slice none 0 0)) (xs := cardV (.string ⟨#[108, 111, 114, 100]⟩) 2 2 2 0 (.slice (some ⟨.loc _, 0⟩) 1 1)) h0 q0 (fun_card (fun_s _) (fun_l f1))
    | 2, _ => exact cells_out (pre := cardV (.string ⟨#[98, 101, 97, 114]⟩) 2 2 2 0 (.slice none 0 0) ++ cardV (.string ⟨#[108, 111, 114, 100]⟩) 2 2 2 0 (.slice (some ⟨.loc _, 0⟩) 1 1)) (xs := cardV (.string ⟨#[115, 104, 114, 105, 110, 107, 101, 114]⟩) 4 0 0 0 (.slice (some ⟨.loc _, 0⟩) 1 1)) h0 q0 (fun_card (fun_s _) (fun_l f2))
    | 3, _ => exact cells_out (pre := cardV (.string ⟨#[98, 101, 97, 114]⟩) 2 2 2 0 (.slice none 0 0) ++ cardV (.string ⟨#[108, 111, 114, 100]⟩) 2 2 2 0 (.slice (some ⟨.loc _, 0⟩) 1 1) ++ cardV (.string ⟨#[115, 104, 114, 105, 110, 107, 101, 114]⟩) 4 0 0 0 (.slice (some ⟨.loc _, 0⟩) 1 1)) (xs := cardV (.string ⟨#[107, 105, 116, 101]⟩) 2 1 1 4 (.slice (some ⟨.loc _, 0⟩) 2 2)) (post := []) h0 q0 (fun_card (fun_s _) (fun_l f3))
  · exact cells_out (pre := []) (xs := abV 3 4 1 1) (post := []) h1 q1 fun_ab
  · exact cells_out (pre := []) (xs := abV 2 3 0 1) (post := []) h2 q2 fun_ab
  · exact cells_out (pre := []) (xs := abV 0 1 1 0) h3 q3 fun_ab
  · exact cells_out (pre := abV 0 1 1 0) (xs := abV 1 2 4 0) (post := []) h3 q3 fun_ab
end
end Go.Proofs.Ytgbhmkdldfhamaa.order
namespace Go.Proofs.Ytgbhmkdldfhamaa.order
open Go.Ev Go.RowKit
set_option linter.unusedVariables false
noncomputable section
/-! ### a state's cells, told by symbols from 200 on -/
def StG.cellAt (G : StG) (j : Nat) : Value := if j = 1 then G.osV else if j = 6 then G.fsV else G.r j
theorem v_cells (G : StG) : G.v = .agg ⟨(List.range 25).map G.cellAt⟩ := rfl
theorem cellAt_one (G : StG) (j : Nat) : (G.cellAt j).oneCell' = true := by
  unfold StG.cellAt
  split
  · rfl
  split
  · rfl
  · exact G.oneR _
theorem cellsV_v (G : StG) : cellsV G.v = (List.range 25).map G.cellAt := rfl
theorem syms_VR {φ : Phi} : ∀ {n k : Nat} {f : Nat → Value}, (∀ j, j < n → φ.ρ.val (k + j) = f j) → VRs φ (symsV n k) ((List.range n).map f)
  | 0, k, f, h => by simp [symsV, VRs]
  | n + 1, k, f, h => by
    rw [List.range_succ_eq_map, List.map_cons, List.map_map]
    refine cons_VR ?_ (syms_VR fun j hj => ?_)
    · simp only [VR]
      exact (h 0 (by omega)).symm
    · rw [show k + 1 + j = k + (j + 1) by omega]
      exact h (j + 1) (by omega)
theorem stW_cells {φ : Phi} {G : StG} (h : ∀ j, j < 25 → φ.ρ.val (200 + j) = G.cellAt j) : VRs φ (symsV 25 200) (cellsV G.v) := by
  rw [cellsV_v]
  exact syms_VR h
theorem stW_inv {φ : Phi} {G : StG} (h : ∀ j, j < 25 → φ.ρ.val (200 + j) = G.cellAt j) {v : Value} (hv : VR φ stW v) : v = G.v := by
  unfold stW at hv
  rw [VR] at hv
  obtain ⟨us, h1, rfl⟩ := hv
  have hf : FunL φ (symsV ((List.range 25).map G.cellAt).length 200) ((List.range 25).map G.cellAt) := FunL_syms fun j v hj => by
    have hlt := (List.getElem?_eq_some_iff.1 hj).1
    rw [List.length_map, List.length_range] at hlt
    rw [List.getElem?_map, List.getElem?_range hlt] at hj
    cases hj
    exact h j hlt
  have e : ((List.range 25).map G.cellAt).length = 25 := by simp
  rw [e] at hf
  rw [FunL_eq hf h1, v_cells]
/-! ### two states side by side -/
structure ApG where
  g : PlIn
  G : StG
  G2 : StG
  b5 : Nat
  o5 : Nat
  b6 : Nat
  o6 : Nat
structure ApM (y : ApG) (w0 w1 w : World) : Prop where
  anc : Anc w0 w
  pls : PlS y.g w1 y.G w
  lk : Like y.g y.G y.G2 w
  s5 : CellsAt w y.b5 y.o5 (cellsV y.G.v)
  s6 : CellsAt w y.b6 y.o6 (cellsV y.G2.v)
theorem ApM.later {y : ApG} {w0 w1 w w' : World} (h : ApM y w0 w1 w) (hw : WK w w') (hb : ∀ k, k < w.heap.size → w'.heap[k]? = w.heap[k]?) : ApM y w0 w1 w' :=
  ⟨h.anc.trans ⟨hw, hb⟩, h.pls.later hw.size hb, h.lk.later hw.size hb, h.s5.later hw.size hb, h.s6.later hw.size hb⟩
def twint (id n : Int) (s : Nums) : Nat → Int
  | 3 => id
  | 9 => w64 (id + 1)
  | 14 => n
  | 176 => s.p
  | 177 => s.t
  | 178 => s.k
  | _ => 0
def twval (y : ApG) (k : Nat) : Value := if k < 200 then qval y.G k else y.G2.cellAt (k - 200)
/-- The symbols: both states, the number, what is told of it. -/
def twrho (y : ApG) (id n : Int) (s : Nums) (l : List Eff) : Rho where
  int := fun k => if k = 158 then (l.length : Int) else twint id n s k
  val := twval y
  blk k := if k = 5 then y.b5 else y.b6
  off k := if k = 5 then y.o5 else y.o6
  one k := by
    unfold twval
    split
    · exact qval_one _
    · exact cellAt_one _ _
  lst k := if k = 144 then cellsOf l else []
  lcl k x hx := by
    revert hx
    split
    · exact cellsOf_closed _ x
    · intro h; cases h
section
variable {w0 w1 w : World} {y : ApG} {id n : Int} {s : Nums} {l : List Eff} {act : Act} {HD : Nat → Act → World → Prop}
theorem tw_st : StRho y.G (twrho y id n s l) := ⟨fun k hk => by
  show twval y k = _
  unfold twval
  rw [if_pos (by omega)]⟩
theorem tw_w (j : Nat) (hj : j < 25) : (twrho y id n s l).val (200 + j) = y.G2.cellAt j := by
  show twval y (200 + j) = _
  unfold twval
  rw [if_neg (by omega), Nat.add_sub_cancel_left]
theorem tw_fits (hid : I64 id) (hn : I64 n) (hs : s.Fit) (hl : l.length ≤ 1000) (k : Nat) : I64 ((twrho y id n s l).int k) := by
  show I64 (if k = 158 then (l.length : Int) else twint id n s k)
  split
  · exact ⟨by omega, by omega⟩
  unfold twint
  split
  · exact hid
  · exact w64_fits _
  · exact hn
  · exact hs.p
  · exact hs.t
  · exact hs.k
  · exact i64_0
theorem ap_res {φ : Phi} {b : Bool} (hφ : φ.ρ = twrho y id n s l) : VR φ (apRes b) (.tuple ⟨[numV s, .bool b]⟩) := by
  unfold apRes
  rw [VR]
  refine ⟨_, cons_VR (v := numV s) ?_ (cons_VR (v := .bool b) (by simp only [VR]) nil_VR), rfl⟩
  simp only [numV, VR, VRs, si, hφ]
  exact ⟨_, ⟨_, _, rfl, rfl, _, _, rfl, rfl, _, _, rfl, rfl, rfl⟩, rfl⟩
/-- Of, of both states, as known calls. -/
theorem tw_of1 {b : Bool} {k : Nat} (h : ∀ (w' : World) (p : PoG), w.heap.size ≤ w'.heap.size → (∀ k, k < w.heap.size → w'.heap[k]? = w.heap[k]?) → p.OK w' → ∃ e : EfG, e.g = y.G ∧ e.p = p ∧ e.OK id w' ∧ e.ofV = .tuple ⟨[numV s, .bool b]⟩ ∧ e.all = l) :
    KEok Try.prog (twrho y id n s l) w ⟨10, [.slice (some ⟨.loc (k + 7), 0⟩) 4 4, stV, si 3], plP k, apRes b⟩ := by
  intro φ vs w' hφ h1 h2 hv hpre
  obtain ⟨p, hp, hpv⟩ := pool_pre hpre
  obtain ⟨e, e1, e2, e3, e4, e5⟩ := h w' p h1 (fun k hk => h2 k hk (fun x => x)) hp
  have hv' : vs = [p.v, y.G.v, .int .i64 id] := by
    simp only [VRs] at hv
    obtain ⟨a, bs, rfl, ha, v, ws, rfl, hs, u, us, rfl, hu, rfl⟩ := hv
    rw [stV_inv (g := y.G) (by rw [hφ]; exact tw_st) hs, hpv a ha]
    simp only [si, VR, hφ] at hu
    rw [hu]
    rfl
  subst hv'
  have := of_calls e3
  rw [e1, e2] at this
  refine this.mono ?_
  rintro en w'' ⟨rfl, hb⟩
  exact ⟨_, rfl, by rw [e4]; exact ap_res hφ, hb⟩
theorem tw_of2 {b : Bool} {k : Nat} (h : ∀ (w' : World) (p : PoG), w.heap.size ≤ w'.heap.size → (∀ k, k < w.heap.size → w'.heap[k]? = w.heap[k]?) → p.OK w' → ∃ e : EfG, e.g = y.G2 ∧ e.p = p ∧ e.OK id w' ∧ e.ofV = .tuple ⟨[numV s, .bool b]⟩ ∧ e.all = l) :
    KEok Try.prog (twrho y id n s l) w ⟨10, [.slice (some ⟨.loc (k + 7), 0⟩) 4 4, stW, si 3], plP k, apRes b⟩ := by
  intro φ vs w' hφ h1 h2 hv hpre
  obtain ⟨p, hp, hpv⟩ := pool_pre hpre
  obtain ⟨e, e1, e2, e3, e4, e5⟩ := h w' p h1 (fun k hk => h2 k hk (fun x => x)) hp
  have hv' : vs = [p.v, y.G2.v, .int .i64 id] := by
    simp only [VRs] at hv
    obtain ⟨a, bs, rfl, ha, v, ws, rfl, hs, u, us, rfl, hu, rfl⟩ := hv
    rw [stW_inv (G := y.G2) (by rw [hφ]; exact fun j hj => tw_w j hj) hs, hpv a ha]
    simp only [si, VR, hφ] at hu
    rw [hu]
    rfl
  subst hv'
  have := of_calls e3
  rw [e1, e2] at this
  refine this.mono ?_
  rintro en w'' ⟨rfl, hb⟩
  exact ⟨_, rfl, by rw [e4]; exact ap_res hφ, hb⟩
end
end
end Go.Proofs.Ytgbhmkdldfhamaa.order
namespace Go.Proofs.Ytgbhmkdldfhamaa.order
open Go.Ev Go.RowKit
set_option linter.unusedVariables false
noncomputable section
theorem flatMap_eq {α β : Type} {f h : α → List β} : ∀ {l : List α}, (∀ x ∈ l, f x = h x) → l.flatMap f = l.flatMap h
  | [], _ => rfl
  | x :: l, k => by
    rw [List.flatMap_cons, List.flatMap_cons, k x List.mem_cons_self, flatMap_eq fun y hy => k y (List.mem_cons_of_mem _ hy)]
section
variable {g : PlIn} {G G1 : StG} {w w1 w1' w' : World} {r : Int}
theorem core_of (h : PlS g w1 G w) {k : Nat} (hk : k < g.m) : core (G.ob k) = ((k : Int) + 1, g.x k % 4, g.x k / 4 % 2, plSt k) := by
  obtain ⟨h1, h2, h3, h4⟩ := h.ob k hk
  unfold core
  rw [h1, h2, h3, h4]
end
end
end Go.Proofs.Ytgbhmkdldfhamaa.order
