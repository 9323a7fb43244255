/-
  The law CharsApart: what the kernel runs.
-/
import Derived.Test.YtgbhmkdldfhamaaTxH
namespace Go.Proofs.Ytgbhmkdldfhamaa.apart
open Go.Ev Go.RowKit
set_option linter.unusedVariables false
noncomputable section
def apbody : Code := match Try.f6.body with | some c => c | none => .skip
def ap0 : Code := sq1 apbody
def ap1 : Code := sq1 (sq2 apbody)
def ap3 : Code := sq1 (sq2 (sq2 apbody))
def ap4 : Code := sq2 (sq2 (sq2 apbody))
def oa3 : List Oper := rops ap3
theorem apshape : apbody = .seq ap0 (.seq ap1 (.seq ap3 ap4)) := by kernel_rfl
theorem ap3_eq : ap3 = .region (rid ap3) ⟨oa3⟩ false := by kernel_rfl
/-! ### behind the second call -/
def apFs (n : Nat) (r : Int) (c : Nat) : VV := match decide (r = 1) with
  | true => .sym 206
  | false => .slice (some ⟨.sym 206, 0⟩) n c
def apW (n : Nat) (r : Int) (c : Nat) : List VV := .sym 200 :: .slice (some ⟨.loc 0, 0⟩) n n :: symsV 4 202 ++ (apFs n r c :: symsV 18 207)
def apB (n : Nat) (i : Nat) : Option (List VV) := match Nat.beq i 206 with
  | true => some (plids n)
  | false => none
def apE (n : Nat) (r : Int) : Env := ⟨fun _ => none, ivAt [big1, big1, (r, r)], [.bin .rem (s8 1) (.int .u8 3) (s8 2)], apB n⟩
def ap5 (n : Nat) (r : Int) (c : Nat) : Option (VT × VH) := runOps Try.prog (feK Try.prog []) Try.f6.ntmps oa3 (oa3.drop 4) (mkT Try.f6.ntmps [(1, s8 1), (17, stV), (19, .agg (apW n r c))]) ⟨apE n r, .nd .lf (some (.cells (rdsy n) (some 14) 0 none)) .lf, 1⟩
def ap6 (n : Nat) (r : Int) (c : Nat) : Option SegO := match ap5 n r c with
  | some (a, H) => seg (rcK Try.prog []) Try.f6.ntmps [0] 1000 ap4 0 [] a H
  | none => none
/-- The object that is put beside. -/
def obC (r : Int) : List VV := [i8 100, i8 (if r = 2 then 99 else 1), i8 0, i8 (if r = 1 then 0 else 3), i8 (if r = 1 then 3 else 2), .bool false, .bool false, .bool false, i8 0, i8 50, i8 0, i8 0, .bool false, .slice none 0 0]
def apT2 (n : Nat) (r : Int) : List VV := .sym 200 :: .slice (some ⟨.loc 5, 0⟩) (n + 1) (n + 1) :: symsV 4 202 ++ ((match decide (r = 1) with | true => .sym 206 | false => .slice (some ⟨.loc 7, 0⟩) (n + 1) (n + 1)) :: symsV 18 207)
def apfin (n : Nat) (r : Int) : Option SegO → Bool
  | some (.cut 0 a H) => match keepL a [(5, .ptr (some ⟨.loc 1, 0⟩)), (6, .ptr (some ⟨.loc 2, 0⟩)), (7, i8 n), (9, i8 1)], H.locs.get 1, H.locs.get 2, H.locs.get 5 with
    | true, some (.cells c1 none _ _), some (.cells c2 none _ _), some (.cells c5 (some 14) _ _) => match vvsEq c1 lySt, vvsEq c2 (apT2 n r), vvsEq c5 (rdsy n ++ obC r) with
      | true, true, true => match decide (r = 1) with
        | true => true
        | false => match H.locs.get 7 with
          | some (.cells c7 (some 1) _ _) => vvsEq c7 (i8 100 :: plids n)
          | _ => false
      | _, _, _ => false
    | _, _, _, _ => false
  | _ => false
def apall (c : Nat) : Nat → Bool
  | 0 => true
  | n + 1 => match apall c n, apfin (n + 1) 0 (ap6 (n + 1) 0 c), apfin (n + 1) 1 (ap6 (n + 1) 1 c), apfin (n + 1) 2 (ap6 (n + 1) 2 c) with
    | true, true, true, true => true
    | _, _, _, _ => false
theorem apallT (c : Nat) : apall c 10 = true := by kernel_rfl
/-! ### no object -/
def apW0 : List VV := .sym 200 :: .slice none 0 0 :: symsV 4 202 ++ (.slice none 0 0 :: symsV 18 207)
def apE0 (r : Int) : Env := ⟨fun _ => none, ivAt [big1, big1, (r, r)], [.bin .rem (s8 1) (.int .u8 3) (s8 2)], fun _ => none⟩
def ap50 (r : Int) : Option (VT × VH) := runOps Try.prog (feK Try.prog []) Try.f6.ntmps oa3 (oa3.drop 4) (mkT Try.f6.ntmps [(1, s8 1), (17, stV), (19, .agg apW0)]) ⟨apE0 r, .lf, 0⟩
def ap60 (r : Int) : Option SegO := match ap50 r with
  | some (a, H) => seg (rcK Try.prog []) Try.f6.ntmps [] 1000 ap4 0 [] a H
  | none => none
def apzB : Option SegO → Bool
  | some (.out .ret a H) => match resL Try.prog a H Try.f6.results.toList with
    | some [.bool true] => true
    | _ => false
  | _ => false
theorem ap0T : ([apzB (ap60 0), apzB (ap60 1), apzB (ap60 2)].all id) = true := by kernel_rfl
/-! ### a round of the loop -/
/-- The small pool in local blocks from a number on. -/
def plC (k : Nat) : List VV := cardV (.string ⟨#[98, 101, 97, 114]⟩) 2 2 2 0 (.slice none 0 0) ++ (cardV (.string ⟨#[108, 111, 114, 100]⟩) 2 2 2 0 (.slice (some ⟨.loc (k + 1), 0⟩) 1 1) ++ (cardV (.string ⟨#[115, 104, 114, 105, 110, 107, 101, 114]⟩) 4 0 0 0 (.slice (some ⟨.loc (k + 3), 0⟩) 1 1) ++ cardV (.string ⟨#[107, 105, 116, 101]⟩) 2 1 1 4 (.slice (some ⟨.loc (k + 6), 0⟩) 2 2)))
def plP (k : Nat) : List (Nat × VO) := [(k + 7, .cells (plC k) none 0 none), (k + 1, .cells (abV 3 4 1 1) none 0 none), (k + 3, .cells (abV 2 3 0 1) none 0 none), (k + 6, .cells (abV 0 1 1 0 ++ abV 1 2 4 0) none 0 none)]
def stW : VV := .agg (symsV 25 200)
def apRes (b : Bool) : VV := .tuple [.agg [si 176, si 177, si 178], .bool b]
def apK (b : Bool) : List KE := [⟨10, [.slice (some ⟨.loc 7, 0⟩) 4 4, stV, si 3], plP 0, apRes b⟩, ⟨10, [.slice (some ⟨.loc 16, 0⟩) 4 4, stW, si 3], plP 9, apRes b⟩]
def apT (i : VV) : List (Nat × VV) := [(5, .ptr (some ⟨.sym 5, 0⟩)), (6, .ptr (some ⟨.sym 6, 0⟩)), (7, si 14), (9, i)]
def apG : Env := ⟨fun _ => none, ivAt [], [.bin .leq (si 3) (si 14) (.bool true), .bin .add (si 3) (i8 1) (si 9)], fun i => match i with
  | 5 => some lySt
  | 6 => some (symsV 25 200)
  | _ => none⟩
def apseg (K : List KE) (E : Env) : Option SegO := match ctx 0 apbody 0 [] with
  | some (c, K') => seg (rcK Try.prog K) Try.f6.ntmps [0] 1000 c 1 (.lp c 0 :: K') (mkT Try.f6.ntmps (apT (si 3))) ⟨E, .lf, 0⟩
  | none => none
def apr (b : Bool) : Bool := lyhd 0 (apT (si 9)) (apseg (apK b) apG)
def apz : Option SegO := apseg [] ⟨fun _ => none, ivAt [], [.bin .leq (si 3) (si 14) (.bool false)], fun _ => none⟩
theorem apsT : ([apr true, apr false, apzB apz].all id) = true := by kernel_rfl
/-! ### to the first call -/
def app1 : Option (VT × VH) := match rcK Try.prog wkK Try.f6.ntmps ap0 (listT [.sym 0, s8 1] 0 .lf) ⟨E0, .lf, 0⟩ with
  | some (.normal, a, H) => match rcK Try.prog wkK Try.f6.ntmps ap1 a H with
    | some (.normal, a, H) => runOps Try.prog (feK Try.prog wkK) Try.f6.ntmps oa3 (oa3.take 1) a H
    | _ => none
  | _ => none
def apq1 : Bool := match app1 with
  | some (a, H) => match keepL a [(0, .sym 0), (1, s8 1)] with
    | true => entB Try.prog (oa3[1]?) a H 17 16 [.sym 0]
    | false => false
  | none => false
theorem apq1T : apq1 = true := by kernel_rfl
/-! ### to the second call -/
def app2 : Option (VT × VH) := runOps Try.prog (feK Try.prog []) Try.f6.ntmps oa3 ((oa3.drop 2).take 1) (mkT Try.f6.ntmps [(0, .sym 0), (1, s8 1), (17, stV)]) ⟨E0, .lf, 0⟩
def apq2 : Bool := match app2 with
  | some (a, H) => match keepL a [(1, s8 1), (17, stV)] with
    | true => entB Try.prog (oa3[3]?) a H 19 16 [.sym 0]
    | false => false
  | none => false
theorem apq2T : apq2 = true := by kernel_rfl
end
end Go.Proofs.Ytgbhmkdldfhamaa.apart
namespace Go.Proofs.Ytgbhmkdldfhamaa.apart
open Go.Ev Go.RowKit
set_option linter.unusedVariables false
noncomputable section
/-! ### states that are alike -/
/-- An effect that an object has. -/
def EfA (x : Int) (k : Nat) (v : Value) (w : World) : Prop :=
  (x / 8 % 2 ≠ 1 ∧ v = .slice none 0 0) ∨ (x / 8 % 2 = 1 ∧ ∃ B O, v = .slice (some ⟨B, O, none⟩) 1 1 ∧ CellsAt w B O [n64 (1 + x / 16 % 4), n64 (x / 64), n64 1, n64 (20 + (k : Int))])
theorem EfS.any {w1 w : World} {G : StG} {x : Int} {k : Nat} {v : Value} (h : EfS w1 G x k v w) : EfA x k v w := by
  rcases h with h | ⟨h1, B, O, h2, _, _, _, h3⟩
  · exact .inl h
  · exact .inr ⟨h1, B, O, h2, h3⟩
theorem EfA.later {w w' : World} {x : Int} {k : Nat} {v : Value} (h : EfA x k v w) (hs : w.heap.size ≤ w'.heap.size) (hb : ∀ k, k < w.heap.size → w'.heap[k]? = w.heap[k]?) : EfA x k v w' := by
  rcases h with h | ⟨h1, B, O, h2, h3⟩
  · exact .inl h
  · exact .inr ⟨h1, B, O, h2, h3.later hs hb⟩
theorem ef_any {G : StG} {p : PoG} {w : World} {k : Nat} {x : Int} (hG : G.OK w) (hp : p.OK w) (hk : k < G.os.length) (hk10 : k < 1000) (hf : G.find ((k : Int) + 1) = k) (hh : 0 ≤ G.has ((k : Int) + 1)) (hx : 0 ≤ x ∧ x ≤ 255) (hc : (G.ob k).card = x % 4) (he : EfA x k (G.ob k).eff w) (hn : G.fs.Nodup) (hl : G.fs.length ≤ 16) :
    ∃ e : EfG, e.g = G ∧ e.p = p ∧ e.bi = k ∧ e.effs = effsOf x k ∧ e.OK ((k : Int) + 1) w := by
  have fit : ∀ y ∈ effsOf x k, y.Fit ∧ 1 ≤ y.op ∧ y.op ≤ 4 := fun y hy => by
    unfold effsOf at hy
    split at hy
    · simp only [List.mem_singleton] at hy
      subst hy
      exact ⟨⟨⟨by dsimp only; omega, by dsimp only; omega⟩, ⟨by dsimp only; omega, by dsimp only; omega⟩, ⟨by dsimp only; omega, by dsimp only; omega⟩, ⟨by dsimp only; omega, by dsimp only; omega⟩⟩, by dsimp only; omega, by dsimp only; omega⟩
    · cases hy
  rcases he with ⟨h1, h2⟩ | ⟨h1, B, O, h2, h6⟩
  · have ee : effsOf x k = [] := by unfold effsOf; rw [if_neg h1]
    refine ⟨⟨G, p, k, effsOf x k, 0, 0⟩, rfl, rfl, rfl, rfl, hG, hp, hk, hf, hh, ⟨by omega, by omega⟩, ?_, ?_, ?_, fun y hy => (fit y hy).2, fun y hy => (fit y hy).1, ?_, fun y hy => ?_, coll_nodup hn hl⟩
    · show 0 ≤ (G.ob k).card
      omega
    · show (G.ob k).card ≤ 3
      omega
    · show (effsOf x k).length ≤ 1
      rw [ee]; simp
    · show (G.ob k).eff = _
      rw [h2]
      simp only [ee]
    · have hy' : (effsOf x k)[0]? = some y := hy
      rw [ee] at hy'
      cases hy'
  · have ee : effsOf x k = [⟨1 + x / 16 % 4, x / 64, 1, 20 + (k : Int)⟩] := by unfold effsOf; rw [if_pos h1]
    refine ⟨⟨G, p, k, effsOf x k, B, O⟩, rfl, rfl, rfl, rfl, hG, hp, hk, hf, hh, ⟨by omega, by omega⟩, ?_, ?_, ?_, fun y hy => (fit y hy).2, fun y hy => (fit y hy).1, ?_, fun y hy => ?_, coll_nodup hn hl⟩
    · show 0 ≤ (G.ob k).card
      omega
    · show (G.ob k).card ≤ 3
      omega
    · show (effsOf x k).length ≤ 1
      rw [ee]; simp
    · show (G.ob k).eff = _
      rw [h2]
      simp only [ee]
    · have hy' : (effsOf x k)[0]? = some y := hy
      rw [ee] at hy'
      cases hy'
      exact h6
/-- The numbers of an object. -/
def core (x : Ob) : Int × Int × Int × Int := (x.id, x.card, x.ctrl, x.st)
theorem acts_core {o o' b b' : Ob} (h : core o = core o') (k : core b = core b') : actsOf o b = actsOf o' b' := by
  simp only [core, Prod.mk.injEq] at h k
  unfold actsOf
  rw [h.1, h.2.1, h.2.2.1, h.2.2.2, k.1, k.2.2.1]
/-- What holds of a state: the beasts are as they were placed, and what acts on each is the same as there. -/
structure Like (g : PlIn) (G G2 : StG) (w : World) : Prop where
  ok : G2.OK w
  nf : G2.fs.length ≤ 16
  nd : G2.fs.Nodup
  at_ : ∀ k, k < g.m → k < G2.os.length ∧ G2.find ((k : Int) + 1) = k ∧ (k : Int) + 1 ∈ G2.fs ∧ core (G2.ob k) = core (G.ob k) ∧ EfA (g.x k) k (G2.ob k).eff w
  same : ∀ k, k < g.m → ∀ t, isort (G2.coll (G2.ob k) G2.fs ++ t) = isort (G.coll (G.ob k) G.fs ++ t)
theorem Like.later {g : PlIn} {G G2 : StG} {w w' : World} (h : Like g G G2 w) (hs : w.heap.size ≤ w'.heap.size) (hb : ∀ k, k < w.heap.size → w'.heap[k]? = w.heap[k]?) : Like g G G2 w' :=
  ⟨h.ok.later hs hb, h.nf, h.nd, fun k hk => let ⟨a, b, c, d, e⟩ := h.at_ k hk; ⟨a, b, c, d, e.later hs hb⟩, h.same⟩
section
variable {g : PlIn} {G G2 : StG} {w w1 : World} {p p2 : PoG} {k : Nat}
/-- Both beasts, and that they are the same. -/
theorem Like.both (h : Like g G G2 w) (hs : PlS g w1 G w) (hx : ∀ k, 0 ≤ g.x k ∧ g.x k ≤ 255) (hk : k < g.m) : ∃ d : Nums × Bool × List Eff, (∀ (w' : World) (p : PoG), w.heap.size ≤ w'.heap.size → (∀ k, k < w.heap.size → w'.heap[k]? = w.heap[k]?) → p.OK w' → ∃ e : EfG, e.g = G ∧ e.p = p ∧ e.OK ((k : Int) + 1) w' ∧ e.ofV = .tuple ⟨[numV d.1, .bool d.2.1]⟩ ∧ e.all = d.2.2) ∧
    (∀ (w' : World) (p : PoG), w.heap.size ≤ w'.heap.size → (∀ k, k < w.heap.size → w'.heap[k]? = w.heap[k]?) → p.OK w' → ∃ e : EfG, e.g = G2 ∧ e.p = p ∧ e.OK ((k : Int) + 1) w' ∧ e.ofV = .tuple ⟨[numV d.1, .bool d.2.1]⟩ ∧ e.all = d.2.2) ∧ (∀ x ∈ d.2.2, Ok4 x ∧ x.Fit) ∧ d.2.2.length ≤ 18 ∧ d.1.Fit := by
  have h10 := hs.m10
  obtain ⟨a1, a2, a3, a4, a5⟩ := h.at_ k hk
  have hc : (G2.ob k).card = (G.ob k).card := by simp only [core, Prod.mk.injEq] at a4; exact a4.2.1
  let c := (G.ob k).card
  let raw := isort (G.coll (G.ob k) G.fs ++ effsOf (g.x k) k)
  let all : List Eff := if c = 2 then [] else raw
  let base : Nums := if c = 3 then base2 else base1
  refine ⟨(if c = 2 then ⟨0, 0, 0⟩ else foldN base all, if c = 2 then false else true, all), fun w' p hsz hb hp => ?_, fun w' p hsz hb hp => ?_, ?_⟩
  · obtain ⟨e, e1, e2, e3, e4, e5⟩ := (hs.later hsz hb).ef_at hx hp hk
    have hb' : e.b = G.ob k := by unfold EfG.b; rw [e1, e3]
    have hall : e.all = all := by
      unfold EfG.all EfG.res EfG.raw
      rw [hb', e1, e4]
    refine ⟨e, e1, e2, e5, ?_, hall⟩
    unfold EfG.ofV EfG.base
    rw [hb', hall]
    by_cases h2 : (G.ob k).card = 2
    · rw [if_pos h2]
      show _ = Value.tuple ⟨[numV (if (G.ob k).card = 2 then ⟨0, 0, 0⟩ else foldN base all), .bool (if (G.ob k).card = 2 then false else true)]⟩
      rw [if_pos h2, if_pos h2]
    · rw [if_neg h2]
      show _ = Value.tuple ⟨[numV (if (G.ob k).card = 2 then ⟨0, 0, 0⟩ else foldN base all), .bool (if (G.ob k).card = 2 then false else true)]⟩
      rw [if_neg h2, if_neg h2]
  · have hl := h.later hsz hb
    obtain ⟨_, _, _, _, a5'⟩ := hl.at_ k hk
    obtain ⟨e, e1, e2, e3, e4, e5⟩ := ef_any hl.ok hp a1 (by omega) a2 (has_mem a3) (hx k) (by rw [hc]; exact (hs.ob k hk).2.1) a5' h.nd h.nf
    have hb' : e.b = G2.ob k := by unfold EfG.b; rw [e1, e3]
    have hall : e.all = all := by
      unfold EfG.all EfG.res EfG.raw
      rw [hb', e1, e4, hc, h.same k hk]
    refine ⟨e, e1, e2, e5, ?_, hall⟩
    unfold EfG.ofV EfG.base
    rw [hb', hall, hc]
    by_cases h2 : (G.ob k).card = 2
    · rw [if_pos h2]
      show _ = Value.tuple ⟨[numV (if (G.ob k).card = 2 then ⟨0, 0, 0⟩ else foldN base all), .bool (if (G.ob k).card = 2 then false else true)]⟩
      rw [if_pos h2, if_pos h2]
    · rw [if_neg h2]
      show _ = Value.tuple ⟨[numV (if (G.ob k).card = 2 then ⟨0, 0, 0⟩ else foldN base all), .bool (if (G.ob k).card = 2 then false else true)]⟩
      rw [if_neg h2, if_neg h2]
  · have hcl : (G.coll (G.ob k) G.fs).length ≤ 17 := coll_nodup hs.nodup (by rw [hs.fsl]; omega)
    have hel : (effsOf (g.x k) k).length ≤ 1 := by unfold effsOf; split <;> simp
    have hraw : ∀ x ∈ G.coll (G.ob k) G.fs ++ effsOf (g.x k) k, Ok4 x ∧ x.Fit := fun x hx' => by
      have hx1 := hx k
      rcases List.mem_append.1 hx' with hx' | hx'
      · refine ⟨?_, coll_fit hs.ok _ _ x hx'⟩
        unfold StG.coll at hx'
        obtain ⟨n, _, hn⟩ := List.mem_flatMap.1 hx'
        exact (acts_ok hn).1
      · unfold effsOf at hx'
        split at hx'
        · simp only [List.mem_singleton] at hx'
          subst hx'
          unfold Ok4 SmallE
          dsimp only
          exact ⟨⟨⟨by omega, by omega, by decide, by decide⟩, by omega, by omega⟩, ⟨by dsimp only; omega, by dsimp only; omega⟩, ⟨by dsimp only; omega, by dsimp only; omega⟩, ⟨by dsimp only; omega, by dsimp only; omega⟩, ⟨by dsimp only; omega, by dsimp only; omega⟩⟩
        · cases hx'
    have hall : ∀ x ∈ all, Ok4 x ∧ x.Fit := fun x hx' => by
      have hx'' : x ∈ (if c = 2 then [] else raw) := hx'
      split at hx''
      · cases hx''
      · exact hraw x (isort_mem hx'')
    refine ⟨hall, ?_, ?_⟩
    · show (if c = 2 then [] else raw).length ≤ 18
      split
      · exact Nat.zero_le _
      · show (isort _).length ≤ 18
        rw [isort_len, List.length_append]
        omega
    · show Nums.Fit (if c = 2 then ⟨0, 0, 0⟩ else foldN base all)
      split
      · exact ⟨i64_0, i64_0, i64_0⟩
      · refine foldN_fit ?_ fun x hx' => (hall x hx').2
        show Nums.Fit (if c = 3 then base2 else base1)
        split
        · exact base2_fit
        · exact base1_fit
end
/-! ### the pool in local blocks -/
theorem pre_at {φ : Phi} {pre : List (Nat × VO)} {w : World} (h : preOK φ pre w) {i : Nat} {o : VO} (hm : (i, o) ∈ pre) : ∃ inf o', φ i = some inf ∧ w.heap[inf.blk]? = some o' ∧ OR φ inf o o' := h (i, o) hm
theorem pool_pre {φ : Phi} {w : World} {k : Nat} (h : preOK φ (plP k) w) : ∃ p : PoG, p.OK w ∧ ∀ v, VR φ (.slice (some ⟨.loc (k + 7), 0⟩) 4 4) v → v = p.v := by
  obtain ⟨i0, o0, f0, h0, q0⟩ := pre_at h (i := k + 7) (o := .cells (plC k) none 0 none) (by simp [plP])
  obtain ⟨i1, o1, f1, h1, q1⟩ := pre_at h (i := k + 1) (o := .cells (abV 3 4 1 1) none 0 none) (by simp [plP])
  obtain ⟨i2, o2, f2, h2, q2⟩ := pre_at h (i := k + 3) (o := .cells (abV 2 3 0 1) none 0 none) (by simp [plP])
  obtain ⟨i3, o3, f3, h3, q3⟩ := pre_at h (i := k + 6) (o := .cells (abV 0 1 1 0 ++ abV 1 2 4 0) none 0 none) (by simp [plP])
  let p : PoG := ⟨i0.blk, i0.off, 4 + i0.slack, fun k => if k = 1 then i1.blk else if k = 2 then i2.blk else i3.blk, fun k => if k = 1 then i1.off else if k = 2 then i2.off else i3.off, fun k => if k = 1 then 1 + i1.slack else if k = 2 then 1 + i2.slack else 2 + i3.slack⟩
  refine ⟨p, ⟨fun k hk => ?_, ?_, ?_, ?_, ?_⟩, fun v k1 => by rw [fun_l f0 v k1]; rfl⟩
  · match k, hk with
    | 0, _ => exact cells_out (pre := []) (xs := cardV (.string ⟨#[98, 101, 97, 114]⟩) 2 2 2 0 (.slice none 0 0)) h0 q0 (fun_card (fun_s _) fun_n)
    | 1, _ => exact cells_out (pre := cardV (.string ⟨#[98, 101, 97, 114]⟩) 2 2 2 0 (.slice none 0 0)) (xs := cardV (.string ⟨#[108, 111, 114, 100]⟩) 2 2 2 0 (.slice (some ⟨.loc _, 0⟩) 1 1)) h0 q0 (fun_card (fun_s _) (fun_l f1))
    | 2, _ => exact cells_out (pre := cardV (.string ⟨#[98, 101, 97, 114]⟩) 2 2 2 0 (.slice none 0 0) ++ cardV (.string ⟨#[108, 111, 114, 100]⟩) 2 2 2 0 (.slice (some ⟨.loc _, 0⟩) 1 1)) (xs := cardV (.string ⟨#[115, 104, 114, 105, 110, 107, 101, 114]⟩) 4 0 0 0 (.slice (some ⟨.loc _, 0⟩) 1 1)) h0 q0 (fun_card (fun_s _) (fun_l f2))
    | 3, _ => exact cells_out (pre := cardV (.string ⟨#[98, 101, 97, 114]⟩) 2 2 2 0 (.slice none 0 0) ++ cardV (.string ⟨#[108, 111, 114, 100]⟩) 2 2 2 0 (.slice (some ⟨.loc _, 0⟩) 1 1) ++ cardV (.string ⟨#[115, 104, 114, 105, 110, 107, 101, 114]⟩) 4 0 0 0 (.slice (some ⟨.loc _, 0⟩) 1 1)) (xs := cardV (.string ⟨#[107, 105, 116, 101]⟩) 2 1 1 4 (.slice (some ⟨.loc _, 0⟩) 2 2)) (post := []) h0 q0 (fun_card (fun_s _) (fun_l f3))
  · exact cells_out (pre := []) (xs := abV 3 4 1 1) (post := []) h1 q1 fun_ab
  · exact cells_out (pre := []) (xs := abV 2 3 0 1) (post := []) h2 q2 fun_ab
  · exact cells_out (pre := []) (xs := abV 0 1 1 0) h3 q3 fun_ab
  · exact cells_out (pre := abV 0 1 1 0) (xs := abV 1 2 4 0) (post := []) h3 q3 fun_ab
end
end Go.Proofs.Ytgbhmkdldfhamaa.apart
namespace Go.Proofs.Ytgbhmkdldfhamaa.apart
open Go.Ev Go.RowKit
set_option linter.unusedVariables false
noncomputable section
/-! ### a state's cells, told by symbols from 200 on -/
def StG.cellAt (G : StG) (j : Nat) : Value := if j = 1 then G.osV else if j = 6 then G.fsV else G.r j
theorem v_cells (G : StG) : G.v = .agg ⟨(List.range 25).map G.cellAt⟩ := rfl
theorem cellAt_one (G : StG) (j : Nat) : (G.cellAt j).oneCell' = true := by
  unfold StG.cellAt
  split
  · rfl
  split
  · rfl
  · exact G.oneR _
theorem cellsV_v (G : StG) : cellsV G.v = (List.range 25).map G.cellAt := rfl
theorem syms_VR {φ : Phi} : ∀ {n k : Nat} {f : Nat → Value}, (∀ j, j < n → φ.ρ.val (k + j) = f j) → VRs φ (symsV n k) ((List.range n).map f)
  | 0, k, f, h => by simp [symsV, VRs]
  | n + 1, k, f, h => by
    rw [List.range_succ_eq_map, List.map_cons, List.map_map]
    refine cons_VR ?_ (syms_VR fun j hj => ?_)
    · simp only [VR]
      exact (h 0 (by omega)).symm
    · rw [show k + 1 + j = k + (j + 1) by omega]
      exact h (j + 1) (by omega)
theorem stW_cells {φ : Phi} {G : StG} (h : ∀ j, j < 25 → φ.ρ.val (200 + j) = G.cellAt j) : VRs φ (symsV 25 200) (cellsV G.v) := by
  rw [cellsV_v]
  exact syms_VR h
theorem stW_inv {φ : Phi} {G : StG} (h : ∀ j, j < 25 → φ.ρ.val (200 + j) = G.cellAt j) {v : Value} (hv : VR φ stW v) : v = G.v := by
  unfold stW at hv
  rw [VR] at hv
  obtain ⟨us, h1, rfl⟩ := hv
  have hf : FunL φ (symsV ((List.range 25).map G.cellAt).length 200) ((List.range 25).map G.cellAt) := FunL_syms fun j v hj => by
    have hlt := (List.getElem?_eq_some_iff.1 hj).1
    rw [List.length_map, List.length_range] at hlt
    rw [List.getElem?_map, List.getElem?_range hlt] at hj
    cases hj
    exact h j hlt
  have e : ((List.range 25).map G.cellAt).length = 25 := by simp
  rw [e] at hf
  rw [FunL_eq hf h1, v_cells]
/-! ### two states side by side -/
structure ApG where
  g : PlIn
  G : StG
  G2 : StG
  b5 : Nat
  o5 : Nat
  b6 : Nat
  o6 : Nat
structure ApM (y : ApG) (w0 w1 w : World) : Prop where
  anc : Anc w0 w
  pls : PlS y.g w1 y.G w
  lk : Like y.g y.G y.G2 w
  s5 : CellsAt w y.b5 y.o5 (cellsV y.G.v)
  s6 : CellsAt w y.b6 y.o6 (cellsV y.G2.v)
theorem ApM.later {y : ApG} {w0 w1 w w' : World} (h : ApM y w0 w1 w) (hw : WK w w') (hb : ∀ k, k < w.heap.size → w'.heap[k]? = w.heap[k]?) : ApM y w0 w1 w' :=
  ⟨h.anc.trans ⟨hw, hb⟩, h.pls.later hw.size hb, h.lk.later hw.size hb, h.s5.later hw.size hb, h.s6.later hw.size hb⟩
def twint (id n : Int) (s : Nums) : Nat → Int
  | 3 => id
  | 9 => w64 (id + 1)
  | 14 => n
  | 176 => s.p
  | 177 => s.t
  | 178 => s.k
  | _ => 0
def twval (y : ApG) (k : Nat) : Value := if k < 200 then qval y.G k else y.G2.cellAt (k - 200)
/-- The symbols: both states, the number, what is told of it. -/
def twrho (y : ApG) (id n : Int) (s : Nums) (l : List Eff) : Rho where
  int := fun k => if k = 158 then (l.length : Int) else twint id n s k
  val := twval y
  blk k := if k = 5 then y.b5 else y.b6
  off k := if k = 5 then y.o5 else y.o6
  one k := by
    unfold twval
    split
    · exact qval_one _
    · exact cellAt_one _ _
  lst k := if k = 144 then cellsOf l else []
  lcl k x hx := by
    revert hx
    split
    · exact cellsOf_closed _ x
    · intro h; cases h
section
variable {w0 w1 w : World} {y : ApG} {id n : Int} {s : Nums} {l : List Eff} {act : Act} {HD : Nat → Act → World → Prop}
theorem tw_st : StRho y.G (twrho y id n s l) := ⟨fun k hk => by
  show twval y k = _
  unfold twval
  rw [if_pos (by omega)]⟩
theorem tw_w (j : Nat) (hj : j < 25) : (twrho y id n s l).val (200 + j) = y.G2.cellAt j := by
  show twval y (200 + j) = _
  unfold twval
  rw [if_neg (by omega), Nat.add_sub_cancel_left]
theorem tw_fits (hid : I64 id) (hn : I64 n) (hs : s.Fit) (hl : l.length ≤ 1000) (k : Nat) : I64 ((twrho y id n s l).int k) := by
  show I64 (if k = 158 then (l.length : Int) else twint id n s k)
  split
  · exact ⟨by omega, by omega⟩
  unfold twint
  split
  · exact hid
  · exact w64_fits _
  · exact hn
  · exact hs.p
  · exact hs.t
  · exact hs.k
  · exact i64_0
theorem ap_res {φ : Phi} {b : Bool} (hφ : φ.ρ = twrho y id n s l) : VR φ (apRes b) (.tuple ⟨[numV s, .bool b]⟩) := by
  unfold apRes
  rw [VR]
  refine ⟨_, cons_VR (v := numV s) ?_ (cons_VR (v := .bool b) (by simp only [VR]) nil_VR), rfl⟩
  simp only [numV, VR, VRs, si, hφ]
  exact ⟨_, ⟨_, _, rfl, rfl, _, _, rfl, rfl, _, _, rfl, rfl, rfl⟩, rfl⟩
/-- Of, of both states, as known calls. -/
theorem tw_of1 {b : Bool} {k : Nat} (h : ∀ (w' : World) (p : PoG), w.heap.size ≤ w'.heap.size → (∀ k, k < w.heap.size → w'.heap[k]? = w.heap[k]?) → p.OK w' → ∃ e : EfG, e.g = y.G ∧ e.p = p ∧ e.OK id w' ∧ e.ofV = .tuple ⟨[numV s, .bool b]⟩ ∧ e.all = l) :
    KEok Try.prog (twrho y id n s l) w ⟨10, [.slice (some ⟨.loc (k + 7), 0⟩) 4 4, stV, si 3], plP k, apRes b⟩ := by
  intro φ vs w' hφ h1 h2 hv hpre
  obtain ⟨p, hp, hpv⟩ := pool_pre hpre
  obtain ⟨e, e1, e2, e3, e4, e5⟩ := h w' p h1 (fun k hk => h2 k hk (fun x => x)) hp
  have hv' : vs = [p.v, y.G.v, .int .i64 id] := by
    simp only [VRs] at hv
    obtain ⟨a, bs, rfl, ha, v, ws, rfl, hs, u, us, rfl, hu, rfl⟩ := hv
    rw [stV_inv (g := y.G) (by rw [hφ]; exact tw_st) hs, hpv a ha]
    simp only [si, VR, hφ] at hu
    rw [hu]
    rfl
  subst hv'
  have := of_calls e3
  rw [e1, e2] at this
  refine this.mono ?_
  rintro en w'' ⟨rfl, hb⟩
  exact ⟨_, rfl, by rw [e4]; exact ap_res hφ, hb⟩
theorem tw_of2 {b : Bool} {k : Nat} (h : ∀ (w' : World) (p : PoG), w.heap.size ≤ w'.heap.size → (∀ k, k < w.heap.size → w'.heap[k]? = w.heap[k]?) → p.OK w' → ∃ e : EfG, e.g = y.G2 ∧ e.p = p ∧ e.OK id w' ∧ e.ofV = .tuple ⟨[numV s, .bool b]⟩ ∧ e.all = l) :
    KEok Try.prog (twrho y id n s l) w ⟨10, [.slice (some ⟨.loc (k + 7), 0⟩) 4 4, stW, si 3], plP k, apRes b⟩ := by
  intro φ vs w' hφ h1 h2 hv hpre
  obtain ⟨p, hp, hpv⟩ := pool_pre hpre
  obtain ⟨e, e1, e2, e3, e4, e5⟩ := h w' p h1 (fun k hk => h2 k hk (fun x => x)) hp
  have hv' : vs = [p.v, y.G2.v, .int .i64 id] := by
    simp only [VRs] at hv
    obtain ⟨a, bs, rfl, ha, v, ws, rfl, hs, u, us, rfl, hu, rfl⟩ := hv
    rw [stW_inv (G := y.G2) (by rw [hφ]; exact fun j hj => tw_w j hj) hs, hpv a ha]
    simp only [si, VR, hφ] at hu
    rw [hu]
    rfl
  subst hv'
  have := of_calls e3
  rw [e1, e2] at this
  refine this.mono ?_
  rintro en w'' ⟨rfl, hb⟩
  exact ⟨_, rfl, by rw [e4]; exact ap_res hφ, hb⟩
/-- The temporaries at the head. -/
structure ApT (y : ApG) (id : Int) (act : Act) : Prop where
  sz : act.tmps.size = Try.f6.ntmps
  df : act.defers = []
  t5 : act.tmps.getD 5 undef = .pointer (some ⟨y.b5, y.o5, none⟩)
  t6 : act.tmps.getD 6 undef = .pointer (some ⟨y.b6, y.o6, none⟩)
  t7 : act.tmps.getD 7 undef = n64 (y.g.m : Int)
  t9 : act.tmps.getD 9 undef = n64 id
theorem nt6 : Try.f6.ntmps ≤ top := Nat.le_of_ble_eq_true (by kernel_rfl)
theorem ap_tr (ha : ApT y id act) : TR ⟨fun _ => none, twrho y id (y.g.m : Int) s l⟩ (mkT Try.f6.ntmps (apT (si 3))) act.tmps := by
  have h1 : ∀ q ∈ apT (si 3), q.1 < top ∧ VR ⟨fun _ => none, twrho y id (y.g.m : Int) s l⟩ q.2 (act.tmps.getD q.1 undef) := by
    intro q hq
    simp only [apT, List.mem_cons, List.not_mem_nil, or_false] at hq
    rcases hq with rfl | rfl | rfl | rfl
    · exact ⟨show 5 < top by decide, by simp only [ha.t5, VR, AR]; exact ⟨_, _, ⟨rfl, rfl⟩, rfl⟩⟩
    · exact ⟨show 6 < top by decide, by simp only [ha.t6, VR, AR]; exact ⟨_, _, ⟨rfl, rfl⟩, rfl⟩⟩
    · exact ⟨show 7 < top by decide, by simp only [ha.t7, si, VR]; rfl⟩
    · exact ⟨show 9 < top by decide, by simp only [ha.t9, si, VR]; rfl⟩
  exact mkT_TR ha.sz nt6 h1
/-- What is asked at the end. -/
def apQ (w0 : World) : Exit → Act → World → Prop := fun e act w => (e = .ret ∨ e = .normal) ∧ act.defers = [] ∧ ∃ v, (results Try.f6 act.tmps).run Try.prog w = .ok v w ∧ Ending.returned v = .returned (.bool true) ∧ Below w0.heap.size w0 w
inductive ApI (y : ApG) (w0 w1 : World) : Nat → Nat → Act → World → Prop
  | at_ {j : Nat} {act : Act} {w : World} : j ≤ y.g.m → ApT y ((j : Int) + 1) act → ApM y w0 w1 w → ApI y w0 w1 (y.g.m - j) 0 act w
theorem apsT_at {b : Bool} (h : b ∈ [apr true, apr false, apzB apz]) : b = true := by
  have := apsT
  rw [List.all_eq_true] at this
  exact this b h
theorem apzB_of {o : Option SegO} (h : apzB o = true) : ∃ a H, o = some (.out .ret a H) ∧ resL Try.prog a H Try.f6.results.toList = some [.bool true] := by
  unfold apzB at h
  split at h
  · split at h
    · rename_i h2
      exact ⟨_, _, rfl, h2⟩
    · cases h
  · cases h
theorem ap_heads (hg : ∀ k, 0 ≤ y.g.x k ∧ y.g.x k ≤ 255) : ∀ k t act w', ApI y w0 w1 k t act w' → ∀ c K, ctx t apbody 0 [] = some (c, K) → At1 apbody (.loop c) t K → KOK apbody K → ∀ HD : Nat → Act → World → Prop, (∀ t' act' w'', (∃ j, j < k ∧ ApI y w0 w1 j t' act' w'') → HD t' act' w'' ∧ ∀ c' K', ctx t' apbody 0 [] = some (c', K') → (Code.loop c').wpIn (Fr none) 0 Try.prog (postK Try.prog HD (apQ w0) K') act' w'') →
      c.wpIn (Fr none) 0 Try.prog (postK Try.prog HD (apQ w0) (.lp c t :: K)) act w' := by
  rintro k t act w' hI c K hc hat hko HD hHD
  cases hI with
  | @at_ j _ _ hj ha hM =>
    have hm := hM.pls.m10
    by_cases hlt : j < y.g.m
    · obtain ⟨d, d1, d2, d3, d4, d5⟩ := hM.lk.both hM.pls hg hlt
      obtain ⟨s, b, l⟩ := d
      letI : Ext := XK Try.prog (apK b) (fun _ => False)
      have hchk : apr b = true := by cases b <;> exact apsT_at (by simp)
      obtain ⟨a, H, hseg, hkeep⟩ := lyhd_of hchk
      unfold apseg at hseg
      rw [hc] at hseg
      simp only at hseg
      have hx : (XK Try.prog (apK b) (fun _ => False)).ok (twrho y ((j : Int) + 1) (y.g.m : Int) s l) w' := fun e he => by
        simp only [apK, List.mem_cons, List.not_mem_nil, or_false] at he
        rcases he with rfl | rfl
        · exact tw_of1 (k := 0) d1
        · exact tw_of2 (k := 9) d2
      have hE : @EnvOK (XK Try.prog (apK b) (fun _ => False)) apG ⟨fun _ => none, twrho y ((j : Int) + 1) (y.g.m : Int) s l⟩ w' := by
        refine @EnvOK.mk (XK Try.prog (apK b) (fun _ => False)) _ _ _ hx (ivs_nil (tw_fits ⟨by omega, by omega⟩ ⟨by omega, by omega⟩ d5 (by have : l.length ≤ 18 := d4; omega))) ?_ ?_
        · have h1 : FsOK apG.tab (twrho y ((j : Int) + 1) (y.g.m : Int) s l) := fs_cons (fact_leqG rfl rfl (decide_eq_true (show (j : Int) + 1 ≤ (y.g.m : Int) by omega))) (fs_cons (fact_addG rfl rfl rfl) fs_nil)
          exact fun x hx => FactOK.w (h1 x hx)
        · intro k c hk
          simp only [apG] at hk
          split at hk
          · cases hk
            exact cells_blk hM.s5 (lySt_VR (y := ⟨y.g, y.G, ⟨0, 0, 0, fun _ => 0, fun _ => 0, fun _ => 0⟩, 0, 0, 0, 0⟩) tw_st)
          · cases hk
            exact cells_blk hM.s6 (stW_cells fun j hj => tw_w j hj)
          · cases hk
      refine plain_part (X := XK Try.prog (apK b) (fun _ => False)) (ρ := twrho y ((j : Int) + 1) (y.g.m : Int) s l) (hrcK (noNG_of noNG) mixed) nt6 hat.loop.2 hko hseg (ap_tr ha) hE (fun r => rfl) ha.sz ha.df (fun k h => h) fun act' w'' φ b => ?_
      have hq := keepL_VR b.tr hkeep
      have a5 := hq (5, .ptr (some ⟨.sym 5, 0⟩)) (by simp [apT])
      have a6 := hq (6, .ptr (some ⟨.sym 6, 0⟩)) (by simp [apT])
      have a7 := hq (7, si 14) (by simp [apT])
      have a9 := hq (9, si 9) (by simp [apT])
      simp only [VR, AR, b.rho] at a5 a6
      simp only [si, VR, b.rho] at a7 a9
      obtain ⟨_, _, ⟨rfl, rfl⟩, a5⟩ := a5
      obtain ⟨_, _, ⟨rfl, rfl⟩, a6⟩ := a6
      refine hHD 0 act' w'' ⟨y.g.m - (j + 1), by omega, .at_ (by omega) ⟨b.sz, b.df, a5, a6, a7, ?_⟩ (hM.later b.wk fun k hk => b.same k hk (fun h => h))⟩
      rw [a9]
      show Value.int .i64 (w64 ((j : Int) + 1 + 1)) = n64 (((j + 1 : Nat) : Int) + 1)
      rw [w64_same (by omega)]
      unfold n64
      congr 1
    · obtain rfl : j = y.g.m := by omega
      letI : Ext := XK Try.prog [] (fun _ => False)
      obtain ⟨a, H, hseg, hres⟩ := apzB_of (show apzB apz = true from apsT_at (by simp))
      unfold apz apseg at hseg
      rw [hc] at hseg
      simp only at hseg
      have hE : EnvOK ⟨fun _ => none, ivAt [], [.bin .leq (si 3) (si 14) (.bool false)], fun _ => none⟩ ⟨fun _ => none, twrho y ((y.g.m : Int) + 1) (y.g.m : Int) ⟨0, 0, 0⟩ []⟩ w' := by
        refine EnvOK.mk (fun e he => by cases he) (ivs_nil (tw_fits ⟨by omega, by omega⟩ ⟨by omega, by omega⟩ ⟨i64_0, i64_0, i64_0⟩ (Nat.zero_le _))) ?_ (fun k c hk => by cases hk)
        have h1 : FsOK [.bin .leq (si 3) (si 14) (.bool false)] (twrho y ((y.g.m : Int) + 1) (y.g.m : Int) ⟨0, 0, 0⟩ []) := fs_cons (fact_leqG rfl rfl (decide_eq_false (show ¬ (y.g.m : Int) + 1 ≤ (y.g.m : Int) by omega))) fs_nil
        exact fun x hx => FactOK.w (h1 x hx)
      refine plain_part (X := XK Try.prog [] (fun _ => False)) (ρ := twrho y ((y.g.m : Int) + 1) (y.g.m : Int) ⟨0, 0, 0⟩ []) (hrcK (noNG_of noNG) mixed) nt6 hat.loop.2 hko hseg (ap_tr ha) hE (fun r => rfl) ha.sz ha.df (fun k h => h) fun act' w'' φ b => ?_
      obtain ⟨v', r1, r2⟩ := results_sound (P := Try.prog) b.tr b.sim (fn := Try.f6) hres
      have r3 : v' = .bool true := by
        simpa only [oneV, VR] using r2
      exact ⟨.inl rfl, b.df, v', r1, by rw [r3], anc_back (hM.anc.trans ⟨b.wk, fun k hk => b.same k hk (fun h => h)⟩)⟩
end
end
end Go.Proofs.Ytgbhmkdldfhamaa.apart
namespace Go.Proofs.Ytgbhmkdldfhamaa.apart
open Go.Ev Go.RowKit
set_option linter.unusedVariables false
noncomputable section
/-- The object that is put beside. -/
def obXc (r : Int) : Nat → Value
  | 4 => n64 (if r = 1 then 3 else 2)
  | 2 => n64 0
  | 8 => n64 0
  | 10 => n64 0
  | 11 => n64 0
  | _ => .bool false
def obX (r : Int) : Ob where
  id := 100
  card := if r = 2 then 99 else 1
  ctrl := if r = 1 then 0 else 3
  st := 50
  eff := .slice none 0 0
  o := obXc r
  oneE := rfl
  oneO j := by
    unfold obXc
    split <;> rfl
theorem obX_fit {r : Int} : (obX r).Fit := by
  refine ⟨⟨by show _ ≤ (100 : Int); decide, by show (100 : Int) ≤ _; decide⟩, ?_, ?_, ⟨by show _ ≤ (50 : Int); decide, by show (50 : Int) ≤ _; decide⟩⟩
  · show I64 (if r = 2 then 99 else 1)
    split <;> exact ⟨by decide, by decide⟩
  · show I64 (if r = 1 then 0 else 3)
    split <;> exact ⟨by decide, by decide⟩
theorem obX_fun {φ : Phi} {r : Int} : FunL φ (obC r) ((List.range 14).map (obX r).cell) :=
  ⟨fun_i _, fun_i _, fun_i _, fun_i _, fun_i _, fun_b _, fun_b _, fun_b _, fun_i _, fun_i _, fun_i _, fun_i _, fun_b _, fun_n, trivial⟩
structure ApP where
  B : Nat
  O : Nat
  s : Nat
  Bf : Nat
  Of : Nat
  sf : Nat
def apG2 (G : StG) (r : Int) (q : ApP) : StG where
  os := G.os ++ [obX r]
  oa := some ⟨q.B, q.O, none⟩
  oc := G.os.length + 1 + q.s
  oB := q.B
  oO := q.O
  fs := if r = 1 then G.fs else 100 :: G.fs
  fa := if r = 1 then G.fa else some ⟨q.Bf, q.Of, none⟩
  fc := if r = 1 then G.fc else G.fs.length + 1 + q.sf
  fB := if r = 1 then G.fB else q.Bf
  fO := if r = 1 then G.fO else q.Of
  r := G.r
  oneR := G.oneR
theorem flatMap_eq {α β : Type} {f h : α → List β} : ∀ {l : List α}, (∀ x ∈ l, f x = h x) → l.flatMap f = l.flatMap h
  | [], _ => rfl
  | x :: l, k => by
    rw [List.flatMap_cons, List.flatMap_cons, k x List.mem_cons_self, flatMap_eq fun y hy => k y (List.mem_cons_of_mem _ hy)]
theorem spec_off {c i j x y : Int} (h1 : c = 1 → x ≠ y) (h2 : c ≠ 2) (h3 : c ≠ 3) : spec c i j x y = [] := by
  unfold spec
  by_cases h : c = 1
  · rw [if_pos h, if_neg (fun hh => h1 h hh.1)]
  · rw [if_neg h, if_neg h2, if_neg h3]
section
variable {g : PlIn} {G G1 : StG} {w w1 w1' w' : World} {r : Int} {q : ApP}
theorem ap_ob (h : PlS g w1 G1 w) {k : Nat} (hk : k < g.m) : (apG2 G1 r q).ob k = G1.ob k := by
  unfold StG.ob apG2
  rw [List.getD_eq_getElem?_getD, List.getD_eq_getElem?_getD, List.getElem?_append_left (by rw [h.no]; exact hk)]
theorem ap_find (h : PlS g w1 G1 w) {k : Nat} (hk : k < g.m) : (apG2 G1 r q).find ((k : Int) + 1) = k := by
  have hk' : k < G1.os.length := by rw [h.no]; exact hk
  have := fixI_at (p := hasId ((k : Int) + 1)) (l := G1.os ++ [obX r]) (i := 0) (k := k) (fun j x hj hx => by
    rw [List.getElem?_append_left (by omega)] at hx
    unfold hasId
    rw [(h.obk hx).2]
    exact decide_eq_false (by omega)) ⟨_, by rw [List.getElem?_append_left hk']; exact List.getElem?_eq_getElem hk', by
      unfold hasId
      rw [(h.obk (List.getElem?_eq_getElem hk')).2]
      exact decide_eq_true rfl⟩
  unfold StG.find
  show fixI _ 0 (G1.os ++ [obX r]) = _
  rw [this]
  omega
theorem ap_find100 (h : PlS g w1 G1 w) : (apG2 G1 r q).find 100 = g.m := by
  have hm := h.m10
  have := fixI_at (p := hasId 100) (l := G1.os ++ [obX r]) (i := 0) (k := g.m) (fun j x hj hx => by
    rw [List.getElem?_append_left (by rw [h.no]; exact hj)] at hx
    unfold hasId
    rw [(h.obk hx).2]
    exact decide_eq_false (by omega)) ⟨obX r, by rw [List.getElem?_append_right (by rw [h.no]; exact Nat.le_refl _), h.no, Nat.sub_self]; rfl, rfl⟩
  unfold StG.find
  show fixI _ 0 (G1.os ++ [obX r]) = _
  rw [this]
  omega
theorem ap_ob100 (h : PlS g w1 G1 w) : (apG2 G1 r q).ob g.m = obX r := by
  unfold StG.ob apG2
  rw [List.getD_eq_getElem?_getD, List.getElem?_append_right (by rw [h.no]; exact Nat.le_refl _), h.no, Nat.sub_self]
  rfl
theorem core_of (h : PlS g w1 G w) {k : Nat} (hk : k < g.m) : core (G.ob k) = ((k : Int) + 1, g.x k % 4, g.x k / 4 % 2, plSt k) := by
  obtain ⟨h1, h2, h3, h4⟩ := h.ob k hk
  unfold core
  rw [h1, h2, h3, h4]
/-- What acts on each is the same. -/
theorem ap_coll (h : PlS g w1 G w) (h1 : PlS g w1' G1 w') (hx : ∀ k, 0 ≤ g.x k ∧ g.x k ≤ 255) {k : Nat} (hk : k < g.m) : (apG2 G1 r q).coll ((apG2 G1 r q).ob k) (apG2 G1 r q).fs = G.coll (G.ob k) G.fs := by
  have hm := h.m10
  have hfs : G1.fs = G.fs := by rw [h.fs, h1.fs]
  have hb : core ((apG2 G1 r q).ob k) = core (G.ob k) := by rw [ap_ob h1 hk, core_of h hk, core_of h1 hk]
  have inner : ∀ n ∈ G1.fs, (apG2 G1 r q).acts ((apG2 G1 r q).ob k) n = G.acts (G.ob k) n := fun n hn => by
    rw [h1.fs, List.mem_map] at hn
    obtain ⟨j, hj, rfl⟩ := hn
    have hj := List.mem_range.1 hj
    unfold StG.acts
    rw [ap_find h1 hj, h.find hj, if_neg (by omega), if_neg (by omega)]
    simp only [Int.toNat_natCast]
    exact acts_core (by rw [ap_ob h1 hj, core_of h hj, core_of h1 hj]) hb
  have rest : G1.fs.flatMap ((apG2 G1 r q).acts ((apG2 G1 r q).ob k)) = G.coll (G.ob k) G.fs := by
    rw [flatMap_eq inner, hfs]
    rfl
  show ((if r = 1 then G1.fs else 100 :: G1.fs) : List Int).flatMap ((apG2 G1 r q).acts ((apG2 G1 r q).ob k)) = _
  by_cases hr : r = 1
  · rw [if_pos hr]
    exact rest
  · rw [if_neg hr, List.flatMap_cons, rest]
    have e : (apG2 G1 r q).acts ((apG2 G1 r q).ob k) 100 = [] := by
      unfold StG.acts
      rw [ap_find100 h1, if_neg (by omega)]
      simp only [Int.toNat_natCast]
      rw [ap_ob100 h1]
      have hc : ((apG2 G1 r q).ob k).ctrl = g.x k / 4 % 2 := by rw [ap_ob h1 hk]; exact (h1.ob k hk).2.2.1
      have hxk := hx k
      unfold actsOf
      rw [spec_off, List.map_nil]
      · intro h1
        rw [hc]
        show (if r = 1 then (0 : Int) else 3) ≠ _
        rw [if_neg hr]
        omega
      · show (if r = 2 then (99 : Int) else 1) ≠ 2
        split <;> decide
      · show (if r = 2 then (99 : Int) else 1) ≠ 3
        split <;> decide
    rw [e]
    rfl
/-- The state with one more object, alike. -/
theorem ap_like (h : PlS g w1 G w) (h1 : PlS g w1' G1 w') (hx : ∀ k, 0 ≤ g.x k ∧ g.x k ≤ 255) (hne : ∀ k, k < w'.heap.size → k ≠ G1.oB → w.heap[k]? = w'.heap[k]?) (hsz : w'.heap.size ≤ w.heap.size) (h0 : 0 < g.m)
    (ho : CellsAt w q.B q.O ((List.range g.m).flatMap (fun k => (List.range 14).map (G1.ob k).cell) ++ (List.range 14).map (obX r).cell)) (hf : r ≠ 1 → CellsAt w q.Bf q.Of (n64 100 :: (List.range g.m).map fun (k : Nat) => n64 ((k : Int) + 1))) : Like g G (apG2 G1 r q) w := by
  have hm := h.m10
  have hlen : (apG2 G1 r q).os.length = g.m + 1 := by simp [apG2, h1.no]
  have hfl : G1.fs.length = g.m := h1.fsl
  have keep : ∀ {a : Addr} {v : Value}, a.block < w'.heap.size → a.block ≠ G1.oB → w'.cell? a = some v → w.cell? a = some v := fun {a v} k1 k2 k3 => by
    rw [← k3]
    unfold World.cell?
    rw [hne _ k1 k2]
  have hin : ∀ {n : Int}, n ∈ G1.fs → 1 ≤ n ∧ n ≤ 10 := fun {n} hn => by
    rw [h1.fs, List.mem_map] at hn
    obtain ⟨j, hj, rfl⟩ := hn
    have := List.mem_range.1 hj
    omega
  have hl14 : ∀ m, ((List.range m).flatMap fun k => (List.range 14).map (G1.ob k).cell).length = m * 14 := fun m => by
    induction m with
    | zero => rfl
    | succ m ih2 => rw [List.range_succ (n := m), List.flatMap_append, List.length_append, ih2]; simp; omega
  have hflat : ∀ {m k j : Nat}, k < m → j < 14 → ((List.range m).flatMap fun k => (List.range 14).map (G1.ob k).cell)[k * 14 + j]? = some ((G1.ob k).cell j) := by
    intro m
    induction m with
    | zero => intro k j hk; omega
    | succ m ih =>
      intro k j hk hj
      rw [List.range_succ (n := m), List.flatMap_append]
      by_cases e : k < m
      · rw [List.getElem?_append_left (by rw [hl14]; omega)]
        exact ih e hj
      · obtain rfl : k = m := by omega
        rw [List.getElem?_append_right (by rw [hl14]; omega), hl14, show k * 14 + j - k * 14 = j by omega]
        simp [List.getElem?_range hj]
  have hflen := hl14 g.m
  refine ⟨⟨by rw [hlen]; omega, ?_, ?_, ?_, ?_, ?_⟩, ?_, ?_, ?_, ?_⟩
  · show (if r = 1 then G1.fs else 100 :: G1.fs).length ≤ 1000000
    split
    · omega
    · simp only [List.length_cons]; omega
  · intro x hx'
    have hx' : x ∈ G1.os ++ [obX r] := hx'
    rcases List.mem_append.1 hx' with hx' | hx'
    · exact h1.ok.fo x hx'
    · rw [List.mem_singleton.1 hx']
      exact obX_fit
  · intro n hn
    have hn : n ∈ (if r = 1 then G1.fs else 100 :: G1.fs) := hn
    split at hn
    · exact h1.ok.ff n hn
    · rcases List.mem_cons.1 hn with rfl | hn
      · exact ⟨by decide, by decide⟩
      · exact h1.ok.ff n hn
  · intro i x hi
    refine ⟨rfl, ho.1, fun j hj => ?_⟩
    have hi : (G1.os ++ [obX r])[i]? = some x := hi
    show w.cell? ⟨q.B, q.O + i * 14 + j, none⟩ = _
    rw [Nat.add_assoc]
    refine ho.2 _ _ ?_
    by_cases e : i < g.m
    · rw [List.getElem?_append_left (by rw [h1.no]; exact e)] at hi
      rw [List.getElem?_append_left (by rw [hflen]; omega), hflat e hj]
      have : G1.ob i = x := by
        unfold StG.ob
        rw [List.getD_eq_getElem?_getD, hi]
        rfl
      rw [this]
    · have hlt : i < (G1.os ++ [obX r]).length := (List.getElem?_eq_some_iff.1 hi).1
      rw [List.length_append, h1.no] at hlt
      simp only [List.length_singleton] at hlt
      obtain rfl : i = g.m := by omega
      rw [List.getElem?_append_right (by rw [h1.no]; exact Nat.le_refl _), h1.no, Nat.sub_self] at hi
      cases hi
      rw [List.getElem?_append_right (by rw [hflen]; omega), hflen, show g.m * 14 + j - g.m * 14 = j by omega]
      simp [List.getElem?_range hj]
  · intro i n hi
    have hi : (if r = 1 then G1.fs else 100 :: G1.fs)[i]? = some n := hi
    show (if r = 1 then G1.fa else some ⟨q.Bf, q.Of, none⟩) = some ⟨(if r = 1 then G1.fB else q.Bf), (if r = 1 then G1.fO else q.Of), none⟩ ∧ (if r = 1 then G1.fB else q.Bf) < _ ∧ w.cell? ⟨(if r = 1 then G1.fB else q.Bf), (if r = 1 then G1.fO else q.Of) + i, none⟩ = _
    by_cases hr : r = 1
    · rw [if_pos hr] at hi
      rw [if_pos hr, if_pos hr, if_pos hr]
      obtain ⟨f1, f2, f3⟩ := h1.ok.cf i n hi
      exact ⟨f1, by omega, keep f2 (h1.ne h0).symm f3⟩
    · rw [if_neg hr] at hi
      rw [if_neg hr, if_neg hr, if_neg hr]
      have hf := hf hr
      refine ⟨rfl, hf.1, hf.2 i _ ?_⟩
      cases i with
      | zero =>
        simp only [List.getElem?_cons_zero, Option.some.injEq] at hi ⊢
        rw [← hi]
        rfl
      | succ i =>
        simp only [List.getElem?_cons_succ] at hi ⊢
        rw [h1.fs, List.getElem?_map] at hi
        rw [List.getElem?_map]
        cases hri : (List.range g.m)[i]? with
        | none => rw [hri] at hi; cases hi
        | some z =>
          rw [hri] at hi
          simp only [Option.map_some, Option.some.injEq] at hi ⊢
          rw [← hi]
          rfl
  · show (if r = 1 then G1.fs else 100 :: G1.fs).length ≤ 16
    split
    · omega
    · simp only [List.length_cons]; omega
  · show (if r = 1 then G1.fs else 100 :: G1.fs).Nodup
    split
    · exact h1.nodup
    · refine List.nodup_cons.2 ⟨fun hn => ?_, h1.nodup⟩
      have := hin hn
      omega
  · intro k hk
    refine ⟨by rw [hlen]; omega, ap_find h1 hk, ?_, ?_, ?_⟩
    · show (k : Int) + 1 ∈ (if r = 1 then G1.fs else 100 :: G1.fs)
      split
      · exact h1.mem hk
      · exact List.mem_cons_of_mem _ (h1.mem hk)
    · rw [ap_ob h1 hk, core_of h hk, core_of h1 hk]
    · rw [ap_ob h1 hk]
      rcases h1.ef k hk with he | ⟨he, B, O, e1, e2, e3, e4, e5⟩
      · exact .inl he
      · exact .inr ⟨he, B, O, e1, by have := e5.1; omega, fun j v hj => keep e5.1 e4 (e5.2 j v hj)⟩
  · intro k hk t
    rw [ap_coll h h1 hx hk]
end
end
end Go.Proofs.Ytgbhmkdldfhamaa.apart
namespace Go.Proofs.Ytgbhmkdldfhamaa.apart
open Go.Ev Go.RowKit
set_option linter.unusedVariables false
noncomputable section
theorem row_len {f : Nat → Nat → Value} : ∀ m, ((List.range m).flatMap fun k => (List.range 14).map (f k)).length = m * 14 := fun m => by
  induction m with
  | zero => rfl
  | succ m ih2 => rw [List.range_succ (n := m), List.flatMap_append, List.length_append, ih2]; simp; omega
theorem row_at {f : Nat → Nat → Value} : ∀ {m j : Nat}, j < m * 14 → ((List.range m).flatMap fun k => (List.range 14).map (f k))[j]? = some (f (j / 14) (j % 14)) := by
  intro m
  induction m with
  | zero => intro j hj; omega
  | succ m ih =>
    intro j hj
    rw [List.range_succ (n := m), List.flatMap_append]
    by_cases e : j < m * 14
    · rw [List.getElem?_append_left (by rw [row_len]; omega)]
      exact ih e
    · rw [List.getElem?_append_right (by rw [row_len]; omega), row_len]
      have e1 : j / 14 = m := by omega
      have e2 : j - m * 14 = j % 14 := by omega
      rw [e1, e2]
      simp [List.getElem?_range (show j % 14 < 14 by omega)]
theorem FunL_app {φ : Phi} : ∀ {a b : List VV} {va vb : List Value}, FunL φ a va → FunL φ b vb → FunL φ (a ++ b) (va ++ vb)
  | [], b, [], vb, _, h => h
  | x :: a, b, v :: va, vb, h, k => ⟨h.1, FunL_app h.2 k⟩
  | [], _, _ :: _, _, h, _ => h.elim
  | _ :: _, _, [], _, h, _ => h.elim
theorem plids_fun {φ : Phi} : ∀ n, FunL φ (plids n) ((List.range n).map fun (k : Nat) => n64 ((k : Int) + 1))
  | 0 => trivial
  | n + 1 => by
    rw [List.range_succ (n := n), List.map_append]
    exact FunL_app (plids_fun n) ⟨fun_i _, trivial⟩
theorem fun_cells {φ : Phi} {w : World} {B O : Nat} {c : List VV} {us : List Value} (hlt : B < w.heap.size) (hc : ∀ j x, c[j]? = some x → ∃ y, w.cell? ⟨B, O + j, none⟩ = some y ∧ VR φ x y) (hf : FunL φ c us) : CellsAt w B O us :=
  ⟨hlt, fun j v hj => by
    obtain ⟨x, h1, h2⟩ := FunL_at hf hj
    obtain ⟨y, y1, y2⟩ := hc j x h1
    rw [y1, h2 y y2]⟩
/-! ### symbols behind the second call -/
def sgint (more : Int) : Nat → Int
  | 1 => more
  | 2 => more % 3
  | _ => 0
def sgval (G G1 : StG) (k : Nat) : Value := if k < 200 then qval G k else if k < 1000 then G1.cellAt (k - 200) else (G1.ob ((k - 1000) / 14)).cell ((k - 1000) % 14)
def sgrho (G G1 : StG) (more : Int) : Rho where
  int := sgint more
  val := sgval G G1
  blk _ := G1.fB
  off _ := G1.fO
  one k := by
    unfold sgval
    split
    · exact qval_one _
    split
    · exact cellAt_one _ _
    · exact Ob.one _ _
  lst _ := []
  lcl _ _ h := by cases h
theorem apall_at {c : Nat} : ∀ {m n : Nat}, apall c m = true → n < m → apfin (n + 1) 0 (ap6 (n + 1) 0 c) = true ∧ apfin (n + 1) 1 (ap6 (n + 1) 1 c) = true ∧ apfin (n + 1) 2 (ap6 (n + 1) 2 c) = true
  | 0, n, _, h => by omega
  | m + 1, n, h, hn => by
    simp only [apall] at h
    split at h
    · rename_i h0 h1 h2 h3
      by_cases e : n = m
      · subst e
        exact ⟨h1, h2, h3⟩
      · exact apall_at h0 (by omega)
    · cases h
theorem apfin_of {n : Nat} {r : Int} {o : Option SegO} (h : apfin n r o = true) : ∃ a H r1 e1 r2 e2 r5 e5, o = some (.cut 0 a H) ∧ keepL a [(5, .ptr (some ⟨.loc 1, 0⟩)), (6, .ptr (some ⟨.loc 2, 0⟩)), (7, i8 n), (9, i8 1)] = true ∧ H.locs.get 1 = some (.cells lySt none r1 e1) ∧ H.locs.get 2 = some (.cells (apT2 n r) none r2 e2) ∧
    H.locs.get 5 = some (.cells (rdsy n ++ obC r) (some 14) r5 e5) ∧ (r ≠ 1 → ∃ r7 e7, H.locs.get 7 = some (.cells (i8 100 :: plids n) (some 1) r7 e7)) := by
  unfold apfin at h
  split at h
  · split at h
    · rename_i h1 h2 h3 h4
      split at h
      · rename_i k1 k2 k3
        rw [vvsEq_eq _ _ k1] at h2
        rw [vvsEq_eq _ _ k2] at h3
        rw [vvsEq_eq _ _ k3] at h4
        refine ⟨_, _, _, _, _, _, _, _, rfl, h1, h2, h3, h4, fun hr => ?_⟩
        split at h
        · rename_i hd
          exact absurd (of_decide_eq_true hd) hr
        · split at h
          · rename_i h7
            rw [vvsEq_eq _ _ h] at h7
            exact ⟨_, _, h7⟩
          · cases h
      · cases h
    · cases h
  · cases h
theorem ap6_of {n : Nat} {r : Int} {c : Nat} {so : SegO} (h : ap6 n r c = some so) : ∃ a H, ap5 n r c = some (a, H) ∧ seg (rcK Try.prog []) Try.f6.ntmps [0] 1000 ap4 0 [] a H = some so := by
  unfold ap6 at h
  split at h
  · rename_i a H h1
    exact ⟨a, H, h1, h⟩
  · cases h
theorem ap60_of {r : Int} {so : SegO} (h : ap60 r = some so) : ∃ a H, ap50 r = some (a, H) ∧ seg (rcK Try.prog []) Try.f6.ntmps [] 1000 ap4 0 [] a H = some so := by
  unfold ap60 at h
  split at h
  · rename_i a H h1
    exact ⟨a, H, h1, h⟩
  · cases h
section
variable {w0 w wa wb : World} {g : PlIn} {G G1 : StG} {more : Int} {act : Act}
theorem sg_st : StRho G (sgrho G G1 more) := ⟨fun k hk => by
  show sgval G G1 k = _
  unfold sgval
  rw [if_pos (by omega)]⟩
theorem sg_w {j : Nat} (hj : j < 25) : (sgrho G G1 more).val (200 + j) = G1.cellAt j := by
  show sgval G G1 (200 + j) = _
  unfold sgval
  rw [if_neg (by omega), if_pos (by omega), Nat.add_sub_cancel_left]
theorem sg_o {j : Nat} : (sgrho G G1 more).val (1000 + j) = (G1.ob (j / 14)).cell (j % 14) := by
  show sgval G G1 (1000 + j) = _
  unfold sgval
  rw [if_neg (by omega), if_neg (by omega), Nat.add_sub_cancel_left]
theorem sg_fits (hm : 0 ≤ more ∧ more ≤ 255) (k : Nat) : I64 ((sgrho G G1 more).int k) := by
  show I64 (sgint more k)
  unfold sgint
  split
  · exact ⟨by omega, by omega⟩
  · exact ⟨by omega, by omega⟩
  · exact i64_0
theorem ap4_at : At1 apbody ap4 0 [] := by
  have hat : At1 apbody apbody 0 [] := fun t _ _ => rfl
  have h1 : At1 apbody (.seq ap0 (.seq ap1 (.seq ap3 ap4))) 0 [] := by rw [← apshape]; exact hat
  have h2 := h1.seq.2.seq.2.seq.2
  rw [show (0 + nl ap0 + nl ap1 + nl ap3) = 0 by kernel_rfl] at h2
  exact h2
theorem sg_iv (hm : 0 ≤ more ∧ more ≤ 255) : IvOK [big1, big1, (more % 3, more % 3)] (sgrho G G1 more) := by
  have f := sg_fits (G := G) (G1 := G1) hm
  exact iv_all (f := (sgrho G G1 more).int) ⟨f 0, f 1, ⟨Int.le_refl _, Int.le_refl _⟩, trivial⟩ f
theorem sg_tabs (hm : 0 ≤ more ∧ more ≤ 255) : FsOK [.bin .rem (s8 1) (.int .u8 3) (s8 2)] (sgrho G G1 more) :=
  fs_cons (fact_remN (by omega) (show 0 ≤ more by omega) rfl) fs_nil
/-- What the segment's temporaries hold. -/
theorem sg_t19 {φ : Phi} {r : Int} (hφ : φ.ρ = sgrho G G1 more) (h0 : φ 0 = some ⟨G1.oB, G1.oO, G1.oc - g.m⟩) (hP : PlS g wb G1 w) (hm : 0 < g.m) : VR φ (.agg (apW g.m r G1.fc)) G1.v := by
  have hno := hP.no
  obtain ⟨hroom, _⟩ := hP.room hm
  have hs : ∀ j, j < 25 → j ≠ 1 → j ≠ 6 → VR φ (.sym (200 + j)) (G1.r j) := fun j h1 h2 h3 => by
    simp only [VR, hφ]
    rw [sg_w h1]
    unfold StG.cellAt
    rw [if_neg h2, if_neg h3]
  have hos : VR φ (.slice (some ⟨.loc 0, 0⟩) g.m g.m) G1.osV := by
    simp only [VR, AR]
    refine ⟨_, _, ⟨_, h0, rfl, rfl⟩, ?_⟩
    have hi : 0 < G1.os.length := by omega
    have := (hP.ok.co 0 _ (ob_of hi)).1
    unfold StG.osV
    rw [this, hno]
    show _ = Value.slice (some ⟨G1.oB, G1.oO + 0, none⟩) g.m (g.m + (G1.oc - g.m))
    rw [show g.m + (G1.oc - g.m) = G1.oc by omega]
    rfl
  have hfs : VR φ (apFs g.m r G1.fc) G1.fsV := by
    unfold apFs
    split
    · have := hs
      simp only [VR, hφ]
      have e := sg_w (G := G) (G1 := G1) (more := more) (j := 6) (by omega)
      rw [show 206 = 200 + 6 from rfl, e]
      rfl
    · simp only [VR, AR]
      refine ⟨_, _, ⟨rfl, rfl⟩, ?_⟩
      have hi : 0 < G1.fs.length := by rw [hP.fsl]; exact hm
      have := (hP.ok.cf 0 _ (List.getElem?_eq_getElem hi)).1
      unfold StG.fsV
      rw [this, hP.fsl, hφ]
      rfl
  rw [VR]
  exact ⟨_, cons_VR (hs 0 (by omega) (by omega) (by omega)) (cons_VR hos (cons_VR (hs 2 (by omega) (by omega) (by omega)) (cons_VR (hs 3 (by omega) (by omega) (by omega)) (cons_VR (hs 4 (by omega) (by omega) (by omega)) (cons_VR (hs 5 (by omega) (by omega) (by omega)) (cons_VR hfs (cons_VR (hs 7 (by omega) (by omega) (by omega)) (cons_VR (hs 8 (by omega) (by omega) (by omega)) (cons_VR (hs 9 (by omega) (by omega) (by omega)) (cons_VR (hs 10 (by omega) (by omega) (by omega)) (cons_VR (hs 11 (by omega) (by omega) (by omega)) (cons_VR (hs 12 (by omega) (by omega) (by omega)) (cons_VR (hs 13 (by omega) (by omega) (by omega)) (cons_VR (hs 14 (by omega) (by omega) (by omega)) (cons_VR (hs 15 (by omega) (by omega) (by omega)) (cons_VR (hs 16 (by omega) (by omega) (by omega)) (cons_VR (hs 17 (by omega) (by omega) (by omega)) (cons_VR (hs 18 (by omega) (by omega) (by omega)) (cons_VR (hs 19 (by omega) (by omega) (by omega)) (cons_VR (hs 20 (by omega) (by omega) (by omega)) (cons_VR (hs 21 (by omega) (by omega) (by omega)) (cons_VR (hs 22 (by omega) (by omega) (by omega)) (cons_VR (hs 23 (by omega) (by omega) (by omega)) (cons_VR (hs 24 (by omega) (by omega) (by omega)) nil_VR)))))))))))))))))))))))), rfl⟩
theorem sg_t19z {φ : Phi} (hφ : φ.ρ = sgrho G G1 more) (hP : PlS g wb G1 w) (hm : g.m = 0) : VR φ (.agg apW0) G1.v := by
  have hno := hP.no
  have hfl := hP.fsl
  obtain ⟨z1, z2, z3, z4⟩ := hP.z hm
  have hs : ∀ j, j < 25 → j ≠ 1 → j ≠ 6 → VR φ (.sym (200 + j)) (G1.r j) := fun j h1 h2 h3 => by
    simp only [VR, hφ]
    rw [sg_w h1]
    unfold StG.cellAt
    rw [if_neg h2, if_neg h3]
  have hos : VR φ (.slice none 0 0) G1.osV := by
    simp only [VR]
    unfold StG.osV
    rw [z1, z2, hno, hm]
  have hfs : VR φ (.slice none 0 0) G1.fsV := by
    simp only [VR]
    unfold StG.fsV
    rw [z3, z4, hfl, hm]
  rw [VR]
  exact ⟨_, cons_VR (hs 0 (by omega) (by omega) (by omega)) (cons_VR hos (cons_VR (hs 2 (by omega) (by omega) (by omega)) (cons_VR (hs 3 (by omega) (by omega) (by omega)) (cons_VR (hs 4 (by omega) (by omega) (by omega)) (cons_VR (hs 5 (by omega) (by omega) (by omega)) (cons_VR hfs (cons_VR (hs 7 (by omega) (by omega) (by omega)) (cons_VR (hs 8 (by omega) (by omega) (by omega)) (cons_VR (hs 9 (by omega) (by omega) (by omega)) (cons_VR (hs 10 (by omega) (by omega) (by omega)) (cons_VR (hs 11 (by omega) (by omega) (by omega)) (cons_VR (hs 12 (by omega) (by omega) (by omega)) (cons_VR (hs 13 (by omega) (by omega) (by omega)) (cons_VR (hs 14 (by omega) (by omega) (by omega)) (cons_VR (hs 15 (by omega) (by omega) (by omega)) (cons_VR (hs 16 (by omega) (by omega) (by omega)) (cons_VR (hs 17 (by omega) (by omega) (by omega)) (cons_VR (hs 18 (by omega) (by omega) (by omega)) (cons_VR (hs 19 (by omega) (by omega) (by omega)) (cons_VR (hs 20 (by omega) (by omega) (by omega)) (cons_VR (hs 21 (by omega) (by omega) (by omega)) (cons_VR (hs 22 (by omega) (by omega) (by omega)) (cons_VR (hs 23 (by omega) (by omega) (by omega)) (cons_VR (hs 24 (by omega) (by omega) (by omega)) nil_VR)))))))))))))))))))))))), rfl⟩
/-- The state with one more object, as its cells tell. -/
theorem ap_cells {φ : Phi} {r : Int} {i5 : Inf} {q : ApP} (hφ : φ.ρ = sgrho G G1 more) (hP : PlS g wb G1 w) (h5 : φ 5 = some i5) (hq : q.B = i5.blk ∧ q.O = i5.off ∧ q.s = i5.slack) (h7 : r ≠ 1 → ∃ i7, φ 7 = some i7 ∧ q.Bf = i7.blk ∧ q.Of = i7.off ∧ q.sf = i7.slack) : FunL φ (apT2 g.m r) (cellsV (apG2 G1 r q).v) := by
  have hs : ∀ j, j < 25 → j ≠ 1 → j ≠ 6 → Fun1 φ (.sym (200 + j)) (G1.r j) := fun j h1 h2 h3 y hy => by
    simp only [VR, hφ] at hy
    rw [hy, sg_w h1]
    unfold StG.cellAt
    rw [if_neg h2, if_neg h3]
  obtain ⟨q1, q2, q3⟩ := hq
  have hos : Fun1 φ (.slice (some ⟨.loc 5, 0⟩) (g.m + 1) (g.m + 1)) (apG2 G1 r q).osV := fun y hy => by
    rw [fun_l h5 y hy]
    unfold StG.osV apG2
    simp only [List.length_append, List.length_singleton, hP.no, q1, q2, q3]
  have hfs : Fun1 φ (match decide (r = 1) with | true => .sym 206 | false => .slice (some ⟨.loc 7, 0⟩) (g.m + 1) (g.m + 1)) (apG2 G1 r q).fsV := fun y hy => by
    unfold StG.fsV apG2
    by_cases hr : r = 1
    · rw [decide_eq_true hr] at hy
      simp only [VR, hφ] at hy
      rw [hy, show 206 = 200 + 6 from rfl, sg_w (by omega)]
      simp only [if_pos hr]
      rfl
    · rw [decide_eq_false hr] at hy
      obtain ⟨i7, k1, k2, k3, k4⟩ := h7 hr
      rw [fun_l k1 y hy]
      simp only [if_neg hr, List.length_cons, hP.fsl, k2, k3, k4]
  exact ⟨hs 0 (by omega) (by omega) (by omega), hos, hs 2 (by omega) (by omega) (by omega), hs 3 (by omega) (by omega) (by omega), hs 4 (by omega) (by omega) (by omega), hs 5 (by omega) (by omega) (by omega), hfs, hs 7 (by omega) (by omega) (by omega), hs 8 (by omega) (by omega) (by omega), hs 9 (by omega) (by omega) (by omega), hs 10 (by omega) (by omega) (by omega), hs 11 (by omega) (by omega) (by omega), hs 12 (by omega) (by omega) (by omega), hs 13 (by omega) (by omega) (by omega), hs 14 (by omega) (by omega) (by omega), hs 15 (by omega) (by omega) (by omega), hs 16 (by omega) (by omega) (by omega), hs 17 (by omega) (by omega) (by omega), hs 18 (by omega) (by omega) (by omega), hs 19 (by omega) (by omega) (by omega), hs 20 (by omega) (by omega) (by omega), hs 21 (by omega) (by omega) (by omega), hs 22 (by omega) (by omega) (by omega), hs 23 (by omega) (by omega) (by omega), hs 24 (by omega) (by omega) (by omega), trivial⟩
end
end
end Go.Proofs.Ytgbhmkdldfhamaa.apart
namespace Go.Proofs.Ytgbhmkdldfhamaa.apart
open Go.Ev Go.RowKit
set_option linter.unusedVariables false
noncomputable section
theorem body6 : Try.f6.body = some apbody := rfl
theorem wk_less {w w' : World} {b : Nat} (h : WK (less w b) w') : WK w w' := ⟨h.os, h.tape, h.output, by have := h.size; rw [less_size] at this; exact this⟩
section
variable {w0 w3 w4 w5 w6 : World} {g : PlIn} {G G1 : StG} {more : Int} {act6 : Act}
/-- Behind the second call, some objects. -/
theorem ap_tail1 (hg : ∀ k, 0 ≤ g.x k ∧ g.x k ≤ 255) (hmo : 0 ≤ more ∧ more ≤ 255) (hz : act6.tmps.size = Try.f6.ntmps) (hd : act6.defers = []) (t1 : act6.tmps.getD 1 undef = .int .u8 more) (t17 : act6.tmps.getD 17 undef = G.v) (t19 : act6.tmps.getD 19 undef = G1.v)
    (an : Anc w0 w4) (hP : PlS g w3 G w4) (a46 : Anc w4 w6) (hP1 : PlS g w5 G1 w6) (hn : w4.heap.size ≤ w5.heap.size) (hm : 0 < g.m) :
    wpOpsIn (Fr none) 0 Try.prog ⟨oa3⟩ (Exit.then (ap4.wpIn (Fr none) 0 Try.prog (apQ w0)) (apQ w0)) [4, 5, 6, 7] act6 w6 := by
  letI X : Ext := XK Try.prog [] (fun k => k = G1.oB)
  have hng := noNG_of noNG
  have h10 := hP1.m10
  have hnO := hP1.newO hm
  obtain ⟨hroom, c0, e0, fr0, m1, m2, m3⟩ := hP1.room hm
  have hno := hP1.no
  have hlt := get_lt m1
  let inf : Inf := ⟨G1.oB, G1.oO, G1.oc - g.m⟩
  let ρ := sgrho G G1 more
  have hr3 : more % 3 = 0 ∨ more % 3 = 1 ∨ more % 3 = 2 := by omega
  have hchk : apfin g.m (more % 3) (ap6 g.m (more % 3) G1.fc) = true := by
    have := apall_at (apallT G1.fc) (n := g.m - 1) (by omega)
    rw [show g.m - 1 + 1 = g.m by omega] at this
    rcases hr3 with h | h | h <;> rw [h]
    · exact this.1
    · exact this.2.1
    · exact this.2.2
  obtain ⟨a, H, r1, e1, r2, e2, r5, e5, q0, q1, q2, q3, q4, q5⟩ := apfin_of hchk
  obtain ⟨a5, H5, p1, p2⟩ := ap6_of q0
  have hO : OR ⟨oneF inf, ρ⟩ inf (.cells (rdsy g.m) (some 14) 0 none) (.cells c0 e0 fr0) := by
    refine ⟨c0, e0, fr0, rfl, ?_, (fun h => by cases h), fun j x hx => ?_, by show fr0.2 ≤ G1.oO + 0; omega, fun t ht => by cases ht⟩
    · show G1.oO + (rdsy g.m).length + (G1.oc - g.m) * 14 ≤ _
      unfold rdsy
      rw [symsV_len]
      omega
    · have hj : j < 14 * g.m := by
        have := (List.getElem?_eq_some_iff.1 hx).1
        unfold rdsy at this
        rw [symsV_len] at this
        exact this
      rw [rdsy_get hj] at hx
      cases hx
      have hk : j / 14 < G1.os.length := by omega
      have := (hP1.ok.co (j / 14) _ (ob_of hk)).2.2 (j % 14) (by omega)
      unfold World.cell? at this
      simp only [m1] at this
      refine ⟨(G1.ob (j / 14)).cell (j % 14), ?_, ?_⟩
      · show c0[G1.oO + j]? = _
        rw [show G1.oO + j = G1.oO + j / 14 * 14 + j % 14 by omega]
        revert this
        cases c0[G1.oO + j / 14 * 14 + j % 14]? with
        | none => intro h; cases h
        | some v => exact fun h => h
      · simp only [VR]
        exact sg_o.symm
  have hE : EnvOK (apE g.m (more % 3)) ⟨oneF inf, ρ⟩ (less w6 G1.oB) := by
    refine EnvOK.mk (fun e he => by cases he) (sg_iv hmo) (fun x hx => FactOK.w (sg_tabs (G := G) (G1 := G1) hmo x hx)) fun k c hk => ?_
    simp only [apE, apB] at hk
    split at hk
    · cases hk
      have hi : 0 < G1.fs.length := by rw [hP1.fsl]; exact hm
      have f2 := (hP1.ok.cf 0 _ (List.getElem?_eq_getElem hi)).2.1
      refine ⟨by rw [less_size]; exact f2, fun j x hx => ?_⟩
      have hj : j < g.m := by
        have := (List.getElem?_eq_some_iff.1 hx).1
        rw [plids_len] at this
        exact this
      rw [plids_at hj] at hx
      cases hx
      have hfj : G1.fs[j]? = some ((j : Int) + 1) := by
        rw [hP1.fs, List.getElem?_map, List.getElem?_range hj]
        rfl
      exact ⟨_, cell_less (hP1.ok.cf j _ hfj).2.2 (hP1.ne hm).symm, i8_VR _⟩
    · cases hk
  have k6 : RSN (less w6 G1.oB) (· = ρ) Try.f6.ntmps (mkT Try.f6.ntmps [(1, s8 1), (17, stV), (19, .agg (apW g.m (more % 3) G1.fc))]) ⟨apE g.m (more % 3), .nd .lf (some (.cells (rdsy g.m) (some 14) 0 none)) .lf, 1⟩ act6 w6 := by
    have hl : ∀ q ∈ [(1, s8 1), (17, stV), (19, .agg (apW g.m (more % 3) G1.fc))], q.1 < top ∧ VR ⟨oneF inf, ρ⟩ q.2 (act6.tmps.getD q.1 undef) := by
      intro q hq
      simp only [List.mem_cons, List.not_mem_nil, or_false] at hq
      rcases hq with rfl | rfl | rfl
      · exact ⟨show 1 < top by decide, by simp only [t1, s8, VR]; rfl⟩
      · exact ⟨show 17 < top by decide, by simp only [t17]; exact stV_VR sg_st⟩
      · exact ⟨show 19 < top by decide, by simp only [t19]; exact sg_t19 rfl rfl hP1 hm⟩
    exact ⟨⟨oneF inf, ρ⟩, rfl, mkT_TR hz nt6 hl, HSim.window (inf := inf) rfl m1 (fun k => Iff.rfl) hE (fun r => rfl) hO, less_wk _ _, hz, hd⟩
  rw [show ([4, 5, 6, 7] : List Nat) = List.range' (oa3.take 4).length (oa3.drop 4).length ++ [] by kernel_rfl]
  refine opsN_sound hng (feK_ok hng mixed) nt6 (Nat.le_refl _) (pre := oa3.take 4) (l := oa3.drop 4) (post := []) (by rw [List.append_nil]; exact (List.take_append_drop 4 oa3).symm) p1 k6 fun act7 w7 hb7 k7 => ?_
  show ap4.wpIn (Fr none) 0 Try.prog (apQ w0) act7 w7
  refine segN_sound (HD := fun t act w => ∃ j, j ≤ g.m ∧ ∃ y : ApG, y.g = g ∧ ApI y w0 w3 j t act w) (Rr := fun _ => True) trivial (hrcK hng mixed) nt6 (Nat.le_refl _) (K := []) ap4_at trivial p2 k7 ?_
  intro act8 w8 hb8 k8
  obtain ⟨φ8, hφ8, ht8, hs8, hw8, hz8, hd8⟩ := k8
  have hwk := wk_less hw8
  have same : ∀ k, k < w6.heap.size → k ≠ G1.oB → w8.heap[k]? = w6.heap[k]? := fun k hk hne => by
    have := hs8.old.same k (by rw [less_size]; exact hk) hne
    rw [this, less_other hne]
  have a48 : Anc w4 w8 := ⟨a46.wk.trans hwk, fun k hk => by rw [same k (by have := a46.wk.size; omega) (by omega), a46.old k hk]⟩
  obtain ⟨i1, f1, g1, k1⟩ := hs8.cellsAt q2
  obtain ⟨i2, f2, g2, k2⟩ := hs8.cellsAt q3
  obtain ⟨i5, f5, g5, k5⟩ := hs8.cellsAt q4
  have hf7 : ∃ (B O s : Nat), more % 3 ≠ 1 → ∃ i7 : Inf, φ8 7 = some i7 ∧ B = i7.blk ∧ O = i7.off ∧ s = i7.slack ∧ CellsAt w8 i7.blk i7.off (n64 100 :: (List.range g.m).map fun (k : Nat) => n64 ((k : Int) + 1)) := by
    by_cases hr : more % 3 = 1
    · exact ⟨0, 0, 0, fun h => absurd hr h⟩
    · obtain ⟨r7, e7, q7⟩ := q5 hr
      obtain ⟨i7, f7, g7, k7⟩ := hs8.cellsAt q7
      exact ⟨i7.blk, i7.off, i7.slack, fun _ => ⟨i7, f7, rfl, rfl, rfl, fun_cells g7 k7 ⟨fun_i _, plids_fun _⟩⟩⟩
  obtain ⟨B7, O7, s7, hf7⟩ := hf7
  let q : ApP := ⟨i5.blk, i5.off, i5.slack, B7, O7, s7⟩
  have hcells : CellsAt w8 i5.blk i5.off ((List.range g.m).flatMap (fun k => (List.range 14).map (G1.ob k).cell) ++ (List.range 14).map (obX (more % 3)).cell) := by
    refine fun_cells g5 k5 (FunL_app ?_ obX_fun)
    have hl : ((List.range g.m).flatMap fun k => (List.range 14).map (G1.ob k).cell).length = 14 * g.m := by rw [row_len (f := fun k => (G1.ob k).cell)]; omega
    have := FunL_syms (φ := φ8) (vs := (List.range g.m).flatMap fun k => (List.range 14).map (G1.ob k).cell) (k := 1000) fun j v hj => by
      have hj' := (List.getElem?_eq_some_iff.1 hj).1
      rw [row_len (f := fun k => (G1.ob k).cell)] at hj'
      rw [row_at (f := fun k => (G1.ob k).cell) hj'] at hj
      cases hj
      rw [hφ8]
      exact sg_o
    rw [hl] at this
    exact this
  have hL : Like g G (apG2 G1 (more % 3) q) w8 := ap_like (hP.later a48.wk.size a48.old) hP1 hg same hwk.size hm hcells fun hr => by
    obtain ⟨i7, _, b1, b2, _, b4⟩ := hf7 hr
    show CellsAt w8 B7 O7 _
    rw [b1, b2]
    exact b4
  have hq := keepL_VR ht8 q1
  have b5 := hq (5, .ptr (some ⟨.loc 1, 0⟩)) (by simp)
  have b6 := hq (6, .ptr (some ⟨.loc 2, 0⟩)) (by simp)
  have b7 := hq (7, i8 g.m) (by simp)
  have b9 := hq (9, i8 1) (by simp)
  simp only [VR, AR] at b5 b6
  obtain ⟨_, _, ⟨j1, x1, rfl, rfl⟩, b5⟩ := b5
  rw [f1] at x1
  cases x1
  obtain ⟨_, _, ⟨j2, x2, rfl, rfl⟩, b6⟩ := b6
  rw [f2] at x2
  cases x2
  let y : ApG := ⟨g, G, apG2 G1 (more % 3) q, i1.blk, i1.off, i2.blk, i2.off⟩
  have hM : ApM y w0 w3 w8 := by
    refine ⟨an.trans a48, hP.later a48.wk.size a48.old, hL, ?_, ?_⟩
    · exact sym_cells lySt_sym (lySt_VR (y := ⟨g, G, ⟨0, 0, 0, fun _ => 0, fun _ => 0, fun _ => 0⟩, 0, 0, 0, 0⟩) (φ := φ8) (by rw [hφ8]; exact sg_st)) g1 k1
    · refine fun_cells g2 k2 (ap_cells (G := G) (more := more) (q := q) hφ8 hP1 f5 ⟨rfl, rfl, rfl⟩ fun hr => ?_)
      obtain ⟨i7, b0, b1, b2, b3, _⟩ := hf7 hr
      exact ⟨i7, b0, b1, b2, b3⟩
  have hI : ApI y w0 w3 g.m 0 act8 w8 := .at_ (y := y) (j := 0) (Nat.zero_le _) ⟨hz8, hd8, b5, b6, i8V b7, i8V b9⟩ hM
  refine ⟨⟨_, Nat.le_refl _, y, rfl, hI⟩, fun c' K' hc' => ?_⟩
  have hh := heads_ok (ap_heads (y := y) (w0 := w0) (w1 := w3) hg) g.m 0 c' K' hc' g.m (Nat.le_refl _) act8 w8 ⟨_, Nat.le_refl _, hI⟩
  exact wpIn_mono hh (postK_mono (fun n act w => fun ⟨j, j1, j2⟩ => ⟨j, j1, y, rfl, j2⟩) K')
theorem ap0_at {b : Bool} (h : b ∈ [apzB (ap60 0), apzB (ap60 1), apzB (ap60 2)]) : b = true := by
  have := ap0T
  rw [List.all_eq_true] at this
  exact this b h
/-- Behind the second call, no object. -/
theorem ap_tail0 (hmo : 0 ≤ more ∧ more ≤ 255) (hz : act6.tmps.size = Try.f6.ntmps) (hd : act6.defers = []) (t1 : act6.tmps.getD 1 undef = .int .u8 more) (t17 : act6.tmps.getD 17 undef = G.v) (t19 : act6.tmps.getD 19 undef = G1.v) (an : Anc w0 w6) (hP1 : PlS g w5 G1 w6) (hm : g.m = 0) :
    wpOpsIn (Fr none) 0 Try.prog ⟨oa3⟩ (Exit.then (ap4.wpIn (Fr none) 0 Try.prog (apQ w0)) (apQ w0)) [4, 5, 6, 7] act6 w6 := by
  letI X : Ext := XK Try.prog [] (fun _ => False)
  have hng := noNG_of noNG
  let ρ := sgrho G G1 more
  have hr3 : more % 3 = 0 ∨ more % 3 = 1 ∨ more % 3 = 2 := by omega
  have hchk : apzB (ap60 (more % 3)) = true := by
    rcases hr3 with h | h | h <;> rw [h]
    · exact ap0_at (b := apzB (ap60 0)) List.mem_cons_self
    · exact ap0_at (b := apzB (ap60 1)) (List.mem_cons_of_mem _ List.mem_cons_self)
    · exact ap0_at (b := apzB (ap60 2)) (List.mem_cons_of_mem _ (List.mem_cons_of_mem _ List.mem_cons_self))
  obtain ⟨a, H, q0, hres⟩ := apzB_of hchk
  obtain ⟨a5, H5, p1, p2⟩ := ap60_of q0
  have hE : EnvOK (apE0 (more % 3)) ⟨fun _ => none, ρ⟩ w6 :=
    EnvOK.mk (fun e he => by cases he) (sg_iv hmo) (fun x hx => FactOK.w (sg_tabs (G := G) (G1 := G1) hmo x hx)) fun k c hk => by cases hk
  have k6 : RSN w6 (· = ρ) Try.f6.ntmps (mkT Try.f6.ntmps [(1, s8 1), (17, stV), (19, .agg apW0)]) ⟨apE0 (more % 3), .lf, 0⟩ act6 w6 := by
    have hl : ∀ q ∈ [(1, s8 1), (17, stV), (19, .agg apW0)], q.1 < top ∧ VR ⟨fun _ => none, ρ⟩ q.2 (act6.tmps.getD q.1 undef) := by
      intro q hq
      simp only [List.mem_cons, List.not_mem_nil, or_false] at hq
      rcases hq with rfl | rfl | rfl
      · exact ⟨show 1 < top by decide, by simp only [t1, s8, VR]; rfl⟩
      · exact ⟨show 17 < top by decide, by simp only [t17]; exact stV_VR sg_st⟩
      · exact ⟨show 19 < top by decide, by simp only [t19]; exact sg_t19z rfl hP1 hm⟩
    exact RSN.here hz nt6 hd hl hE (fun r => rfl) hno0
  rw [show ([4, 5, 6, 7] : List Nat) = List.range' (oa3.take 4).length (oa3.drop 4).length ++ [] by kernel_rfl]
  refine opsN_sound hng (feK_ok hng mixed) nt6 (Nat.le_refl _) (pre := oa3.take 4) (l := oa3.drop 4) (post := []) (by rw [List.append_nil]; exact (List.take_append_drop 4 oa3).symm) p1 k6 fun act7 w7 hb7 k7 => ?_
  show ap4.wpIn (Fr none) 0 Try.prog (apQ w0) act7 w7
  refine segN_sound (HD := fun t act w => False) (Rr := fun _ => True) trivial (hrcK hng mixed) nt6 (Nat.le_refl _) (K := []) ap4_at trivial p2 k7 ?_
  intro act8 w8 hb8 k8
  have a68 : Anc w6 w8 := k8.anc hno0
  obtain ⟨φ8, hφ8, ht8, hs8, hw8, hz8, hd8⟩ := k8
  obtain ⟨v', r1, r2⟩ := results_sound (P := Try.prog) ht8 hs8 (fn := Try.f6) hres
  have r3 : v' = .bool true := by
    simpa only [oneV, VR] using r2
  exact ⟨.inl rfl, hd8, v', r1, by rw [r3], anc_back (an.trans a68)⟩
end
theorem app1_of : ∃ a1 H1 a2 H2 a3 H3, rcK Try.prog wkK Try.f6.ntmps ap0 (listT [.sym 0, s8 1] 0 .lf) ⟨E0, .lf, 0⟩ = some (.normal, a1, H1) ∧ rcK Try.prog wkK Try.f6.ntmps ap1 a1 H1 = some (.normal, a2, H2) ∧ runOps Try.prog (feK Try.prog wkK) Try.f6.ntmps oa3 (oa3.take 1) a2 H2 = some (a3, H3) ∧ keepL a3 [(0, .sym 0), (1, s8 1)] = true ∧ entB Try.prog (oa3[1]?) a3 H3 17 16 [.sym 0] = true := by
  have h := apq1T
  unfold apq1 at h
  split at h
  · rename_i a3 H3 hp
    split at h
    · rename_i hk
      unfold app1 at hp
      split at hp
      · rename_i a1 H1 h1
        split at hp
        · rename_i a2 H2 h2
          exact ⟨a1, H1, a2, H2, a3, H3, h1, h2, hp, hk, h⟩
        · cases hp
      · cases hp
    · cases h
  · cases h
theorem app2_of : ∃ a H, app2 = some (a, H) ∧ keepL a [(1, s8 1), (17, stV)] = true ∧ entB Try.prog (oa3[3]?) a H 19 16 [.sym 0] = true := by
  have h := apq2T
  unfold apq2 at h
  split at h
  · rename_i a H hp
    split at h
    · rename_i hk
      exact ⟨a, H, hp, hk, h⟩
    · cases h
  · cases h
def mrho (g : PlIn) (more : Int) : Rho := ⟨fun k => if k = 1 then more else 0, fun _ => g.v, fun _ => 0, fun _ => 0, fun _ => rfl, fun _ => [], fun _ _ h => by cases h⟩
def nrho (g : PlIn) (G : StG) (more : Int) : Rho := ⟨fun k => if k = 1 then more else 0, fun k => if k = 0 then g.v else qval G k, fun _ => 0, fun _ => 0, fun k => by show (if k = 0 then g.v else qval G k).oneCell' = true; split; rfl; exact qval_one _, fun _ => [], fun _ _ h => by cases h⟩
theorem one_fits {more : Int} (hmo : 0 ≤ more ∧ more ≤ 255) (k : Nat) : I64 (if k = 1 then more else 0) := by
  split
  · exact ⟨by omega, by omega⟩
  · exact i64_0
/-- Behind the first call. -/
theorem ap_mid {w0 w3 w4 : World} {g : PlIn} {G : StG} {more : Int} {act4 : Act} (h : g.OK w0) (hmo : 0 ≤ more ∧ more ≤ 255) (hz : act4.tmps.size = Try.f6.ntmps) (hd : act4.defers = []) (t0 : act4.tmps.getD 0 undef = g.v) (t1 : act4.tmps.getD 1 undef = .int .u8 more) (t17 : act4.tmps.getD 17 undef = G.v) (an : Anc w0 w4) (hP : PlS g w3 G w4) :
    wpOpsIn (Fr none) 0 Try.prog ⟨oa3⟩ (Exit.then (ap4.wpIn (Fr none) 0 Try.prog (apQ w0)) (apQ w0)) [2, 3, 4, 5, 6, 7] act4 w4 := by
  letI X2 : Ext := XK Try.prog [] (fun _ => False)
  have hng := noNG_of noNG
  obtain ⟨a5, H5, s1, s2, s3⟩ := app2_of
  obtain ⟨o2, po2, pg2, pd2, pe2⟩ := entB_of s3
  have k4 : RSN w4 (· = nrho g G more) Try.f6.ntmps (mkT Try.f6.ntmps [(0, .sym 0), (1, s8 1), (17, stV)]) ⟨E0, .lf, 0⟩ act4 w4 := by
    have hl : ∀ q ∈ [(0, VV.sym 0), (1, s8 1), (17, stV)], q.1 < top ∧ VR ⟨fun _ => none, nrho g G more⟩ q.2 (act4.tmps.getD q.1 undef) := by
      intro q hq
      simp only [List.mem_cons, List.not_mem_nil, or_false] at hq
      rcases hq with rfl | rfl | rfl
      · exact ⟨show 0 < top by decide, by simp only [t0, VR]; rfl⟩
      · exact ⟨show 1 < top by decide, by simp only [t1, s8, VR]; rfl⟩
      · exact ⟨show 17 < top by decide, by simp only [t17]; exact stV_VR ⟨fun k hk => if_neg (by omega)⟩⟩
    exact RSN.here hz nt6 hd hl (E0_ok (X := X2) (fun e he => by cases he) (one_fits hmo)) (fun r => rfl) hno0
  rw [show ([2, 3, 4, 5, 6, 7] : List Nat) = List.range' (oa3.take 2).length ((oa3.drop 2).take 1).length ++ (3 :: [4, 5, 6, 7]) by kernel_rfl]
  refine opsN_sound hng (feK_ok hng mixed) nt6 (Nat.le_refl _) (pre := oa3.take 2) (l := (oa3.drop 2).take 1) (post := (oa3.drop 2).drop 1) (by rw [List.take_append_drop, List.take_append_drop]) s1 k4 fun act5 w5 hb5 k5 => ?_
  have an5 : Anc w4 w5 := k5.anc hno0
  have hg5 : g.OK w5 := h.later (an.trans an5).wk.size (an.trans an5).old
  have k5' := k5
  obtain ⟨φ5, hφ5, ht5, _, _, hz5, hd5⟩ := k5'
  have hq := keepL_VR ht5 s2
  have b1 := hq (1, s8 1) (by simp)
  have b17 := hq (17, stV) (by simp)
  simp only [s8, VR, hφ5] at b1
  have b17' := stV_inv (g := G) (by rw [hφ5]; exact ⟨fun k hk => if_neg (by omega)⟩) b17
  refine callN (Rf := fun en w' => ∃ G1 : StG, en = .returned G1.v ∧ PlS g w5 G1 w' ∧ Below w5.heap.size w5 w') hng po2 pg2 pe2 k5 (fun φ vs hφ hv => ?_) fun en w6 hR => ?_
  · have e : vs = [g.v] := by
      simp only [VRs, VR, hφ] at hv
      obtain ⟨_, _, rfl, rfl, rfl⟩ := hv
      rfl
    rw [e]
    exact placed_calls hg5
  obtain ⟨G1, rfl, hP1, hB6⟩ := hR
  refine ⟨_, rfl, ?_⟩
  rw [pd2]
  have a46 := an5.trans (anc_below hB6)
  have c0 : (act5.put (some 19) G1.v).tmps.size = Try.f6.ntmps := by rw [putN_size]; exact hz5
  have c1 : (act5.put (some 19) G1.v).defers = [] := by rw [putN_defers]; exact hd5
  have c2 : (act5.put (some 19) G1.v).tmps.getD 1 undef = .int .u8 more := by rw [putN_other (by decide)]; exact b1
  have c3 : (act5.put (some 19) G1.v).tmps.getD 17 undef = G.v := by rw [putN_other (by decide)]; exact b17'
  have c4 : (act5.put (some 19) G1.v).tmps.getD 19 undef = G1.v := putN_same (by rw [hz5]; exact Nat.le_of_ble_eq_true (by kernel_rfl))
  by_cases hm : 0 < g.m
  · exact ap_tail1 (fun k => h.x_fit k) hmo c0 c1 c2 c3 c4 an hP a46 hP1 an5.wk.size hm
  · exact ap_tail0 hmo c0 c1 c2 c3 c4 (an.trans a46) hP1 (by omega)
set_option maxRecDepth 4000 in
/-- The law, over memory. -/
theorem apart_calls {w0 : World} {g : PlIn} {more : Int} (h : g.OK w0) (hmo : 0 ≤ more ∧ more ≤ 255) : Calls Try.prog 6 ⟨[g.v, .int .u8 more]⟩ w0 fun en w' => en = .returned (.bool true) ∧ Below w0.heap.size w0 w' := by
  letI X1 : Ext := XK Try.prog wkK (fun _ => False)
  have hng := noNG_of noNG
  obtain ⟨a1, H1, a2, H2, a3, H3, p1, p2, p3, pk, p4⟩ := app1_of
  obtain ⟨o1, po1, pg1, pd1, pe1⟩ := entB_of p4
  refine calls_of_body (c := apbody) Try.func6 body6 ?_
  have hargs : VRs ⟨fun _ => none, mrho g more⟩ [.sym 0, s8 1] [g.v, .int .u8 more] := by
    simp only [VRs, s8, VR]
    exact ⟨_, _, rfl, rfl, _, _, rfl, rfl, rfl⟩
  generalize hact : ({ tmps := (⟨[g.v, .int .u8 more]⟩ : Array Value) ++ Array.replicate (Try.f6.ntmps - (⟨[g.v, .int .u8 more]⟩ : Array Value).size) undef, defers := [] } : Act) = act0
  have k0 : @RSN X1 w0 (· = mrho g more) Try.f6.ntmps (listT [.sym 0, s8 1] 0 .lf) ⟨E0, .lf, 0⟩ act0 w0 := by
    subst hact
    exact ⟨⟨fun _ => none, mrho g more⟩, rfl, TR_args hargs (by decide) nt6, @HSim.startE X1 w0 (mrho g more) E0 (E0_ok (X := X1) wkK_ok (one_fits hmo)) (fun r b h => by cases h) hno0, .refl w0, by simp, rfl⟩
  show apbody.wpIn (Fr none) 0 Try.prog (apQ w0) act0 w0
  rw [apshape]
  refine wpIn_seq (@codeN_sound X1 _ _ (hrcK hng mixed) _ _ _ _ nt6 (Nat.le_refl _) _ _ _ _ _ _ p1 _ _ k0 _ fun act1 w1 hb1 k1 => ?_)
  show (Code.seq ap1 (.seq ap3 ap4)).wpIn (Fr none) 0 Try.prog (apQ w0) act1 w1
  refine wpIn_seq (@codeN_sound X1 _ _ (hrcK hng mixed) _ _ _ _ nt6 (Nat.le_refl _) _ _ _ _ _ _ p2 _ _ k1 _ fun act2 w2 hb2 k2 => ?_)
  show (Code.seq ap3 ap4).wpIn (Fr none) 0 Try.prog (apQ w0) act2 w2
  refine wpIn_seq ?_
  rw [ap3_eq]
  refine wpIn_region ?_
  rw [show List.range (⟨oa3⟩ : Array Oper).size = List.range' ([] : List Oper).length (oa3.take 1).length ++ (1 :: [2, 3, 4, 5, 6, 7]) by kernel_rfl]
  refine @opsN_sound X1 _ hng _ (feK_ok hng mixed) _ _ _ _ nt6 (Nat.le_refl _) _ [] (oa3.take 1) (oa3.drop 1) (List.take_append_drop 1 oa3).symm _ _ _ _ p3 _ _ k2 _ _ fun act3 w3 hb3 k3 => ?_
  have an3 : Anc w0 w3 := @RSN.anc X1 _ _ _ _ _ _ _ k3 hno0
  have hg3 : g.OK w3 := h.later an3.wk.size an3.old
  have k3' := k3
  obtain ⟨φ3, hφ3, ht3, _, _, hz3, hd3⟩ := k3'
  have hq := keepL_VR ht3 pk
  have b0 := hq (0, .sym 0) (by simp)
  have b1 := hq (1, s8 1) (by simp)
  simp only [s8, VR, hφ3] at b0 b1
  refine callN (Rf := fun en w' => ∃ G : StG, en = .returned G.v ∧ PlS g w3 G w' ∧ Below w3.heap.size w3 w') hng po1 pg1 pe1 k3 (fun φ vs hφ hv => ?_) fun en w4 hR => ?_
  · have e : vs = [g.v] := by
      simp only [VRs, VR, hφ] at hv
      obtain ⟨_, _, rfl, rfl, rfl⟩ := hv
      rfl
    rw [e]
    exact placed_calls hg3
  obtain ⟨G, rfl, hP, hB4⟩ := hR
  refine ⟨_, rfl, ?_⟩
  rw [pd1]
  exact ap_mid h hmo (by rw [putN_size]; exact hz3) (by rw [putN_defers]; exact hd3) (by rw [putN_other (by decide)]; exact b0) (by rw [putN_other (by decide)]; exact b1) (putN_same (by rw [hz3]; exact Nat.le_of_ble_eq_true (by kernel_rfl))) (an3.trans (anc_below hB4)) hP
end
end Go.Proofs.Ytgbhmkdldfhamaa.apart
