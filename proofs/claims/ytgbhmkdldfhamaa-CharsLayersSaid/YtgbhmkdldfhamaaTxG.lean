/-
  The order that insertion sort tells: sorted; what is unlike may come in any order.
-/
import Derived.Test.YtgbhmkdldfhamaaTxE
import Derived.Test.YtgbhmkdldfhamaaTxF
import Derived.Test.YtgbhmkdldfhamaaEvQe
namespace Go.Proofs.Ytgbhmkdldfhamaa.layers
open Go.Ev Go.RowKit
set_option linter.unusedVariables false
noncomputable section
/-! ### insertion, from behind -/
def ins (x : Eff) : List Eff → List Eff
  | [] => [x]
  | y :: r => if cmpE x y < 0 then y :: ins x r else x :: y :: r
theorem ins_len (x : Eff) : ∀ r, (ins x r).length = r.length + 1
  | [] => rfl
  | y :: r => by
    unfold ins
    split
    · simp [ins_len x r]
    · rfl
theorem getD_app {α : Type} {l r : List α} {d : α} {k : Nat} (h : l.length = k) (j : Nat) : (l ++ r).getD (k + j) d = r.getD j d := by
  subst h
  rw [List.getD_eq_getElem?_getD, List.getD_eq_getElem?_getD, List.getElem?_append_right (by omega), Nat.add_sub_cancel_left]
theorem set_app {α : Type} {l r : List α} {k : Nat} (h : l.length = k) (j : Nat) (x : α) : (l ++ r).set (k + j) x = l ++ r.set j x := by
  subst h
  rw [List.set_append_right _ _ (by omega), Nat.add_sub_cancel_left]
theorem bub_ins (x : Eff) : ∀ (r suf : List Eff), bub r.length (r.reverse ++ x :: suf) = (ins x r).reverse ++ suf
  | [], suf => rfl
  | y :: r, suf => by
    have hl : r.reverse.length = r.length := List.length_reverse
    have e0 : (y :: r).reverse ++ x :: suf = r.reverse ++ (y :: x :: suf) := by simp
    rw [e0, List.length_cons]
    have g0 : (r.reverse ++ (y :: x :: suf)).getD r.length eff0 = y := getD_app hl 0
    have g1 : (r.reverse ++ (y :: x :: suf)).getD (r.length + 1) eff0 = x := getD_app hl 1
    unfold ins
    by_cases h : cmpE x y < 0
    · rw [if_pos h, bub_lt (by rw [g0, g1]; exact h), swp, g0, g1]
      have s0 : (r.reverse ++ (y :: x :: suf)).set r.length x = r.reverse ++ (x :: x :: suf) := set_app hl 0 x
      have s1 : (r.reverse ++ (x :: x :: suf)).set (r.length + 1) y = r.reverse ++ (x :: y :: suf) := set_app hl 1 y
      rw [s0, s1, bub_ins x r (y :: suf)]
      simp
    · rw [if_neg h, bub_ge (by rw [g0, g1]; exact h)]
      simp
theorem outer_ins : ∀ (suf r : List Eff) (m : Nat), m = suf.length → outer m r.length (r.reverse ++ suf) = (suf.foldl (fun r x => ins x r) r).reverse
  | [], r, m, h => by
    subst h
    simp [outer]
  | x :: suf, r, m, h => by
    subst h
    show outer suf.length (r.length + 1) (bub r.length (r.reverse ++ x :: suf)) = _
    rw [bub_ins, ← ins_len x r]
    exact outer_ins suf (ins x r) _ rfl
theorem isort_ins : ∀ l : List Eff, isort l = (l.foldl (fun r x => ins x r) []).reverse
  | [] => rfl
  | x :: l => by
    show outer ((x :: l).length - 1) 1 (x :: l) = _
    have := outer_ins l [x] ((x :: l).length - 1) (by simp)
    simpa [ins] using this
/-! ### the order -/
def leE (a b : Eff) : Prop := lay a.op < lay b.op ∨ (lay a.op = lay b.op ∧ a.st ≤ b.st)
theorem cmp_lt {a b : Eff} : cmpE a b < 0 ↔ (lay a.op < lay b.op ∨ (lay a.op = lay b.op ∧ a.st < b.st)) := by
  unfold cmpE
  by_cases h : lay a.op = lay b.op
  · rw [if_pos h]
    by_cases h1 : a.st < b.st
    · rw [if_pos h1]; omega
    · rw [if_neg h1]
      split <;> omega
  · rw [if_neg h]
    omega
theorem leE_trans {a b c : Eff} (h : leE a b) (k : leE b c) : leE a c := by
  unfold leE at *
  omega
/-- What was put in last is the greatest of those it passed. -/
theorem ins_sorted {x : Eff} : ∀ {r : List Eff}, r.Pairwise (fun a b => leE b a) → (ins x r).Pairwise (fun a b => leE b a) ∧ ∀ y ∈ ins x r, y = x ∨ y ∈ r
  | [], _ => ⟨List.pairwise_singleton _ _, fun y hy => by simpa [ins] using hy⟩
  | z :: r, h => by
    obtain ⟨h1, h2⟩ := List.pairwise_cons.1 h
    unfold ins
    by_cases hc : cmpE x z < 0
    · rw [if_pos hc]
      obtain ⟨k1, k2⟩ := ins_sorted (x := x) h2
      refine ⟨List.pairwise_cons.2 ⟨fun y hy => ?_, k1⟩, fun y hy => ?_⟩
      · rcases k2 y hy with rfl | hy
        · have := cmp_lt.1 hc
          unfold leE
          omega
        · exact h1 y hy
      · rcases List.mem_cons.1 hy with rfl | hy
        · exact .inr List.mem_cons_self
        · rcases k2 y hy with e | hy
          · exact .inl e
          · exact .inr (List.mem_cons_of_mem _ hy)
    · rw [if_neg hc]
      have hz : leE z x := by
        rw [cmp_lt] at hc
        unfold leE
        omega
      refine ⟨List.pairwise_cons.2 ⟨fun y hy => ?_, h⟩, fun y hy => ?_⟩
      · rcases List.mem_cons.1 hy with rfl | hy
        · exact hz
        · exact leE_trans (h1 y hy) hz
      · rcases List.mem_cons.1 hy with e | hy
        · exact .inl e
        · exact .inr hy
theorem foldl_ins_sorted : ∀ (l r : List Eff), r.Pairwise (fun a b => leE b a) → (l.foldl (fun r x => ins x r) r).Pairwise (fun a b => leE b a) ∧ ∀ y ∈ l.foldl (fun r x => ins x r) r, y ∈ l ∨ y ∈ r
  | [], r, h => ⟨h, fun y hy => .inr hy⟩
  | x :: l, r, h => by
    obtain ⟨k1, k2⟩ := ins_sorted (x := x) h
    obtain ⟨g1, g2⟩ := foldl_ins_sorted l (ins x r) k1
    refine ⟨g1, fun y hy => ?_⟩
    rcases g2 y hy with hy | hy
    · exact .inl (List.mem_cons_of_mem _ hy)
    · rcases k2 y hy with rfl | hy
      · exact .inl List.mem_cons_self
      · exact .inr hy
theorem isort_sorted (l : List Eff) : (isort l).Pairwise leE := by
  rw [isort_ins, List.pairwise_reverse]
  exact (foldl_ins_sorted l [] List.Pairwise.nil).1
theorem isort_mem {l : List Eff} {x : Eff} (h : x ∈ isort l) : x ∈ l := by
  rw [isort_ins, List.mem_reverse] at h
  rcases (foldl_ins_sorted l [] List.Pairwise.nil).2 x h with h | h
  · exact h
  · cases h
/-! ### what is unlike, in any order -/
/-! ### small numbers -/
/-- As the law counts. -/
def stepP (s : Nums) (e : Eff) : Nums :=
  if e.op = 1 then ⟨s.p, s.t, kor s.k e.a⟩ else if e.op = 2 then ⟨s.p, s.t, kan s.k e.a⟩ else if e.op = 3 then ⟨e.a, e.b, s.k⟩ else ⟨w64 (s.p + e.a), w64 (s.t + e.b), s.k⟩
def SmallE (e : Eff) : Prop := -4 ≤ e.a ∧ e.a ≤ 4 ∧ -4 ≤ e.b ∧ e.b ≤ 4
theorem sm_id {n : Int} (h : -999 ≤ n ∧ n ≤ 999) : sm n = n := by
  unfold sm mx
  rw [if_neg (by omega), if_neg (by omega)]
theorem w64_same {n : Int} (h : -9223372036854775808 ≤ n ∧ n ≤ 9223372036854775807) : w64 n = n := by
  unfold w64
  rw [IntKind.wrap_i64]
  omega
/-- Numbers not above a bound. -/
def Bnd (b : Int) (s : Nums) : Prop := -b ≤ s.p ∧ s.p ≤ b ∧ -b ≤ s.t ∧ s.t ≤ b
theorem step_small {s : Nums} {e : Eff} {b : Int} (hs : Bnd b s) (h3 : 4 ≤ b) (hb : b ≤ 900) (he : SmallE e) (ha : 1 ≤ e.op ∧ e.op ≤ 4) : stepF s e = stepP s e ∧ Bnd (b + 4) (stepP s e) := by
  obtain ⟨s1, s2, s3, s4⟩ := hs
  obtain ⟨e1, e2, e3, e4⟩ := he
  unfold stepF stepP
  by_cases h1 : e.op = 1
  · rw [if_pos h1, if_pos h1]
    exact ⟨rfl, by unfold Bnd; dsimp only; omega⟩
  rw [if_neg h1, if_neg h1]
  by_cases h2 : e.op = 2
  · rw [if_pos h2, if_pos h2]
    exact ⟨rfl, by unfold Bnd; dsimp only; omega⟩
  rw [if_neg h2, if_neg h2, sm_id (n := e.a) (by omega), sm_id (n := e.b) (by omega)]
  by_cases h3 : e.op = 3
  · rw [if_pos h3, if_pos h3]
    exact ⟨rfl, by unfold Bnd; dsimp only; omega⟩
  rw [if_neg h3, if_neg h3, if_pos (by omega)]
  refine ⟨rfl, ?_⟩
  rw [w64_same (by omega), w64_same (by omega)]
  unfold Bnd
  dsimp only
  omega
theorem fold_small : ∀ (l : List Eff) (s : Nums) (b : Int), Bnd b s → 4 ≤ b → b + 4 * l.length ≤ 900 → (∀ x ∈ l, SmallE x ∧ 1 ≤ x.op ∧ x.op ≤ 4) → l.foldl stepF s = l.foldl stepP s ∧ Bnd (b + 4 * l.length) (l.foldl stepP s)
  | [], s, b, hs, _, _, _ => ⟨rfl, by simpa using hs⟩
  | x :: l, s, b, hs, h3, hb, h => by
    simp only [List.length_cons, Int.natCast_add, Int.natCast_one] at hb
    obtain ⟨h1, h2⟩ := h x List.mem_cons_self
    obtain ⟨g1, g2⟩ := step_small hs h3 (by omega) h1 h2
    obtain ⟨k1, k2⟩ := fold_small l (stepP s x) (b + 4) g2 (by omega) (by omega) fun y hy => h y (List.mem_cons_of_mem _ hy)
    simp only [List.foldl_cons, List.length_cons, Int.natCast_add, Int.natCast_one]
    rw [g1]
    refine ⟨k1, ?_⟩
    rw [show b + 4 * ((l.length : Int) + 1) = b + 4 + 4 * (l.length : Int) by omega]
    exact k2
theorem clamp_id {s : Nums} {b : Int} (hb : b ≤ 999) (h : Bnd b s) : clamp s = s := by
  obtain ⟨s1, s2, s3, s4⟩ := h
  unfold clamp
  rw [sm_id (by omega), sm_id (by omega)]
theorem foldN_small {s : Nums} {l : List Eff} (hs : Bnd 4 s) (hl : l.length ≤ 30) (h : ∀ x ∈ l, SmallE x ∧ 1 ≤ x.op ∧ x.op ≤ 4) : foldN s l = l.foldl stepP s := by
  unfold foldN
  rw [clamp_id (by decide) hs]
  obtain ⟨k1, k2⟩ := fold_small l s 4 hs (by omega) (by omega) h
  rw [k1, clamp_id (by omega) k2]
end
end Go.Proofs.Ytgbhmkdldfhamaa.layers
namespace Go.Proofs.Ytgbhmkdldfhamaa.layers
open Go.Ev Go.RowKit
set_option linter.unusedVariables false
noncomputable section
/-! ### the first place -/
theorem fixI_at {α : Type} {p : α → Bool} : ∀ {l : List α} {i k : Nat}, (∀ j x, j < k → l[j]? = some x → p x = false) → (∃ x, l[k]? = some x ∧ p x = true) → fixI p i l = (i : Int) + k
  | [], i, k, _, ⟨x, hx, _⟩ => by simp at hx
  | y :: l, i, 0, _, ⟨x, hx, hp⟩ => by
    simp only [List.getElem?_cons_zero, Option.some.injEq] at hx
    subst hx
    unfold fixI
    rw [if_pos hp]
    omega
  | y :: l, i, k + 1, h, ⟨x, hx, hp⟩ => by
    unfold fixI
    rw [if_neg (by rw [h 0 y (by omega) rfl]; exact Bool.false_ne_true), fixI_at (k := k) (fun j x hj hx => h (j + 1) x (by omega) (by simpa using hx)) ⟨x, by simpa using hx, hp⟩]
    omega
theorem fixI_some {α : Type} {p : α → Bool} : ∀ {l : List α} {i : Nat}, 0 ≤ fixI p i l → ∃ (k : Nat) (x : α), l[k]? = some x ∧ p x = true ∧ fixI p i l = (i : Int) + k
  | [], i, h => by simp [fixI] at h
  | y :: l, i, h => by
    unfold fixI at h ⊢
    by_cases hp : p y = true
    · rw [if_pos hp]
      exact ⟨0, y, rfl, hp, by omega⟩
    · rw [if_neg hp] at h ⊢
      obtain ⟨k, x, h1, h2, h3⟩ := fixI_some h
      exact ⟨k + 1, x, by simpa using h1, h2, by rw [h3]; omega⟩
theorem fixI_mem {α : Type} {p : α → Bool} {x : α} (hp : p x = true) : ∀ {l : List α} {i : Nat}, x ∈ l → 0 ≤ fixI p i l
  | [], i, h => by cases h
  | y :: l, i, h => by
    unfold fixI
    split
    · omega
    · rename_i hn
      rcases List.mem_cons.1 h with rfl | h
      · exact absurd hp hn
      · exact fixI_mem hp h
/-! ### what acts -/
def effsOf (x : Int) (k : Nat) : List Eff := if x / 8 % 2 = 1 then [⟨1 + x / 16 % 4, x / 64, 1, 20 + (k : Int)⟩] else []
theorem spec_in {c i j x y : Int} {s : Sp} (h : s ∈ spec c i j x y) : s = (4, 1, 1) ∨ s = (3, 0, 1) ∨ s = (1, 1, 0) ∨ s = (2, 4, 0) := by
  unfold spec at h
  by_cases h1 : c = 1
  · rw [if_pos h1] at h
    split at h
    · simp only [List.mem_singleton] at h; exact .inl h
    · cases h
  rw [if_neg h1] at h
  by_cases h2 : c = 2
  · rw [if_pos h2] at h
    simp only [List.mem_singleton] at h
    exact .inr (.inl h)
  rw [if_neg h2] at h
  by_cases h3 : c = 3
  · rw [if_pos h3] at h
    rcases List.mem_append.1 h with h | h
    · split at h
      · simp only [List.mem_singleton] at h; exact .inr (.inr (.inl h))
      · cases h
    · split at h
      · simp only [List.mem_singleton] at h; exact .inr (.inr (.inr h))
      · cases h
  · rw [if_neg h3] at h
    cases h
theorem spec_len {c i j x y : Int} : (spec c i j x y).length ≤ 1 + (if i = j then 1 else 0) := by
  unfold spec
  split
  · split <;> simp
  split
  · simp
  split
  · by_cases h : i = j
    · rw [if_pos h, if_pos h]
      split <;> simp
    · rw [if_neg h, if_neg h]
      split <;> simp
  · simp
def Ok4 (y : Eff) : Prop := SmallE y ∧ 1 ≤ y.op ∧ y.op ≤ 4
theorem acts_ok {G : StG} {b : Ob} {n : Int} {y : Eff} (h : y ∈ G.acts b n) : Ok4 y ∧ y.st = (G.ob (G.find n).toNat).st ∧ 0 ≤ G.find n := by
  unfold StG.acts at h
  split at h
  · cases h
  rename_i hf
  unfold actsOf at h
  obtain ⟨s, hs, rfl⟩ := List.mem_map.1 h
  refine ⟨?_, rfl, by omega⟩
  unfold Ok4 SmallE
  rcases spec_in hs with rfl | rfl | rfl | rfl <;> (dsimp only; exact ⟨⟨by decide, by decide, by decide, by decide⟩, by decide, by decide⟩)
theorem find_id {G : StG} {n : Int} (h : 0 ≤ G.find n) : ∃ k : Nat, G.find n = k ∧ k < G.os.length ∧ (G.ob k).id = n := by
  obtain ⟨k, x, h1, h2, h3⟩ := fixI_some h
  refine ⟨k, by unfold StG.find; rw [h3]; omega, (List.getElem?_eq_some_iff.1 h1).1, ?_⟩
  unfold StG.ob
  rw [List.getD_eq_getElem?_getD, h1]
  unfold hasId at h2
  exact of_decide_eq_true h2
theorem acts_len {G : StG} {b : Ob} {n : Int} : (G.acts b n).length ≤ 1 + (if n = b.id then 1 else 0) := by
  unfold StG.acts
  split
  · simp
  rename_i hf
  obtain ⟨k, h1, h2, h3⟩ := find_id (G := G) (n := n) (by omega)
  unfold actsOf
  rw [List.length_map, h1]
  have := spec_len (c := (G.ob k).card) (i := (G.ob k).id) (j := b.id) (x := (G.ob k).ctrl) (y := b.ctrl)
  rw [h3] at this
  simp only [Int.toNat_natCast, h3]
  exact this
theorem coll_len {G : StG} {b : Ob} : ∀ l : List Int, (G.coll b l).length ≤ l.length + l.count b.id
  | [] => by simp [StG.coll]
  | n :: l => by
    have h1 := coll_len (G := G) (b := b) l
    have h2 := acts_len (G := G) (b := b) (n := n)
    unfold StG.coll at h1 ⊢
    rw [List.flatMap_cons, List.length_append, List.length_cons, List.count_cons]
    by_cases e : n = b.id
    · subst e
      rw [if_pos rfl] at h2
      simp only [beq_self_eq_true, if_true]
      omega
    · rw [if_neg e] at h2
      rw [if_neg (by simpa using e)]
      omega
theorem coll_nodup {G : StG} {b : Ob} {l : List Int} (h : l.Nodup) (hl : l.length ≤ 16) : (G.coll b l).length ≤ 17 := by
  have h1 := coll_len (G := G) (b := b) l
  have h2 := List.nodup_iff_count.1 h b.id
  omega
/-! ### a beast -/
theorem ef_of {G : StG} {p : PoG} {w w1 : World} {k : Nat} {x : Int} (hG : G.OK w) (hp : p.OK w) (hk : k < G.os.length) (hk10 : k < 1000) (hf : G.find ((k : Int) + 1) = k) (hh : 0 ≤ G.has ((k : Int) + 1)) (hx : 0 ≤ x ∧ x ≤ 255) (hc : (G.ob k).card = x % 4) (he : EfS w1 G x k (G.ob k).eff w) (hn : G.fs.Nodup) (hl : G.fs.length ≤ 16) :
    ∃ e : EfG, e.g = G ∧ e.p = p ∧ e.bi = k ∧ e.effs = effsOf x k ∧ e.OK ((k : Int) + 1) w := by
  have fit : ∀ y ∈ effsOf x k, y.Fit ∧ 1 ≤ y.op ∧ y.op ≤ 4 := fun y hy => by
    unfold effsOf at hy
    split at hy
    · simp only [List.mem_singleton] at hy
      subst hy
      exact ⟨⟨⟨by dsimp only; omega, by dsimp only; omega⟩, ⟨by dsimp only; omega, by dsimp only; omega⟩, ⟨by dsimp only; omega, by dsimp only; omega⟩, ⟨by dsimp only; omega, by dsimp only; omega⟩⟩, by dsimp only; omega, by dsimp only; omega⟩
    · cases hy
  rcases he with ⟨h1, h2⟩ | ⟨h1, B, O, h2, h3, h4, h5, h6⟩
  · have ee : effsOf x k = [] := by unfold effsOf; rw [if_neg h1]
    refine ⟨⟨G, p, k, effsOf x k, 0, 0⟩, rfl, rfl, rfl, rfl, hG, hp, hk, hf, hh, ⟨by omega, by omega⟩, ?_, ?_, ?_, fun y hy => (fit y hy).2, fun y hy => (fit y hy).1, ?_, fun y hy => ?_, coll_nodup hn hl⟩
    · show 0 ≤ (G.ob k).card
      omega
    · show (G.ob k).card ≤ 3
      omega
    · show (effsOf x k).length ≤ 1
      rw [ee]; simp
    · show (G.ob k).eff = _
      rw [h2]
      simp only [ee]
    · have hy' : (effsOf x k)[0]? = some y := hy
      rw [ee] at hy'
      cases hy'
  · have ee : effsOf x k = [⟨1 + x / 16 % 4, x / 64, 1, 20 + (k : Int)⟩] := by unfold effsOf; rw [if_pos h1]
    refine ⟨⟨G, p, k, effsOf x k, B, O⟩, rfl, rfl, rfl, rfl, hG, hp, hk, hf, hh, ⟨by omega, by omega⟩, ?_, ?_, ?_, fun y hy => (fit y hy).2, fun y hy => (fit y hy).1, ?_, fun y hy => ?_, coll_nodup hn hl⟩
    · show 0 ≤ (G.ob k).card
      omega
    · show (G.ob k).card ≤ 3
      omega
    · show (effsOf x k).length ≤ 1
      rw [ee]; simp
    · show (G.ob k).eff = _
      rw [h2]
      simp only [ee]
    · have hy' : (effsOf x k)[0]? = some y := hy
      rw [ee] at hy'
      cases hy'
      exact h6
/-- What acts on it is small. -/
theorem all_small {e : EfG} {x : Int} {k : Nat} (hx : 0 ≤ x ∧ x ≤ 255) (h : e.effs = effsOf x k) : ∀ y ∈ e.all, Ok4 y := fun y hy => by
  unfold EfG.all at hy
  split at hy
  · cases hy
  unfold EfG.res at hy
  have hy := isort_mem hy
  unfold EfG.raw at hy
  rcases List.mem_append.1 hy with hy | hy
  · unfold StG.coll at hy
    obtain ⟨n, _, hn⟩ := List.mem_flatMap.1 hy
    exact (acts_ok hn).1
  · rw [h] at hy
    unfold effsOf at hy
    split at hy
    · simp only [List.mem_singleton] at hy
      subst hy
      unfold Ok4 SmallE
      dsimp only
      exact ⟨⟨by omega, by omega, by decide, by decide⟩, by omega, by omega⟩
    · cases hy
theorem all_sorted (e : EfG) : e.all.Pairwise leE := by
  unfold EfG.all
  split
  · exact List.Pairwise.nil
  · exact isort_sorted _
/-- What it is, as the law counts. -/
theorem ef_fold {e : EfG} {id : Int} {w : World} (h : e.OK id w) (hs : ∀ y ∈ e.all, Ok4 y) : foldN e.base e.all = e.all.foldl stepP e.base := by
  refine foldN_small ?_ (by have := all_len h; omega) hs
  unfold EfG.base
  split <;> exact ⟨by decide, by decide, by decide, by decide⟩
/-! ### of a field that was laid -/
section
variable {w w1 w' : World} {g : PlIn} {G : StG} {p : PoG}
theorem PlS.m10 (h : PlS g w1 G w) : g.m ≤ 10 := m_10
theorem PlS.obk (h : PlS g w1 G w) {k : Nat} {x : Ob} (hx : G.os[k]? = some x) : k < g.m ∧ x.id = (k : Int) + 1 := by
  have hk : k < g.m := by
    rw [← h.no]
    exact (List.getElem?_eq_some_iff.1 hx).1
  refine ⟨hk, ?_⟩
  have := (h.ob k hk).1
  unfold StG.ob at this
  rw [List.getD_eq_getElem?_getD, hx] at this
  exact this
theorem PlS.find (h : PlS g w1 G w) {k : Nat} (hk : k < g.m) : G.find ((k : Int) + 1) = k := by
  have hk' : k < G.os.length := by rw [h.no]; exact hk
  have := fixI_at (p := hasId ((k : Int) + 1)) (l := G.os) (i := 0) (k := k) (fun j x hj hx => by
    unfold hasId
    rw [(h.obk hx).2]
    exact decide_eq_false (by omega)) ⟨_, List.getElem?_eq_getElem hk', by
      unfold hasId
      rw [(h.obk (List.getElem?_eq_getElem hk')).2]
      exact decide_eq_true rfl⟩
  unfold StG.find
  rw [this]
  omega
theorem PlS.fsl (h : PlS g w1 G w) : G.fs.length = g.m := by rw [h.fs]; simp
theorem PlS.mem (h : PlS g w1 G w) {k : Nat} (hk : k < g.m) : (k : Int) + 1 ∈ G.fs := by
  rw [h.fs, List.mem_map]
  exact ⟨k, List.mem_range.2 hk, rfl⟩
theorem PlS.nodup (h : PlS g w1 G w) : G.fs.Nodup := by
  rw [h.fs, List.Nodup, List.pairwise_map]
  exact List.nodup_range.imp fun hab he => hab (by omega)
theorem has_mem {G : StG} {n : Int} (h : n ∈ G.fs) : 0 ≤ G.has n := fixI_mem (p := isN n) (x := n) (decide_eq_true rfl) h
theorem PlS.ef_at (h : PlS g w1 G w) (hg : ∀ k, 0 ≤ g.x k ∧ g.x k ≤ 255) (hp : p.OK w) {k : Nat} (hk : k < g.m) : ∃ e : EfG, e.g = G ∧ e.p = p ∧ e.bi = k ∧ e.effs = effsOf (g.x k) k ∧ e.OK ((k : Int) + 1) w := by
  have h10 := h.m10
  exact ef_of h.ok hp (by rw [h.no]; exact hk) (by omega) (h.find hk) (has_mem (h.mem hk)) (hg k) (h.ob k hk).2.1 (h.ef k hk) h.nodup (by rw [h.fsl]; omega)
theorem EfS.later {x : Int} {k : Nat} {v : Value} (h : EfS w1 G x k v w) (hs : w.heap.size ≤ w'.heap.size) (hb : ∀ k, k < w.heap.size → w'.heap[k]? = w.heap[k]?) : EfS w1 G x k v w' := by
  rcases h with h | ⟨h1, B, O, h2, h3, h4, h5, h6⟩
  · exact .inl h
  · exact .inr ⟨h1, B, O, h2, h3, h4, h5, h6.later hs hb⟩
theorem PlS.later (h : PlS g w1 G w) (hs : w.heap.size ≤ w'.heap.size) (hb : ∀ k, k < w.heap.size → w'.heap[k]? = w.heap[k]?) : PlS g w1 G w' :=
  ⟨h.ok.later hs hb, h.no, h.fs, h.ob, fun k hk => (h.ef k hk).later hs hb, h.newO, h.newF, h.ne⟩
end
end
end Go.Proofs.Ytgbhmkdldfhamaa.layers
namespace Go.Proofs.Ytgbhmkdldfhamaa.layers
open Go.Ev Go.RowKit
set_option linter.unusedVariables false
noncomputable section
def lybody : Code := match Try.f5.body with | some c => c | none => .skip
/-- From a head on. -/
def lyseg (rc : Go.Ev.CE) (t : Nat) (l : List (Nat × VV)) (E : Env) : Option SegO := match ctx t lybody 0 [] with
  | some (c, K) => seg rc Try.f5.ntmps [0, 1] 1000 c (t + 1) (.lp c t :: K) (mkT Try.f5.ntmps l) ⟨E, .lf, 0⟩
  | none => none
def lyhd (t : Nat) (l : List (Nat × VV)) : Option SegO → Bool
  | some (.cut t' a H) => match Nat.beq t t' with
    | true => keepL a l
    | false => false
  | _ => false
/-! ### a round of the inner loop -/
/-- What is known at the heads: the state's place, the pool, the layers' place, the number. -/
def lyT (id : VV) : List (Nat × VV) := [(3, .ptr (some ⟨.sym 5, 0⟩)), (4, .sym 90), (5, .ptr (some ⟨.sym 6, 0⟩)), (6, id)]
def lyN (i p t k : VV) : List (Nat × VV) := [(7, .ptr (some ⟨.sym 8, 0⟩)), (8, .bool true), (10, .sym 10), (11, p), (12, t), (13, k), (14, i)] ++ lyT (si 3)
def lyF (i : VV) : List Fact := [.len false (.sym 10) (si 2), .bin .lss i (si 2) (.bool true), .at 4 (.sym 10) i ⟨.sym 11, 0⟩, .bin .add i (i8 1) (si 22), .bin .or (si 16) (si 31) (si 17), .bin .andNot (si 16) (si 31) (si 23), .bin .add (si 14) (si 31) (si 18), .bin .add (si 15) (si 32) (si 19)]
def lyG : List Fact := [.bin .sub (si 20) (i8 1) (si 21), .at 4 (.sym 10) (si 21) ⟨.sym 12, 0⟩]
def lyH (q o : Int) : List Fact := match decide (lay q = lay o) with
  | true => [.bin .gtr (si 43) (si 33) (.bool false)]
  | false => []
def lyB (q o : Int) (i : Nat) : Option (List VV) := match i with
  | 11 => some [i8 o, si 31, si 32, si 33]
  | 12 => some [i8 q, si 41, si 42, si 43]
  | 6 => some [i8 0, i8 1, i8 1, i8 2, i8 3]
  | _ => none
def lyIv : Ivs := [bI, bI, bI, bI, bI, bI, bI, bI, bI, bI, bI, bI, bI, bI, bI, bI, bI, bI, bI, bI, (1, 1000000)]
def lyB0 (o : Int) (i : Nat) : Option (List VV) := match i with
  | 11 => some [i8 o, si 31, si 32, si 33]
  | 6 => some [i8 0, i8 1, i8 1, i8 2, i8 3]
  | _ => none
/-- An element that is not the first; the first one. -/
def lyi (q o : Int) : Option SegO := lyseg (rcK Try.prog []) 1 (lyN (si 20) (si 14) (si 15) (si 16)) ⟨fun _ => none, ivAt lyIv, lyF (si 20) ++ (lyG ++ lyH q o), lyB q o⟩
def lyi0 (o : Int) : Option SegO := lyseg (rcK Try.prog []) 1 (lyN (i8 0) (si 14) (si 15) (si 16)) ⟨fun _ => none, ivAt [], lyF (i8 0), lyB0 o⟩
def lyO (o : Int) (j : VV) : List (Nat × VV) := match o with
  | 1 => lyN j (si 14) (si 15) (si 17)
  | 2 => lyN j (si 14) (si 15) (si 23)
  | 3 => lyN j (si 31) (si 32) (si 16)
  | _ => lyN j (si 18) (si 19) (si 16)
def lychk (q o : Int) : Bool := lyhd 1 (lyO o (si 22)) (lyi q o)
def lychk0 (o : Int) : Bool := lyhd 1 (lyO o (i8 1)) (lyi0 o)
/-- Behind the last. -/
def lyx : Option SegO := lyseg (rcK Try.prog []) 1 (lyN (si 20) (si 14) (si 15) (si 16)) ⟨fun _ => none, ivAt [], [.len false (.sym 10) (si 2), .bin .lss (si 20) (si 2) (.bool false), .bin .add (si 3) (i8 1) (si 9)], fun i => match i with | 8 => some [si 14, si 15, si 16] | _ => none⟩
def lyxc : Bool := lyhd 0 (lyT (si 9)) lyx
/-! ### a round of the outer loop -/
def lySt : List VV := match stV with | .agg l => l | _ => []
def lyC (c : Int) : List VV := match c with
  | 0 => cardV (.string ⟨#[98, 101, 97, 114]⟩) 2 2 2 0 (.slice none 0 0)
  | 1 => cardV (.string ⟨#[108, 111, 114, 100]⟩) 2 2 2 0 (.sym 101)
  | 2 => cardV (.string ⟨#[115, 104, 114, 105, 110, 107, 101, 114]⟩) 4 0 0 0 (.sym 101)
  | _ => cardV (.string ⟨#[107, 105, 116, 101]⟩) 2 1 1 4 (.sym 101)
def lyE (c : Int) : Env := ⟨fun _ => none, ivAt [], [.len false (.sym 41) (si 14), .bin .leq (si 3) (si 14) (.bool true), .bin .sub (si 3) (i8 1) (si 4), .at 14 (.sym 41) (si 4) ⟨.sym 7, 0⟩, .at 11 (.sym 90) (i8 c) ⟨.sym 93, 0⟩, .bin .add (si 3) (i8 1) (si 9)], fun i => match i with
  | 5 => some lySt
  | 7 => some [si 120, i8 c]
  | 93 => some (lyC c)
  | _ => none⟩
def lyA : List VV := [.sym 90, stV, si 3]
def lyke (x : VV) : KE := ⟨10, lyA, [], x⟩
def lyBk (c : Int) : VV := match c with
  | 3 => .tuple [.agg [i8 1, i8 1, i8 4], .bool true]
  | 2 => .tuple [.agg [i8 0, i8 0, i8 0], .bool false]
  | _ => .tuple [.agg [i8 2, i8 2, i8 0], .bool true]
def lynil (c : Int) : List KE := [lyke (lyBk c), ⟨13, lyA, [], .slice none 0 0⟩]
def lylist : List KE := [lyke (.tuple [.agg [si 176, si 177, si 178], .bool true])]
def lyK2 : KE2 := ⟨13, lyA, 2, [], .lsl 2 158 0, [(2, .list 144 158 4 [] none)], 3⟩
/-- No list; a list. -/
def lyr0 (c : Int) : Option SegO := match ctx 0 lybody 0 [] with
  | some (b, K) => seg (rcK2 Try.prog (lynil c) []) Try.f5.ntmps [0] 1000 b 1 (.lp b 0 :: K) (mkT Try.f5.ntmps (lyT (si 3))) ⟨lyE c, .lf, 0⟩
  | none => none
def lyr1 (c : Int) : Option SegO := lyseg (rcK2 Try.prog lylist [lyK2]) 0 (lyT (si 3)) (lyE c)
def lyr0c (c : Int) : Bool := lyhd 0 (lyT (si 9)) (lyr0 c)
def lyIn (c : Int) : List (Nat × VV) := match c with
  | 3 => [(7, .ptr (some ⟨.loc 0, 0⟩)), (8, .bool true), (10, .lsl 2 158 0), (11, i8 1), (12, i8 1), (13, i8 4), (14, i8 0)] ++ lyT (si 3)
  | _ => [(7, .ptr (some ⟨.loc 0, 0⟩)), (8, .bool true), (10, .lsl 2 158 0), (11, i8 2), (12, i8 2), (13, i8 0), (14, i8 0)] ++ lyT (si 3)
def lyhd2 (l : List (Nat × VV)) : Option SegO → Bool
  | some (.cut 1 a H) => match keepL a l, H.locs.get 0, H.locs.get 2 with
    | true, some (.cells c none _ _), some (.list 144 158 4 [] none) => vvsEq c [si 176, si 177, si 178]
    | _, _, _ => false
  | _ => false
def lyr1c (c : Int) : Bool := lyhd2 (lyIn c) (lyr1 c)
/-! ### the end -/
def lyz : Option SegO := lyseg (rcK Try.prog []) 0 (lyT (si 3)) ⟨fun _ => none, ivAt [], [.len false (.sym 41) (si 14), .bin .leq (si 3) (si 14) (.bool false)], fun i => match i with | 5 => some lySt | _ => none⟩
def lyzc : Bool := match lyz with
  | some (.out .ret a H) => match resL Try.prog a H Try.f5.results.toList with
    | some [.bool true] => true
    | _ => false
  | _ => false
/-! ### all of it -/
def lyall : Bool := [lychk0 1, lychk0 2, lychk0 3, lychk0 4, lychk 1 1, lychk 1 2, lychk 1 3, lychk 1 4, lychk 2 1, lychk 2 2, lychk 2 3, lychk 2 4, lychk 3 3, lychk 3 4, lychk 4 4, lyxc, lyr0c 0, lyr0c 1, lyr0c 2, lyr0c 3, lyr1c 0, lyr1c 1, lyr1c 3, lyzc].all id
theorem lyallT : lyall = true := by kernel_rfl
theorem lyall_at (b : Bool) (h : b ∈ [lychk0 1, lychk0 2, lychk0 3, lychk0 4, lychk 1 1, lychk 1 2, lychk 1 3, lychk 1 4, lychk 2 1, lychk 2 2, lychk 2 3, lychk 2 4, lychk 3 3, lychk 3 4, lychk 4 4, lyxc, lyr0c 0, lyr0c 1, lyr0c 2, lyr0c 3, lyr1c 0, lyr1c 1, lyr1c 3, lyzc]) : b = true := by
  have := lyallT
  unfold lyall at this
  rw [List.all_eq_true] at this
  exact this b h
theorem lychk_at {q o : Int} (hq : 1 ≤ q ∧ q ≤ 4) (ho : 1 ≤ o ∧ o ≤ 4) (h : lay q ≤ lay o) : lychk q o = true := by
  obtain rfl | rfl | rfl | rfl : q = 1 ∨ q = 2 ∨ q = 3 ∨ q = 4 := by omega
  all_goals obtain rfl | rfl | rfl | rfl : o = 1 ∨ o = 2 ∨ o = 3 ∨ o = 4 := by omega
  all_goals first | exact absurd h (by decide) | exact lyall_at _ (by simp)
theorem lychk0_at {o : Int} (ho : 1 ≤ o ∧ o ≤ 4) : lychk0 o = true := by
  obtain rfl | rfl | rfl | rfl : o = 1 ∨ o = 2 ∨ o = 3 ∨ o = 4 := by omega
  all_goals exact lyall_at _ (by simp)
theorem lyr0_at {c : Int} (hc : 0 ≤ c ∧ c ≤ 3) : lyr0c c = true := by
  obtain rfl | rfl | rfl | rfl : c = 0 ∨ c = 1 ∨ c = 2 ∨ c = 3 := by omega
  all_goals exact lyall_at _ (by simp)
theorem lyr1_at {c : Int} (hc : 0 ≤ c ∧ c ≤ 3) (h2 : c ≠ 2) : lyr1c c = true := by
  obtain rfl | rfl | rfl : c = 0 ∨ c = 1 ∨ c = 3 := by omega
  all_goals exact lyall_at _ (by simp)
theorem lyhd_of {t : Nat} {l : List (Nat × VV)} {o : Option SegO} (h : lyhd t l o = true) : ∃ a H, o = some (.cut t a H) ∧ keepL a l = true := by
  unfold lyhd at h
  split at h
  · split at h
    · rename_i hb
      exact ⟨_, _, by rw [Nat.eq_of_beq_eq_true hb], h⟩
    · cases h
  · cases h
theorem lyhd2_of {l : List (Nat × VV)} {o : Option SegO} (h : lyhd2 l o = true) : ∃ a H g et, o = some (.cut 1 a H) ∧ keepL a l = true ∧ H.locs.get 0 = some (.cells [si 176, si 177, si 178] none g et) ∧ H.locs.get 2 = some (.list 144 158 4 [] none) := by
  unfold lyhd2 at h
  split at h
  · split at h
    · rename_i h1 h2 h3
      rw [vvsEq_eq _ _ h] at h2
      exact ⟨_, _, _, _, rfl, h1, h2, h3⟩
    · cases h
  · cases h
theorem lyz_of : ∃ a H, lyz = some (.out .ret a H) ∧ resL Try.prog a H Try.f5.results.toList = some [.bool true] := by
  have h : lyzc = true := lyall_at _ (by simp)
  unfold lyzc at h
  split at h
  · rename_i h1
    split at h
    · rename_i h2
      exact ⟨_, _, h1, h2⟩
    · cases h
  · cases h
end
end Go.Proofs.Ytgbhmkdldfhamaa.layers
namespace Go.Proofs.Ytgbhmkdldfhamaa.layers
open Go.Ev Go.RowKit
set_option linter.unusedVariables false
noncomputable section
/-! ### facts -/
section
variable {ρ : Rho} {k : IntKind} {x y : VV} {a b : Int} {r : Bool}
theorem fact_lssG (hx : sval ρ x = some (.int k a)) (hy : sval ρ y = some (.int k b)) (h : decide (a < b) = r) : FactOK ρ (.bin .lss x y (.bool r)) := by
  refine ⟨_, _, _, hx, hy, rfl, by simp, by simp, fun P t w => ?_⟩
  simp [binOp, Op.intCmp, h]
theorem fact_gtrG (hx : sval ρ x = some (.int k a)) (hy : sval ρ y = some (.int k b)) (h : decide (a > b) = r) : FactOK ρ (.bin .gtr x y (.bool r)) := by
  refine ⟨_, _, _, hx, hy, rfl, by simp, by simp, fun P t w => ?_⟩
  subst h
  simp [binOp, Op.intCmp]
theorem fact_leqG (hx : sval ρ x = some (.int k a)) (hy : sval ρ y = some (.int k b)) (h : decide (a ≤ b) = r) : FactOK ρ (.bin .leq x y (.bool r)) := by
  refine ⟨_, _, _, hx, hy, rfl, by simp, by simp, fun P t w => ?_⟩
  subst h
  simp [binOp, Op.intCmp]
theorem fact_addG {j : Nat} (hx : sval ρ x = some (.int .i64 a)) (hy : sval ρ y = some (.int .i64 b)) (h : ρ.int j = w64 (a + b)) : FactOK ρ (.bin .add x y (si j)) := by
  refine ⟨_, _, _, hx, hy, rfl, by simp, by simp, fun P t w => ?_⟩
  rw [h]
  simp [binOp, Op.intArith, w64]
theorem fact_subG {j : Nat} (hx : sval ρ x = some (.int .i64 a)) (hy : sval ρ y = some (.int .i64 b)) (h : ρ.int j = w64 (a - b)) : FactOK ρ (.bin .sub x y (si j)) := by
  refine ⟨_, _, _, hx, hy, rfl, by simp, by simp, fun P t w => ?_⟩
  rw [h]
  simp [binOp, Op.intArith, w64]
theorem fact_atG {B O l c size j n : Nat} {i : VV} {o : Option Addr} (hx : sval ρ x = some (.slice o l c)) (ha : o = some ⟨B, O, none⟩) (hi : sval ρ i = some (.int .i64 (n : Int))) (hn : n < l) (hb : ρ.blk j = B) (ho : ρ.off j = O + n * size) : FactOK ρ (.at size x i ⟨.sym j, 0⟩) := by
  subst ha
  exact ⟨⟨B, O, none⟩, l, c, .i64, n, j, hx, rfl, hi, by omega, by omega, rfl, hb, by rw [ho]; rfl⟩
theorem fs_app {f1 f2 : List Fact} (h1 : FsOK f1 ρ) (h2 : FsOK f2 ρ) : FsOK (f1 ++ f2) ρ := fun f hf => (List.mem_append.1 hf).elim (h1 f) (h2 f)
end
/-! ### the state -/
structure LyG where
  g : PlIn
  G : StG
  p : PoG
  b5 : Nat
  o5 : Nat
  b6 : Nat
  o6 : Nat
def cellsV (v : Value) : List Value := match v with | .agg a => a.toList | _ => []
def lay5 : List Value := [n64 0, n64 1, n64 1, n64 2, n64 3]
structure LyM (y : LyG) (w0 w1 w : World) : Prop where
  anc : Anc w0 w
  pls : PlS y.g w1 y.G w
  pok : y.p.OK w
  st : CellsAt w y.b5 y.o5 (cellsV y.G.v)
  ly : CellsAt w y.b6 y.o6 lay5
theorem LyM.later {y : LyG} {w0 w1 w w' : World} (h : LyM y w0 w1 w) (hw : WK w w') (hb : ∀ k, k < w.heap.size → w'.heap[k]? = w.heap[k]?) : LyM y w0 w1 w' :=
  ⟨h.anc.trans ⟨hw, hb⟩, h.pls.later hw.size hb, h.pok.later hw.size hb, h.st.later hw.size hb, h.ly.later hw.size hb⟩
/-- The temporaries at both heads. -/
structure LoT (y : LyG) (id : Int) (act : Act) : Prop where
  sz : act.tmps.size = Try.f5.ntmps
  df : act.defers = []
  t3 : act.tmps.getD 3 undef = .pointer (some ⟨y.b5, y.o5, none⟩)
  t4 : act.tmps.getD 4 undef = y.p.v
  t5 : act.tmps.getD 5 undef = .pointer (some ⟨y.b6, y.o6, none⟩)
  t6 : act.tmps.getD 6 undef = n64 id
/-- At the inner head. -/
structure LiT (y : LyG) (id : Int) (f : FoIn) (b8 o8 i : Nat) (s : Nums) (act : Act) : Prop where
  lo : LoT y id act
  t7 : act.tmps.getD 7 undef = .pointer (some ⟨b8, o8, none⟩)
  t8 : act.tmps.getD 8 undef = .bool true
  t10 : act.tmps.getD 10 undef = .slice f.oa f.l.length f.ca
  t11 : act.tmps.getD 11 undef = n64 s.p
  t12 : act.tmps.getD 12 undef = n64 s.t
  t13 : act.tmps.getD 13 undef = n64 s.k
  t14 : act.tmps.getD 14 undef = n64 (i : Int)
def num3 (s : Nums) : List Value := [n64 s.p, n64 s.t, n64 s.k]
theorem nt5 : Try.f5.ntmps ≤ top := Nat.le_of_ble_eq_true (by kernel_rfl)
/-! ### symbols of the inner loop -/
def inint (id : Int) (f : FoIn) (i : Nat) (s : Nums) : Nat → Int
  | 2 => (f.l.length : Int)
  | 3 => id
  | 9 => w64 (id + 1)
  | 14 => s.p
  | 15 => s.t
  | 16 => s.k
  | 17 => kor s.k (f.at i).a
  | 18 => w64 (s.p + (f.at i).a)
  | 19 => w64 (s.t + (f.at i).b)
  | 20 => (i : Int)
  | 21 => w64 ((i : Int) - 1)
  | 22 => w64 ((i : Int) + 1)
  | 23 => kan s.k (f.at i).a
  | 31 => (f.at i).a
  | 32 => (f.at i).b
  | 33 => (f.at i).st
  | 41 => (f.at (i - 1)).a
  | 42 => (f.at (i - 1)).b
  | 43 => (f.at (i - 1)).st
  | _ => 0
def inval (y : LyG) (f : FoIn) : Nat → Value
  | 10 => .slice f.oa f.l.length f.ca
  | 90 => y.p.v
  | _ => .bool false
def inblk (y : LyG) (f : FoIn) (b8 : Nat) : Nat → Nat
  | 5 => y.b5
  | 6 => y.b6
  | 8 => b8
  | _ => f.B
def inoff (y : LyG) (f : FoIn) (o8 i : Nat) : Nat → Nat
  | 5 => y.o5
  | 6 => y.o6
  | 8 => o8
  | 11 => f.O + i * 4
  | 12 => f.O + (i - 1) * 4
  | _ => f.O
def inrho (y : LyG) (id : Int) (f : FoIn) (b8 o8 i : Nat) (s : Nums) : Rho where
  int := inint id f i s
  val := inval y f
  blk := inblk y f b8
  off := inoff y f o8 i
  one k := by
    unfold inval
    split <;> rfl
  lst _ := []
  lcl _ _ h := by cases h
section
variable {w0 w1 w : World} {y : LyG} {id : Int} {f : FoIn} {b8 o8 i : Nat} {s : Nums} {act : Act}
theorem in_fits (hid : I64 id) (hf : f.OK w) (hs : s.Fit) (hi : i ≤ f.l.length) (k : Nat) : I64 (inint id f i s k) := by
  have h1 := at_fit hf i
  have h2 := at_fit hf (i - 1)
  have h3 := hf.n
  unfold inint
  split
  · exact ⟨by omega, by omega⟩
  · exact hid
  · exact w64_fits _
  · exact hs.p
  · exact hs.t
  · exact hs.k
  · exact w64_fits _
  · exact w64_fits _
  · exact w64_fits _
  · exact ⟨by omega, by omega⟩
  · exact w64_fits _
  · exact w64_fits _
  · exact w64_fits _
  · exact h1.a
  · exact h1.b
  · exact h1.st
  · exact h2.a
  · exact h2.b
  · exact h2.st
  · exact i64_0
theorem in_tmps {iv : VV} {φ : Phi} (hφ : φ.ρ = inrho y id f b8 o8 i s) (ha : LiT y id f b8 o8 i s act) (hv : VR φ iv (n64 i)) : ∀ q ∈ lyN iv (si 14) (si 15) (si 16), q.1 < top ∧ VR φ q.2 (act.tmps.getD q.1 undef) := by
  intro q hq
  have p : ∀ k, VR φ (.ptr (some ⟨.sym k, 0⟩)) (.pointer (some ⟨inblk y f b8 k, inoff y f o8 i k, none⟩)) := fun k => by
    simp only [VR, AR, hφ]
    exact ⟨_, _, ⟨rfl, rfl⟩, rfl⟩
  have n : ∀ k, VR φ (si k) (n64 (inint id f i s k)) := fun k => by
    simp only [si, VR, n64, hφ]
    rfl
  simp only [lyN, lyT, List.cons_append, List.nil_append, List.mem_cons, List.not_mem_nil, or_false] at hq
  rcases hq with rfl | rfl | rfl | rfl | rfl | rfl | rfl | rfl | rfl | rfl | rfl
  · exact ⟨show 7 < top by decide, by simp only [ha.t7]; exact p 8⟩
  · exact ⟨show 8 < top by decide, by simp only [ha.t8, VR]⟩
  · exact ⟨show 10 < top by decide, by simp only [ha.t10, VR, hφ]; rfl⟩
  · exact ⟨show 11 < top by decide, by simp only [ha.t11]; exact n 14⟩
  · exact ⟨show 12 < top by decide, by simp only [ha.t12]; exact n 15⟩
  · exact ⟨show 13 < top by decide, by simp only [ha.t13]; exact n 16⟩
  · exact ⟨show 14 < top by decide, by simp only [ha.t14]; exact hv⟩
  · exact ⟨show 3 < top by decide, by simp only [ha.lo.t3]; exact p 5⟩
  · exact ⟨show 4 < top by decide, by simp only [ha.lo.t4, VR, hφ]; rfl⟩
  · exact ⟨show 5 < top by decide, by simp only [ha.lo.t5]; exact p 6⟩
  · exact ⟨show 6 < top by decide, by simp only [ha.lo.t6]; exact n 3⟩
/-- What is kept. -/
theorem in_back {φ : Phi} {j p t k : VV} {i' : Nat} {s' : Nums} (hφ : φ.ρ = inrho y id f b8 o8 i s) (hsz : act.tmps.size = Try.f5.ntmps) (hd : act.defers = []) (hq : ∀ q ∈ lyN j p t k, VR φ q.2 (act.tmps.getD q.1 undef)) (hj : ∀ v, VR φ j v → v = n64 (i' : Int)) (hp : ∀ v, VR φ p v → v = n64 s'.p) (ht : ∀ v, VR φ t v → v = n64 s'.t) (hk : ∀ v, VR φ k v → v = n64 s'.k) : LiT y id f b8 o8 i' s' act := by
  have pt : ∀ {k v}, VR φ (.ptr (some ⟨.sym k, 0⟩)) v → v = .pointer (some ⟨inblk y f b8 k, inoff y f o8 i k, none⟩) := fun {k v} h => by
    simp only [VR, AR] at h
    obtain ⟨b, o, ⟨rfl, rfl⟩, rfl⟩ := h
    rw [hφ]
    rfl
  have a7 := hq (7, .ptr (some ⟨.sym 8, 0⟩)) (by simp [lyN])
  have a8 := hq (8, .bool true) (by simp [lyN])
  have a10 := hq (10, .sym 10) (by simp [lyN])
  have a11 := hq (11, p) (by simp [lyN])
  have a12 := hq (12, t) (by simp [lyN])
  have a13 := hq (13, k) (by simp [lyN])
  have a14 := hq (14, j) (by simp [lyN])
  have a3 := hq (3, .ptr (some ⟨.sym 5, 0⟩)) (by simp [lyN, lyT])
  have a4 := hq (4, .sym 90) (by simp [lyN, lyT])
  have a5 := hq (5, .ptr (some ⟨.sym 6, 0⟩)) (by simp [lyN, lyT])
  have a6 := hq (6, si 3) (by simp [lyN, lyT])
  simp only [VR, hφ] at a8 a10 a4
  simp only [si, VR, hφ] at a6
  exact ⟨⟨hsz, hd, pt a3, a4, pt a5, a6⟩, pt a7, a8, a10, hp _ a11, ht _ a12, hk _ a13, hj _ a14⟩
theorem li_s {φ : Phi} (hφ : φ.ρ = inrho y id f b8 o8 i s) {k : Nat} {n : Int} (h : inint id f i s k = n) : ∀ v, VR φ (si k) v → v = n64 n := fun v hv => by
  simp only [si, VR, hφ] at hv
  rw [hv]
  show Value.int .i64 (inint id f i s k) = _
  rw [h]
  rfl
theorem el_blk {φ : Phi} (hf : f.OK w) {j : Nat} (hj : j < f.l.length) {o a b c : VV} (ho : VR φ o (n64 (f.at j).op)) (ha : VR φ a (n64 (f.at j).a)) (hb : VR φ b (n64 (f.at j).b)) (hc : VR φ c (n64 (f.at j).st)) : f.B < w.heap.size ∧ ∀ q x, [o, a, b, c][q]? = some x → ∃ v, w.cell? ⟨f.B, f.O + j * 4 + q, none⟩ = some v ∧ VR φ x v := by
  obtain ⟨h1, h2, h3⟩ := hf.cl j _ (at_of hj)
  refine ⟨h2, fun q x hx => ?_⟩
  match q with
  | 0 => cases hx; exact ⟨_, h3 0 (by omega), ho⟩
  | 1 => cases hx; exact ⟨_, h3 1 (by omega), ha⟩
  | 2 => cases hx; exact ⟨_, h3 2 (by omega), hb⟩
  | 3 => cases hx; exact ⟨_, h3 3 (by omega), hc⟩
  | q + 4 => simp at hx
theorem lay_blk {φ : Phi} (h : LyM y w0 w1 w) : y.b6 < w.heap.size ∧ ∀ j x, [i8 0, i8 1, i8 1, i8 2, i8 3][j]? = some x → ∃ v, w.cell? ⟨y.b6, y.o6 + j, none⟩ = some v ∧ VR φ x v :=
  cells_blk h.ly (cons_VR (i8_VR 0) (cons_VR (i8_VR 1) (cons_VR (i8_VR 1) (cons_VR (i8_VR 2) (cons_VR (i8_VR 3) nil_VR)))))
theorem lyF_ok (hf : f.OK w) (hi : i < f.l.length) {iv : VV} (hv : sval (inrho y id f b8 o8 i s) iv = some (n64 i)) : FsOK (lyF iv) (inrho y id f b8 o8 i s) := by
  obtain ⟨h1, h2, h3⟩ := hf.cl i _ (at_of hi)
  exact fs_cons (fact_lenV (a := f.oa) (n := f.l.length) (c := f.ca) rfl rfl) (fs_cons (fact_lssG hv rfl (decide_eq_true (show (i : Int) < (f.l.length : Int) by omega))) (fs_cons (fact_atG (c := f.ca) rfl h1 hv hi rfl rfl)
    (fs_cons (fact_addG hv rfl rfl) (fs_cons (fact_or rfl) (fs_cons (fact_an rfl) (fs_cons (fact_addG rfl rfl rfl) (fs_cons (fact_addG rfl rfl rfl) fs_nil)))))))
/-- The numbers behind an element. -/
theorem stepP_1 {e : Eff} (h : e.op = 1) : stepP s e = ⟨s.p, s.t, kor s.k e.a⟩ := by unfold stepP; rw [if_pos h]
theorem stepP_2 {e : Eff} (h : e.op = 2) : stepP s e = ⟨s.p, s.t, kan s.k e.a⟩ := by unfold stepP; rw [if_neg (by omega), if_pos h]
theorem stepP_3 {e : Eff} (h : e.op = 3) : stepP s e = ⟨e.a, e.b, s.k⟩ := by unfold stepP; rw [if_neg (by omega), if_neg (by omega), if_pos h]
theorem stepP_4 {e : Eff} (h : e.op = 4) : stepP s e = ⟨w64 (s.p + e.a), w64 (s.t + e.b), s.k⟩ := by unfold stepP; rw [if_neg (by omega), if_neg (by omega), if_neg (by omega)]
theorem li_next {φ : Phi} {j : VV} (hφ : φ.ρ = inrho y id f b8 o8 i s) (hsz : act.tmps.size = Try.f5.ntmps) (hd : act.defers = []) (ho : 1 ≤ (f.at i).op ∧ (f.at i).op ≤ 4) (hj : ∀ v, VR φ j v → v = n64 ((i + 1 : Nat) : Int)) (hq : ∀ q ∈ lyO (f.at i).op j, VR φ q.2 (act.tmps.getD q.1 undef)) : LiT y id f b8 o8 (i + 1) (stepP s (f.at i)) act := by
  obtain h | h | h | h : (f.at i).op = 1 ∨ (f.at i).op = 2 ∨ (f.at i).op = 3 ∨ (f.at i).op = 4 := by omega
  · rw [h] at hq
    rw [stepP_1 h]
    exact in_back hφ hsz hd hq hj (li_s hφ rfl) (li_s hφ rfl) (li_s hφ rfl)
  · rw [h] at hq
    rw [stepP_2 h]
    exact in_back hφ hsz hd hq hj (li_s hφ rfl) (li_s hφ rfl) (li_s hφ rfl)
  · rw [h] at hq
    rw [stepP_3 h]
    exact in_back hφ hsz hd hq hj (li_s hφ rfl) (li_s hφ rfl) (li_s hφ rfl)
  · rw [h] at hq
    rw [stepP_4 h]
    exact in_back hφ hsz hd hq hj (li_s hφ rfl) (li_s hφ rfl) (li_s hφ rfl)
end
end
end Go.Proofs.Ytgbhmkdldfhamaa.layers
namespace Go.Proofs.Ytgbhmkdldfhamaa.layers
open Go.Ev Go.RowKit
set_option linter.unusedVariables false
noncomputable section
section
variable {w0 w1 w : World} {y : LyG} {id : Int} {f : FoIn} {b8 o8 i : Nat} {s : Nums} {act : Act} {HD : Nat → Act → World → Prop} {Q : Exit → Act → World → Prop}
theorem el_i {φ : Phi} (hφ : φ.ρ = inrho y id f b8 o8 i s) (hf : f.OK w) (hi : i < f.l.length) : f.B < w.heap.size ∧ ∀ q x, [i8 (f.at i).op, si 31, si 32, si 33][q]? = some x → ∃ v, w.cell? ⟨f.B, f.O + i * 4 + q, none⟩ = some v ∧ VR φ x v :=
  el_blk hf hi (i8_VR _) (by simp only [si, VR, hφ]; rfl) (by simp only [si, VR, hφ]; rfl) (by simp only [si, VR, hφ]; rfl)
theorem el_p {φ : Phi} (hφ : φ.ρ = inrho y id f b8 o8 i s) (hf : f.OK w) (hi : i - 1 < f.l.length) : f.B < w.heap.size ∧ ∀ q x, [i8 (f.at (i - 1)).op, si 41, si 42, si 43][q]? = some x → ∃ v, w.cell? ⟨f.B, f.O + (i - 1) * 4 + q, none⟩ = some v ∧ VR φ x v :=
  el_blk hf hi (i8_VR _) (by simp only [si, VR, hφ]; rfl) (by simp only [si, VR, hφ]; rfl) (by simp only [si, VR, hφ]; rfl)
theorem li_env (hM : LyM y w0 w1 w) (hid : I64 id) (hf : f.OK w) (hn : f.l.length ≤ 1000000) (hs : s.Fit) (h0 : 0 < i) (hi : i < f.l.length) (hst : lay (f.at (i - 1)).op = lay (f.at i).op → (f.at (i - 1)).st ≤ (f.at i).st) :
    @EnvOK (XK Try.prog [] (fun _ => False)) ⟨fun _ => none, ivAt lyIv, lyF (si 20) ++ (lyG ++ lyH (f.at (i - 1)).op (f.at i).op), lyB (f.at (i - 1)).op (f.at i).op⟩ ⟨fun _ => none, inrho y id f b8 o8 i s⟩ w := by
  have ft := in_fits (i := i) (s := s) hid hf hs (by omega)
  have e1 : f.oa = some ⟨f.B, f.O, none⟩ := (hf.cl i _ (at_of hi)).1
  refine @EnvOK.mk (XK Try.prog [] (fun _ => False)) _ _ _ (fun e he => by cases he) ?_ ?_ ?_
  · have F := ft
    refine iv_all (f := inint id f i s) ?_ F
    unfold lyIv
    exact ⟨F 0, F 1, F 2, F 3, F 4, F 5, F 6, F 7, F 8, F 9, F 10, F 11, F 12, F 13, F 14, F 15, F 16, F 17, F 18, F 19, ⟨show 1 ≤ (i : Int) by omega, show (i : Int) ≤ 1000000 by omega⟩, trivial⟩
  · have h1 : FsOK (lyF (si 20) ++ (lyG ++ lyH (f.at (i - 1)).op (f.at i).op)) (inrho y id f b8 o8 i s) := by
      refine fs_app (lyF_ok hf hi rfl) (fs_app ?_ ?_)
      · refine fs_cons (fact_subG (a := (i : Int)) rfl rfl rfl) (fs_cons (fact_atG (c := f.ca) (n := i - 1) rfl e1 ?_ (by omega) rfl rfl) fs_nil)
        show some (Value.int .i64 (w64 ((i : Int) - 1))) = some (Value.int .i64 ((i - 1 : Nat) : Int))
        rw [w64_same (by omega), show (((i - 1 : Nat) : Int)) = (i : Int) - 1 by omega]
      · unfold lyH
        split
        · rename_i hb
          exact fs_cons (fact_gtrG rfl rfl (decide_eq_false (show ¬ (f.at (i - 1)).st > (f.at i).st by have := hst (of_decide_eq_true hb); omega))) fs_nil
        · exact fs_nil
    exact fun x hx => FactOK.w (h1 x hx)
  · intro k c hk
    simp only [lyB] at hk
    split at hk
    · cases hk; exact el_i rfl hf hi
    · cases hk; exact el_p rfl hf (by omega)
    · cases hk; exact lay_blk hM
    · cases hk
theorem li_env0 (hM : LyM y w0 w1 w) (hid : I64 id) (hf : f.OK w) (hs : s.Fit) (hi : 0 < f.l.length) :
    @EnvOK (XK Try.prog [] (fun _ => False)) ⟨fun _ => none, ivAt [], lyF (i8 0), lyB0 (f.at 0).op⟩ ⟨fun _ => none, inrho y id f b8 o8 0 s⟩ w := by
  have ft := in_fits (i := 0) (s := s) hid hf hs (by omega)
  refine @EnvOK.mk (XK Try.prog [] (fun _ => False)) _ _ _ (fun e he => by cases he) (ivs_nil ft) ?_ ?_
  · exact fun x hx => FactOK.w (lyF_ok hf hi rfl x hx)
  · intro k c hk
    simp only [lyB0] at hk
    split at hk
    · cases hk; exact el_i rfl hf hi
    · cases hk; exact lay_blk hM
    · cases hk
set_option maxRecDepth 4000 in
theorem li_tr {iv : VV} (ha : LiT y id f b8 o8 i s act) (hv : VR ⟨fun _ => none, inrho y id f b8 o8 i s⟩ iv (n64 i)) : TR ⟨fun _ => none, inrho y id f b8 o8 i s⟩ (mkT Try.f5.ntmps (lyN iv (si 14) (si 15) (si 16))) act.tmps := by
  have h1 := in_tmps (φ := ⟨fun _ => none, inrho y id f b8 o8 i s⟩) rfl ha hv
  exact mkT_TR ha.lo.sz nt5 h1
set_option maxRecDepth 4000 in
/-- A round of the inner loop. -/
theorem li_round (hM : LyM y w0 w1 w) (hid : I64 id) (hf : f.OK w) (hn : f.l.length ≤ 1000000) (hs : s.Fit) (hok : ∀ e ∈ f.l, 1 ≤ e.op ∧ e.op ≤ 4) (hsort : f.l.Pairwise leE) (hi : i < f.l.length)
    {c : Code} {K : List Fr1} (hc : ctx 1 lybody 0 [] = some (c, K)) (hat : At1 lybody (.loop c) 1 K) (hko : KOK lybody K) (ha : LiT y id f b8 o8 i s act)
    (hgo : ∀ act' w', LiT y id f b8 o8 (i + 1) (stepP s (f.at i)) act' → WK w w' → (∀ k, k < w.heap.size → w'.heap[k]? = w.heap[k]?) → HD 1 act' w' ∧ ∀ c' K', ctx 1 lybody 0 [] = some (c', K') → (Code.loop c').wpIn (Fr none) 0 Try.prog (postK Try.prog HD Q K') act' w') :
    c.wpIn (Fr none) 0 Try.prog (postK Try.prog HD Q (.lp c 1 :: K)) act w := by
  letI : Ext := XK Try.prog [] (fun _ => False)
  have ho := hok _ (List.mem_of_getElem? (at_of hi))
  by_cases h0 : i = 0
  · subst h0
    obtain ⟨a, H, hseg, hkeep⟩ := lyhd_of (lychk0_at ho)
    unfold lyi0 lyseg at hseg
    rw [hc] at hseg
    simp only at hseg
    refine plain_part (X := XK Try.prog [] (fun _ => False)) (ρ := inrho y id f b8 o8 0 s) (hrcK (noNG_of noNG) mixed) nt5 hat.loop.2 hko hseg (li_tr ha (i8_VR 0)) (li_env0 hM hid hf hs hi) (fun r => rfl) ha.lo.sz ha.lo.df (fun k h => h) fun act' w' φ b => ?_
    exact hgo act' w' (li_next (j := i8 1) b.rho b.sz b.df ho (fun v hv => i8V hv) (keepL_VR b.tr hkeep)) b.wk fun k hk => b.same k hk (fun h => h)
  · have ho' := hok _ (List.mem_of_getElem? (at_of (g := f) (i := i - 1) (by omega)))
    have hle : leE (f.at (i - 1)) (f.at i) := by
      have := List.pairwise_iff_getElem.1 hsort (i - 1) i (by omega) hi (by omega)
      have e1 := at_of (g := f) (i := i - 1) (by omega)
      have e2 := at_of hi
      rw [List.getElem?_eq_getElem (by omega)] at e1 e2
      rw [← Option.some.inj e1, ← Option.some.inj e2]
      exact this
    have hl : lay (f.at (i - 1)).op ≤ lay (f.at i).op := by unfold leE at hle; omega
    obtain ⟨a, H, hseg, hkeep⟩ := lyhd_of (lychk_at ho' ho hl)
    unfold lyi lyseg at hseg
    rw [hc] at hseg
    simp only at hseg
    refine plain_part (X := XK Try.prog [] (fun _ => False)) (ρ := inrho y id f b8 o8 i s) (hrcK (noNG_of noNG) mixed) nt5 hat.loop.2 hko hseg (li_tr ha (by simp only [si, VR]; rfl)) (li_env hM hid hf hn hs (by omega) hi (by unfold leE at hle; omega)) (fun r => rfl) ha.lo.sz ha.lo.df (fun k h => h) fun act' w' φ b => ?_
    refine hgo act' w' (li_next (j := si 22) b.rho b.sz b.df ho (fun v hv => ?_) (keepL_VR b.tr hkeep)) b.wk fun k hk => b.same k hk (fun h => h)
    refine li_s b.rho ?_ v hv
    show w64 ((i : Int) + 1) = _
    rw [w64_same (by omega)]
    omega
set_option maxRecDepth 4000 in
/-- Behind the inner loop. -/
theorem li_exit (hM : LyM y w0 w1 w) (hid : 0 ≤ id ∧ id ≤ 1000000) (hf : f.OK w) (hs : s.Fit) (h8 : CellsAt w b8 o8 (num3 s))
    {c : Code} {K : List Fr1} (hc : ctx 1 lybody 0 [] = some (c, K)) (hat : At1 lybody (.loop c) 1 K) (hko : KOK lybody K) (ha : LiT y id f b8 o8 f.l.length s act)
    (hgo : ∀ act' w', LoT y (id + 1) act' → WK w w' → (∀ k, k < w.heap.size → w'.heap[k]? = w.heap[k]?) → HD 0 act' w' ∧ ∀ c' K', ctx 0 lybody 0 [] = some (c', K') → (Code.loop c').wpIn (Fr none) 0 Try.prog (postK Try.prog HD Q K') act' w') :
    c.wpIn (Fr none) 0 Try.prog (postK Try.prog HD Q (.lp c 1 :: K)) act w := by
  letI : Ext := XK Try.prog [] (fun _ => False)
  obtain ⟨a, H, hseg, hkeep⟩ := lyhd_of (show lyxc = true from lyall_at _ (by simp))
  unfold lyx lyseg at hseg
  rw [hc] at hseg
  simp only at hseg
  have ft := in_fits (i := f.l.length) (s := s) (id := id) ⟨by omega, by omega⟩ hf hs (Nat.le_refl _)
  refine plain_part (X := XK Try.prog [] (fun _ => False)) (ρ := inrho y id f b8 o8 f.l.length s) (hrcK (noNG_of noNG) mixed) nt5 hat.loop.2 hko hseg (li_tr ha (by simp only [si, VR]; rfl)) (EnvOK.mk (fun e he => by cases he) (ivs_nil ft) ?_ ?_) (fun r => rfl) ha.lo.sz ha.lo.df (fun k h => h) fun act' w' φ b => ?_
  · have h1 : FsOK [.len false (.sym 10) (si 2), .bin .lss (si 20) (si 2) (.bool false), .bin .add (si 3) (i8 1) (si 9)] (inrho y id f b8 o8 f.l.length s) :=
      fs_cons (fact_lenV (a := f.oa) (n := f.l.length) (c := f.ca) rfl rfl) (fs_cons (fact_lssG rfl rfl (decide_eq_false (show ¬ ((f.l.length : Nat) : Int) < (f.l.length : Int) by omega))) (fs_cons (fact_addG rfl rfl rfl) fs_nil))
    exact fun x hx => FactOK.w (h1 x hx)
  · intro k c hk
    dsimp only at hk
    split at hk
    · cases hk
      refine cells_blk h8 (cons_VR ?_ (cons_VR ?_ (cons_VR ?_ nil_VR))) <;> (simp only [si, VR]; rfl)
    · cases hk
  · have hq := keepL_VR b.tr hkeep
    have a3 := hq (3, .ptr (some ⟨.sym 5, 0⟩)) (by simp [lyT])
    have a4 := hq (4, .sym 90) (by simp [lyT])
    have a5 := hq (5, .ptr (some ⟨.sym 6, 0⟩)) (by simp [lyT])
    have a6 := hq (6, si 9) (by simp [lyT])
    simp only [VR, AR, b.rho] at a3 a4 a5
    simp only [si, VR, b.rho] at a6
    obtain ⟨_, _, ⟨rfl, rfl⟩, a3⟩ := a3
    obtain ⟨_, _, ⟨rfl, rfl⟩, a5⟩ := a5
    refine hgo act' w' ⟨b.sz, b.df, a3, a4, a5, ?_⟩ b.wk fun k hk => b.same k hk (fun h => h)
    rw [a6]
    show Value.int .i64 (w64 (id + 1)) = _
    rw [w64_same (by omega)]
    rfl
end
end
end Go.Proofs.Ytgbhmkdldfhamaa.layers
namespace Go.Proofs.Ytgbhmkdldfhamaa.layers
open Go.Ev Go.RowKit
set_option linter.unusedVariables false
noncomputable section
/-! ### symbols of the outer loop -/
def ouint (G : StG) (e : EfG) (id : Int) : Nat → Int
  | 3 => id
  | 4 => w64 (id - 1)
  | 9 => w64 (id + 1)
  | 14 => (G.os.length : Int)
  | 120 => e.b.id
  | 158 => (e.all.length : Int)
  | 176 => (foldN e.base e.all).p
  | 177 => (foldN e.base e.all).t
  | 178 => (foldN e.base e.all).k
  | _ => 0
def cardAb (p : PoG) (c : Int) : Value := if c = 1 then p.ab 1 1 else if c = 2 then p.ab 2 1 else p.ab 3 2
def ouval (G : StG) (p : PoG) (e : EfG) (k : Nat) : Value := if k = 90 then p.v else if k = 101 then cardAb p e.b.card else qval G k
def oublk (y : LyG) : Nat → Nat
  | 5 => y.b5
  | 6 => y.b6
  | 7 => y.G.oB
  | _ => y.p.cB
def ouoff (y : LyG) (e : EfG) : Nat → Nat
  | 5 => y.o5
  | 6 => y.o6
  | 7 => y.G.oO + e.bi * 14
  | _ => y.p.cO + e.b.card.toNat * 11
def ourho (y : LyG) (e : EfG) (id : Int) : Rho where
  int := ouint y.G e id
  val := ouval y.G y.p e
  blk := oublk y
  off := ouoff y e
  one k := by
    unfold ouval
    split
    · rfl
    split
    · unfold cardAb
      split
      · rfl
      split <;> rfl
    · exact qval_one _
  lst k := if k = 144 then cellsOf e.all else []
  lcl k x hx := by
    revert hx
    split
    · exact cellsOf_closed _ x
    · intro h; cases h
theorem stepP_fit {s : Nums} {e : Eff} (h : s.Fit) (he : e.Fit) : (stepP s e).Fit := by
  unfold stepP
  split
  · exact ⟨h.p, h.t, w64_fits _⟩
  split
  · exact ⟨h.p, h.t, w64_fits _⟩
  split
  · exact ⟨he.a, he.b, h.k⟩
  · exact ⟨w64_fits _, w64_fits _, h.k⟩
theorem foldP_fit : ∀ (l : List Eff) (s : Nums), s.Fit → (∀ x ∈ l, x.Fit) → (l.foldl stepP s).Fit
  | [], s, h, _ => h
  | x :: l, s, h, hl => foldP_fit l _ (stepP_fit h (hl x List.mem_cons_self)) fun y hy => hl y (List.mem_cons_of_mem _ hy)
theorem num_VR {φ : Phi} (s : Nums) : VR φ (.agg [i8 s.p, i8 s.t, i8 s.k]) (numV s) := by
  simp only [numV, VR, VRs, i8]
  exact ⟨_, ⟨_, _, rfl, rfl, _, _, rfl, rfl, _, _, rfl, rfl, rfl⟩, rfl⟩
section
variable {w0 w1 w : World} {y : LyG} {id : Int} {e : EfG} {act : Act} {HD : Nat → Act → World → Prop} {Q : Exit → Act → World → Prop}
theorem ou_st : StRho y.G (ourho y e id) := ⟨fun k hk => by
  show ouval y.G y.p e k = _
  unfold ouval
  rw [if_neg (by omega), if_neg (by omega)]⟩
theorem ou_args {φ : Phi} (hφ : φ.ρ = ourho y e id) {vs : List Value} (hv : VRs φ lyA vs) : vs = [y.p.v, y.G.v, .int .i64 id] := by
  unfold lyA at hv
  simp only [VRs] at hv
  obtain ⟨a, bs, rfl, ha, v, ws, rfl, hs, u, us, rfl, hu, rfl⟩ := hv
  rw [stV_inv (g := y.G) (by rw [hφ]; exact ou_st) hs]
  simp only [VR, hφ] at ha
  simp only [si, VR, hφ] at hu
  rw [ha, hu]
  rfl
/-- What is, where nothing acts. -/
theorem of_nil {φ : Phi} (hc : 0 ≤ e.b.card ∧ e.b.card ≤ 3) (ha : e.all = []) : VR φ (lyBk e.b.card) e.ofV := by
  unfold EfG.ofV EfG.base
  rw [ha]
  have b1 : foldN base1 [] = base1 := foldN_small (l := []) ⟨by decide, by decide, by decide, by decide⟩ (by simp) (fun x hx => by cases hx)
  have b2 : foldN base2 [] = base2 := foldN_small (l := []) ⟨by decide, by decide, by decide, by decide⟩ (by simp) (fun x hx => by cases hx)
  obtain h | h | h | h : e.b.card = 0 ∨ e.b.card = 1 ∨ e.b.card = 2 ∨ e.b.card = 3 := by omega
  all_goals (rw [h]; simp only [lyBk]; rw [VR])
  · rw [if_neg (by decide), if_neg (by decide), b1]
    refine ⟨_, cons_VR (num_VR base1) (cons_VR (by simp only [VR]) nil_VR), rfl⟩
  · rw [if_neg (by decide), if_neg (by decide), b1]
    refine ⟨_, cons_VR (num_VR base1) (cons_VR (by simp only [VR]) nil_VR), rfl⟩
  · rw [if_pos trivial]
    refine ⟨_, cons_VR (num_VR ⟨0, 0, 0⟩) (cons_VR (by simp only [VR]) nil_VR), rfl⟩
  · rw [if_neg (by decide), if_pos trivial, b2]
    refine ⟨_, cons_VR (num_VR base2) (cons_VR (by simp only [VR]) nil_VR), rfl⟩
theorem ou_of0 (h : e.OK id w) (hg : e.g = y.G) (hp : e.p = y.p) (ha : e.all = []) : KEok Try.prog (ourho y e id) w (lyke (lyBk e.b.card)) := by
  intro φ vs w' hφ h1 h2 hv hpre
  have hv' := ou_args hφ hv
  subst hv'
  have := of_calls (h.later h1 fun k hk => h2 k hk (fun x => x))
  rw [hg, hp] at this
  refine this.mono ?_
  rintro en w'' ⟨rfl, hb⟩
  exact ⟨_, rfl, of_nil ⟨h.c0, h.c3⟩ ha, hb⟩
theorem ou_of1 (h : e.OK id w) (hg : e.g = y.G) (hp : e.p = y.p) (h2 : e.b.card ≠ 2) : KEok Try.prog (ourho y e id) w (lyke (.tuple [.agg [si 176, si 177, si 178], .bool true])) := by
  intro φ vs w' hφ h1 h3 hv hpre
  have hv' := ou_args hφ hv
  subst hv'
  have := of_calls (h.later h1 fun k hk => h3 k hk (fun x => x))
  rw [hg, hp] at this
  refine this.mono ?_
  rintro en w'' ⟨rfl, hb⟩
  refine ⟨_, rfl, ?_, hb⟩
  unfold EfG.ofV
  rw [if_neg h2]
  show VR φ (.tuple [.agg [si 176, si 177, si 178], .bool true]) _
  rw [VR]
  refine ⟨_, cons_VR (v := numV (foldN e.base e.all)) ?_ (cons_VR (v := .bool true) (by simp only [VR]) nil_VR), rfl⟩
  simp only [numV, VR, VRs, si, hφ]
  exact ⟨_, ⟨_, _, rfl, rfl, _, _, rfl, rfl, _, _, rfl, rfl, rfl⟩, rfl⟩
theorem ou_nil (h : e.OK id w) (hg : e.g = y.G) (hp : e.p = y.p) (ha : e.all = []) : KEok Try.prog (ourho y e id) w ⟨13, lyA, [], .slice none 0 0⟩ := by
  intro φ vs w' hφ h1 h2 hv hpre
  have hv' := ou_args hφ hv
  subst hv'
  have := effects_calls (h.later h1 fun k hk => h2 k hk (fun x => x))
  rw [hg, hp] at this
  refine this.mono ?_
  rintro en w'' ⟨v, rfl, hb, ho⟩
  rcases ho with ⟨_, rfl⟩ | ⟨hne, _⟩
  · exact ⟨_, rfl, by simp only [VR], hb⟩
  · exact absurd ha hne
theorem ou_list (h : e.OK id w) (hg : e.g = y.G) (hp : e.p = y.p) (ha : e.all ≠ []) : KE2ok Try.prog (ourho y e id) w lyK2 := by
  intro φ vs w' hφ h1 h2 hv hpre hown hinj hfr
  have hv' := ou_args hφ hv
  subst hv'
  have := effects_calls (h.later h1 fun k hk => h2 k hk (fun x => x))
  rw [hg, hp] at this
  refine this.mono ?_
  rintro en w'' ⟨v, rfl, hb, ho⟩
  obtain ⟨φ', g1, g2⟩ := out_res2 (e := lyK2) (nx := 2) (j := 144) (n := 158) rfl rfl rfl (hfr 2 (Nat.le_refl _)) (by rw [hφ]; rfl) (by rw [hφ]; rfl) hb ho ha
  exact ⟨v, φ', rfl, g1, g2⟩
theorem ou_fits (h : e.OK id w) (hid : 0 ≤ id ∧ id ≤ 1000000) (hG : y.G.OK w) (k : Nat) : I64 (ouint y.G e id k) := by
  have h1 := foldN_fit (base_fit e) (all_fit h)
  have h2 := hG.no
  have h3 := all_len h
  have h4 := h.g.obFit e.bi
  unfold ouint
  split
  · exact ⟨by omega, by omega⟩
  · exact w64_fits _
  · exact w64_fits _
  · exact ⟨by omega, by omega⟩
  · exact h4.id
  · exact ⟨by omega, by omega⟩
  · exact h1.p
  · exact h1.t
  · exact h1.k
  · exact i64_0
theorem lySt_VR {φ : Phi} (h : StRho y.G φ.ρ) : VRs φ lySt (cellsV y.G.v) := by
  have := stV_VR h
  unfold stV at this
  rw [VR] at this
  obtain ⟨us, h1, h2⟩ := this
  rw [h2]
  exact h1
theorem lyC_VR {φ : Phi} (hφ : φ.ρ = ourho y e id) (hc : 0 ≤ e.b.card ∧ e.b.card ≤ 3) : VRs φ (lyC e.b.card) (y.p.card e.b.card.toNat) := by
  have v : ∀ {c : Int}, e.b.card = c → VR φ (.sym 101) (cardAb y.p c) := fun {c} hh => by
    simp only [VR, hφ]
    show _ = ouval y.G y.p e 101
    unfold ouval
    rw [if_neg (by omega), if_pos rfl, hh]
  obtain h | h | h | h : e.b.card = 0 ∨ e.b.card = 1 ∨ e.b.card = 2 ∨ e.b.card = 3 := by omega
  all_goals (have hv := v h; rw [h])
  · exact card_VR (by simp only [VR, bearN]) (by simp only [VR])
  · exact card_VR (by simp only [VR, lordN]) hv
  · exact card_VR (by simp only [VR, shriN]) hv
  · exact card_VR (by simp only [VR, kiteN]) hv
theorem ou_env {X : Ext} (hx : X.ok (ourho y e id) w) (hM : LyM y w0 w1 w) (h : e.OK id w) (hg : e.g = y.G) (hp : e.p = y.p) (hid : id = (e.bi : Int) + 1) (hle : id ≤ (y.G.os.length : Int)) : @EnvOK X (lyE e.b.card) ⟨fun _ => none, ourho y e id⟩ w := by
  have hc0 := h.c0
  have hc3 := h.c3
  have hG := hM.pls.ok
  have hno := hG.no
  have hbi : e.bi < y.G.os.length := by rw [← hg]; exact h.bi
  obtain ⟨o1, o2, o3⟩ := hG.co e.bi _ (ob_of hbi)
  have hob : e.b = y.G.ob e.bi := by unfold EfG.b; rw [hg]
  have ft := ou_fits h ⟨by omega, by omega⟩ hG
  refine @EnvOK.mk X _ _ _ hx (ivs_nil ft) ?_ ?_
  · have h1 : FsOK (lyE e.b.card).tab (ourho y e id) := by
      refine fs_cons (fact_lenV (a := y.G.oa) (n := y.G.os.length) (c := y.G.oc) rfl rfl) (fs_cons (fact_leqG rfl rfl (decide_eq_true hle)) (fs_cons (fact_subG (a := id) rfl rfl rfl) (fs_cons (fact_atG (c := y.G.oc) (n := e.bi) rfl o1 ?_ hbi rfl rfl) (fs_cons (fact_atG (B := y.p.cB) (O := y.p.cO) (l := 4) (c := y.p.cc) (n := e.b.card.toNat) rfl rfl ?_ (by omega) rfl rfl) (fs_cons (fact_addG rfl rfl rfl) fs_nil)))))
      · show some (Value.int .i64 (w64 (id - 1))) = _
        rw [w64_same (by omega), hid]
        congr 2
        omega
      · show some (Value.int .i64 e.b.card) = _
        congr 2
        omega
    exact fun x hx => FactOK.w (h1 x hx)
  · intro k c hk
    simp only [lyE] at hk
    split at hk
    · cases hk
      exact cells_blk hM.st (lySt_VR ou_st)
    · cases hk
      refine ⟨o2, fun j x hx => ?_⟩
      match j with
      | 0 =>
        cases hx
        refine ⟨_, o3 0 (by omega), ?_⟩
        simp only [si, VR]
        show _ = Value.int .i64 (e.b.id)
        rw [hob]
        rfl
      | 1 =>
        cases hx
        refine ⟨_, o3 1 (by omega), ?_⟩
        rw [hob]
        exact i8_VR _
      | j + 2 => simp at hx
    · cases hk
      have hk := hM.pok.card e.b.card.toNat (by omega)
      exact cells_blk hk (lyC_VR rfl ⟨hc0, hc3⟩)
    · cases hk
set_option maxRecDepth 4000 in
theorem ou_tr (ha : LoT y id act) : TR ⟨fun _ => none, ourho y e id⟩ (mkT Try.f5.ntmps (lyT (si 3))) act.tmps := by
  have h1 : ∀ q ∈ lyT (si 3), q.1 < top ∧ VR ⟨fun _ => none, ourho y e id⟩ q.2 (act.tmps.getD q.1 undef) := by
    intro q hq
    simp only [lyT, List.mem_cons, List.not_mem_nil, or_false] at hq
    rcases hq with rfl | rfl | rfl | rfl
    · exact ⟨show 3 < top by decide, by simp only [ha.t3, VR, AR]; exact ⟨_, _, ⟨rfl, rfl⟩, rfl⟩⟩
    · exact ⟨show 4 < top by decide, by simp only [ha.t4, VR]; rfl⟩
    · exact ⟨show 5 < top by decide, by simp only [ha.t5, VR, AR]; exact ⟨_, _, ⟨rfl, rfl⟩, rfl⟩⟩
    · exact ⟨show 6 < top by decide, by simp only [ha.t6, si, VR]; rfl⟩
  exact mkT_TR ha.sz nt5 h1
theorem ou_back {φ : Phi} {j : VV} {n : Int} (hφ : φ.ρ = ourho y e id) (hsz : act.tmps.size = Try.f5.ntmps) (hd : act.defers = []) (hq : ∀ q ∈ lyT j, VR φ q.2 (act.tmps.getD q.1 undef)) (hj : ∀ v, VR φ j v → v = n64 n) : LoT y n act := by
  have a3 := hq (3, .ptr (some ⟨.sym 5, 0⟩)) (by simp [lyT])
  have a4 := hq (4, .sym 90) (by simp [lyT])
  have a5 := hq (5, .ptr (some ⟨.sym 6, 0⟩)) (by simp [lyT])
  have a6 := hq (6, j) (by simp [lyT])
  simp only [VR, AR, hφ] at a3 a4 a5
  obtain ⟨_, _, ⟨rfl, rfl⟩, a3⟩ := a3
  obtain ⟨_, _, ⟨rfl, rfl⟩, a5⟩ := a5
  exact ⟨hsz, hd, a3, a4, a5, hj _ a6⟩
theorem ou_s {φ : Phi} (hφ : φ.ρ = ourho y e id) {k : Nat} {n : Int} (h : ouint y.G e id k = n) : ∀ v, VR φ (si k) v → v = n64 n := fun v hv => by
  simp only [si, VR, hφ] at hv
  rw [hv]
  show Value.int .i64 (ouint y.G e id k) = _
  rw [h]
  rfl
set_option maxRecDepth 4000 in
/-- A round where nothing acts. -/
theorem ou_round0 (hM : LyM y w0 w1 w) (h : e.OK id w) (hg : e.g = y.G) (hp : e.p = y.p) (hid : id = (e.bi : Int) + 1) (hle : id ≤ (y.G.os.length : Int)) (hall : e.all = [])
    {c : Code} {K : List Fr1} (hc : ctx 0 lybody 0 [] = some (c, K)) (hat : At1 lybody (.loop c) 0 K) (hko : KOK lybody K) (ha : LoT y id act)
    (hgo : ∀ act' w', LoT y (id + 1) act' → WK w w' → (∀ k, k < w.heap.size → w'.heap[k]? = w.heap[k]?) → HD 0 act' w' ∧ ∀ c' K', ctx 0 lybody 0 [] = some (c', K') → (Code.loop c').wpIn (Fr none) 0 Try.prog (postK Try.prog HD Q K') act' w') :
    c.wpIn (Fr none) 0 Try.prog (postK Try.prog HD Q (.lp c 0 :: K)) act w := by
  letI : Ext := extKA Try.prog (lynil e.b.card) []
  have hno := hM.pls.ok.no
  obtain ⟨a, H, hseg, hkeep⟩ := lyhd_of (lyr0_at ⟨h.c0, h.c3⟩)
  unfold lyr0 at hseg
  rw [hc] at hseg
  simp only at hseg
  have hx : (extKA Try.prog (lynil e.b.card) []).ok (ourho y e id) w := ⟨fun x hx => by
    simp only [lynil, List.mem_cons, List.not_mem_nil, or_false] at hx
    rcases hx with rfl | rfl
    · exact ou_of0 h hg hp hall
    · exact ou_nil h hg hp hall, fun x hx => by cases hx⟩
  refine plain_part (X := extKA Try.prog (lynil e.b.card) []) (ρ := ourho y e id) (hrcK2 (noNG_of noNG) mixed) nt5 hat.loop.2 hko hseg (ou_tr ha) (ou_env hx hM h hg hp hid hle) (fun r => rfl) ha.sz ha.df (fun k h => h) fun act' w' φ b => ?_
  refine hgo act' w' (ou_back b.rho b.sz b.df (keepL_VR b.tr hkeep) fun v hv => ?_) b.wk fun k hk => b.same k hk (fun h => h)
  refine ou_s b.rho ?_ v hv
  show w64 (id + 1) = _
  rw [w64_same (by omega)]
set_option maxRecDepth 4000 in
/-- A round where some act: to the inner loop. -/
theorem ou_round1 (hM : LyM y w0 w1 w) (h : e.OK id w) (hg : e.g = y.G) (hp : e.p = y.p) (hid : id = (e.bi : Int) + 1) (hle : id ≤ (y.G.os.length : Int)) (hall : e.all ≠ [])
    {c : Code} {K : List Fr1} (hc : ctx 0 lybody 0 [] = some (c, K)) (hat : At1 lybody (.loop c) 0 K) (hko : KOK lybody K) (ha : LoT y id act)
    (hgo : ∀ act' w' (f : FoIn) (b8 o8 : Nat), f.l = e.all → f.OK w' → CellsAt w' b8 o8 (num3 (foldN e.base e.all)) → LiT y id f b8 o8 0 e.base act' → WK w w' → (∀ k, k < w.heap.size → w'.heap[k]? = w.heap[k]?) → HD 1 act' w' ∧ ∀ c' K', ctx 1 lybody 0 [] = some (c', K') → (Code.loop c').wpIn (Fr none) 0 Try.prog (postK Try.prog HD Q K') act' w') :
    c.wpIn (Fr none) 0 Try.prog (postK Try.prog HD Q (.lp c 0 :: K)) act w := by
  letI : Ext := extKA Try.prog lylist [lyK2]
  have h2 : e.b.card ≠ 2 := fun h2 => hall (by unfold EfG.all; rw [if_pos h2])
  have hno := hM.pls.ok.no
  obtain ⟨a, H, g, et, hseg, hkeep, hl0, hl2⟩ := lyhd2_of (lyr1_at ⟨h.c0, h.c3⟩ h2)
  unfold lyr1 lyseg at hseg
  rw [hc] at hseg
  simp only at hseg
  have hx : (extKA Try.prog lylist [lyK2]).ok (ourho y e id) w := ⟨fun x hx => by
    simp only [lylist, List.mem_singleton] at hx
    subst hx
    exact ou_of1 h hg hp h2, fun x hx => by
    simp only [List.mem_singleton] at hx
    subst hx
    exact ou_list h hg hp hall⟩
  refine plain_part (X := extKA Try.prog lylist [lyK2]) (ρ := ourho y e id) (hrcK2 (noNG_of noNG) mixed) nt5 hat.loop.2 hko hseg (ou_tr ha) (ou_env hx hM h hg hp hid hle) (fun r => rfl) ha.sz ha.df (fun k h => h) fun act' w' φ b => ?_
  have hq := keepL_VR b.tr hkeep
  obtain ⟨inf0, q1, q2, q3⟩ := b.sim.cellsAt hl0
  obtain ⟨inf, o', r1, r2, r3, _⟩ := b.sim.live 2 _ hl2
  have hn : (φ.ρ.int 158).toNat = e.all.length := by
    rw [b.rho]
    show ((e.all.length : Nat) : Int).toNat = _
    omega
  have hf := list_fo (R := e.all) r2 r3 (by rw [b.rho]; rfl) (by have := all_len h; omega) (all_fit h)
  have sh : ∀ {l : List (Nat × VV)}, lyIn e.b.card = l → ∀ q ∈ l, VR φ q.2 (act'.tmps.getD q.1 undef) := fun hl => by rw [← hl]; exact hq
  have fin : ∀ {x1 x2 x3 : Int}, lyIn e.b.card = [(7, .ptr (some ⟨.loc 0, 0⟩)), (8, .bool true), (10, .lsl 2 158 0), (11, i8 x1), (12, i8 x2), (13, i8 x3), (14, i8 0)] ++ lyT (si 3) → e.base = ⟨x1, x2, x3⟩ → LiT y id ⟨e.all, some ⟨inf.blk, inf.off, none⟩, e.all.length + inf.slack, inf.blk, inf.off⟩ inf0.blk inf0.off 0 e.base act' := by
    intro x1 x2 x3 hl hb
    have hq := sh hl
    have a7 := hq (7, .ptr (some ⟨.loc 0, 0⟩)) (by simp)
    have a8 := hq (8, .bool true) (by simp)
    have a10 := hq (10, .lsl 2 158 0) (by simp)
    have a11 := hq (11, i8 x1) (by simp)
    have a12 := hq (12, i8 x2) (by simp)
    have a13 := hq (13, i8 x3) (by simp)
    have a14 := hq (14, i8 0) (by simp)
    simp only [VR, AR] at a7 a8 a10
    obtain ⟨_, _, ⟨jnf, j1, rfl, rfl⟩, a7⟩ := a7
    rw [q1] at j1
    cases j1
    obtain ⟨jnf, j1, a10⟩ := a10
    rw [r1] at j1
    cases j1
    rw [hn] at a10
    rw [hb]
    exact ⟨ou_back b.rho b.sz b.df (fun q hq' => hq q (List.mem_append_right _ hq')) (ou_s b.rho rfl), a7, a8, a10, i8V a11, i8V a12, i8V a13, i8V a14⟩
  refine hgo act' w' _ inf0.blk inf0.off rfl hf ⟨q2, fun j v hj => ?_⟩ ?_ b.wk fun k hk => b.same k hk (fun h => h)
  · have cell : ∀ {j k : Nat}, [si 176, si 177, si 178][j]? = some (si k) → w'.cell? ⟨inf0.blk, inf0.off + j, none⟩ = some (n64 (ouint y.G e id k)) := fun {j k} hj => by
      obtain ⟨v, v1, v2⟩ := q3 j _ hj
      rw [v1, ou_s b.rho rfl v v2]
    unfold num3 at hj
    match j with
    | 0 => cases hj; exact cell (k := 176) rfl
    | 1 => cases hj; exact cell (k := 177) rfl
    | 2 => cases hj; exact cell (k := 178) rfl
    | j + 3 => simp at hj
  · have hc0 := h.c0
    have hc3 := h.c3
    obtain hh | hh | hh : e.b.card = 0 ∨ e.b.card = 1 ∨ e.b.card = 3 := by omega
    · exact fin (x1 := 2) (x2 := 2) (x3 := 0) (by rw [hh]; rfl) (by unfold EfG.base; rw [if_neg (by omega)]; rfl)
    · exact fin (x1 := 2) (x2 := 2) (x3 := 0) (by rw [hh]; rfl) (by unfold EfG.base; rw [if_neg (by omega)]; rfl)
    · exact fin (x1 := 1) (x2 := 1) (x3 := 4) (by rw [hh]; rfl) (by unfold EfG.base; rw [if_pos hh]; rfl)
end
end
end Go.Proofs.Ytgbhmkdldfhamaa.layers
