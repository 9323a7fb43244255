/-
  The order that insertion sort tells: sorted; what is unlike may come in any order.
-/
import Derived.Test.YtgbhmkdldfhamaaTxE
import Derived.Test.YtgbhmkdldfhamaaTxF
import Derived.Test.YtgbhmkdldfhamaaEvQe
namespace Go.Proofs.Ytgbhmkdldfhamaa.order
open Go.Ev Go.RowKit
set_option linter.unusedVariables false
noncomputable section
/-! ### insertion, from behind -/
def ins (x : Eff) : List Eff → List Eff
  | [] => [x]
  | y :: r => if cmpE x y < 0 then y :: ins x r else x :: y :: r
theorem ins_len (x : Eff) : ∀ r, (ins x r).length = r.length + 1
  | [] => rfl
  | y :: r => by
    unfold ins
    split
    · simp [ins_len x r]
    · rfl
theorem getD_app {α : Type} {l r : List α} {d : α} {k : Nat} (h : l.length = k) (j : Nat) : (l ++ r).getD (k + j) d = r.getD j d := by
  subst h
  rw [List.getD_eq_getElem?_getD, List.getD_eq_getElem?_getD, List.getElem?_append_right (by omega), Nat.add_sub_cancel_left]
theorem set_app {α : Type} {l r : List α} {k : Nat} (h : l.length = k) (j : Nat) (x : α) : (l ++ r).set (k + j) x = l ++ r.set j x := by
  subst h
  rw [List.set_append_right _ _ (by omega), Nat.add_sub_cancel_left]
theorem bub_ins (x : Eff) : ∀ (r suf : List Eff), bub r.length (r.reverse ++ x :: suf) = (ins x r).reverse ++ suf
  | [], suf => rfl
  | y :: r, suf => by
    have hl : r.reverse.length = r.length := List.length_reverse
    have e0 : (y :: r).reverse ++ x :: suf = r.reverse ++ (y :: x :: suf) := by simp
    rw [e0, List.length_cons]
    have g0 : (r.reverse ++ (y :: x :: suf)).getD r.length eff0 = y := getD_app hl 0
    have g1 : (r.reverse ++ (y :: x :: suf)).getD (r.length + 1) eff0 = x := getD_app hl 1
    unfold ins
    by_cases h : cmpE x y < 0
    · rw [if_pos h, bub_lt (by rw [g0, g1]; exact h), swp, g0, g1]
      have s0 : (r.reverse ++ (y :: x :: suf)).set r.length x = r.reverse ++ (x :: x :: suf) := set_app hl 0 x
      have s1 : (r.reverse ++ (x :: x :: suf)).set (r.length + 1) y = r.reverse ++ (x :: y :: suf) := set_app hl 1 y
      rw [s0, s1, bub_ins x r (y :: suf)]
      simp
    · rw [if_neg h, bub_ge (by rw [g0, g1]; exact h)]
      simp
theorem outer_ins : ∀ (suf r : List Eff) (m : Nat), m = suf.length → outer m r.length (r.reverse ++ suf) = (suf.foldl (fun r x => ins x r) r).reverse
  | [], r, m, h => by
    subst h
    simp [outer]
  | x :: suf, r, m, h => by
    subst h
    show outer suf.length (r.length + 1) (bub r.length (r.reverse ++ x :: suf)) = _
    rw [bub_ins, ← ins_len x r]
    exact outer_ins suf (ins x r) _ rfl
theorem isort_ins : ∀ l : List Eff, isort l = (l.foldl (fun r x => ins x r) []).reverse
  | [] => rfl
  | x :: l => by
    show outer ((x :: l).length - 1) 1 (x :: l) = _
    have := outer_ins l [x] ((x :: l).length - 1) (by simp)
    simpa [ins] using this
/-! ### the order -/
def leE (a b : Eff) : Prop := lay a.op < lay b.op ∨ (lay a.op = lay b.op ∧ a.st ≤ b.st)
theorem cmp_lt {a b : Eff} : cmpE a b < 0 ↔ (lay a.op < lay b.op ∨ (lay a.op = lay b.op ∧ a.st < b.st)) := by
  unfold cmpE
  by_cases h : lay a.op = lay b.op
  · rw [if_pos h]
    by_cases h1 : a.st < b.st
    · rw [if_pos h1]; omega
    · rw [if_neg h1]
      split <;> omega
  · rw [if_neg h]
    omega
theorem leE_trans {a b c : Eff} (h : leE a b) (k : leE b c) : leE a c := by
  unfold leE at *
  omega
/-- What was put in last is the greatest of those it passed. -/
theorem ins_sorted {x : Eff} : ∀ {r : List Eff}, r.Pairwise (fun a b => leE b a) → (ins x r).Pairwise (fun a b => leE b a) ∧ ∀ y ∈ ins x r, y = x ∨ y ∈ r
  | [], _ => ⟨List.pairwise_singleton _ _, fun y hy => by simpa [ins] using hy⟩
  | z :: r, h => by
    obtain ⟨h1, h2⟩ := List.pairwise_cons.1 h
    unfold ins
    by_cases hc : cmpE x z < 0
    · rw [if_pos hc]
      obtain ⟨k1, k2⟩ := ins_sorted (x := x) h2
      refine ⟨List.pairwise_cons.2 ⟨fun y hy => ?_, k1⟩, fun y hy => ?_⟩
      · rcases k2 y hy with rfl | hy
        · have := cmp_lt.1 hc
          unfold leE
          omega
        · exact h1 y hy
      · rcases List.mem_cons.1 hy with rfl | hy
        · exact .inr List.mem_cons_self
        · rcases k2 y hy with e | hy
          · exact .inl e
          · exact .inr (List.mem_cons_of_mem _ hy)
    · rw [if_neg hc]
      have hz : leE z x := by
        rw [cmp_lt] at hc
        unfold leE
        omega
      refine ⟨List.pairwise_cons.2 ⟨fun y hy => ?_, h⟩, fun y hy => ?_⟩
      · rcases List.mem_cons.1 hy with rfl | hy
        · exact hz
        · exact leE_trans (h1 y hy) hz
      · rcases List.mem_cons.1 hy with e | hy
        · exact .inl e
        · exact .inr hy
theorem foldl_ins_sorted : ∀ (l r : List Eff), r.Pairwise (fun a b => leE b a) → (l.foldl (fun r x => ins x r) r).Pairwise (fun a b => leE b a) ∧ ∀ y ∈ l.foldl (fun r x => ins x r) r, y ∈ l ∨ y ∈ r
  | [], r, h => ⟨h, fun y hy => .inr hy⟩
  | x :: l, r, h => by
    obtain ⟨k1, k2⟩ := ins_sorted (x := x) h
    obtain ⟨g1, g2⟩ := foldl_ins_sorted l (ins x r) k1
    refine ⟨g1, fun y hy => ?_⟩
    rcases g2 y hy with hy | hy
    · exact .inl (List.mem_cons_of_mem _ hy)
    · rcases k2 y hy with rfl | hy
      · exact .inl List.mem_cons_self
      · exact .inr hy
theorem isort_mem {l : List Eff} {x : Eff} (h : x ∈ isort l) : x ∈ l := by
  rw [isort_ins, List.mem_reverse] at h
  rcases (foldl_ins_sorted l [] List.Pairwise.nil).2 x h with h | h
  · exact h
  · cases h
/-! ### what is unlike, in any order -/
def unlike (x y : Eff) : Prop := x.st ≠ y.st
theorem ins_comm {x y : Eff} (h : unlike x y) : ∀ r : List Eff, ins x (ins y r) = ins y (ins x r)
  | [] => by
    unfold unlike at h
    simp only [ins]
    by_cases h1 : cmpE x y < 0
    · have h2 : ¬ cmpE y x < 0 := by rw [cmp_lt] at h1 ⊢; omega
      rw [if_pos h1, if_neg h2]
    · have h2 : cmpE y x < 0 := by rw [cmp_lt] at h1 ⊢; omega
      rw [if_neg h1, if_pos h2]
  | z :: r => by
    have hu := h
    unfold unlike at h
    by_cases hx : cmpE x z < 0
    · by_cases hy : cmpE y z < 0
      · simp only [ins, if_pos hx, if_pos hy]
        rw [ins_comm hu r]
      · have hxy : cmpE x y < 0 := by rw [cmp_lt] at hx hy ⊢; omega
        simp only [ins, if_pos hx, if_neg hy, if_pos hxy]
    · by_cases hy : cmpE y z < 0
      · have hyx : cmpE y x < 0 := by rw [cmp_lt] at hx hy ⊢; omega
        simp only [ins, if_neg hx, if_pos hy, if_pos hyx]
      · by_cases h1 : cmpE x y < 0
        · have h2 : ¬ cmpE y x < 0 := by rw [cmp_lt] at h1 ⊢; omega
          simp only [ins, if_neg hx, if_neg hy, if_pos h1, if_neg h2]
        · have h2 : cmpE y x < 0 := by rw [cmp_lt] at h1 ⊢; omega
          simp only [ins, if_neg hx, if_neg hy, if_neg h1, if_pos h2]
theorem insL_comm1 {x : Eff} : ∀ (l r : List Eff), (∀ y ∈ l, unlike x y) → l.foldl (fun r x => ins x r) (ins x r) = ins x (l.foldl (fun r x => ins x r) r)
  | [], r, _ => rfl
  | y :: l, r, h => by
    show l.foldl _ (ins y (ins x r)) = ins x (l.foldl _ (ins y r))
    rw [← ins_comm (h y List.mem_cons_self)]
    exact insL_comm1 l (ins y r) fun z hz => h z (List.mem_cons_of_mem _ hz)
theorem insL_comm : ∀ (a b r : List Eff), (∀ x ∈ a, ∀ y ∈ b, unlike x y) → b.foldl (fun r x => ins x r) (a.foldl (fun r x => ins x r) r) = a.foldl (fun r x => ins x r) (b.foldl (fun r x => ins x r) r)
  | [], b, r, _ => rfl
  | x :: a, b, r, h => by
    show b.foldl _ (a.foldl _ (ins x r)) = a.foldl _ (ins x (b.foldl _ r))
    rw [insL_comm a b (ins x r) fun y hy => h y (List.mem_cons_of_mem _ hy), insL_comm1 b r (h x List.mem_cons_self)]
/-- A field in another order: what is told by number is the same, where no two tell alike stamps. -/
theorem fold_perm {f : Int → List Eff} {l l' : List Int} (hp : l.Perm l') : (∀ m ∈ l, ∀ n ∈ l, m ≠ n → ∀ x ∈ f m, ∀ y ∈ f n, unlike x y) → ∀ r : List Eff, (l.flatMap f).foldl (fun r x => ins x r) r = (l'.flatMap f).foldl (fun r x => ins x r) r := by
  induction hp with
  | nil => exact fun _ r => rfl
  | cons n hp ih =>
    intro h r
    rw [List.flatMap_cons, List.flatMap_cons, List.foldl_append, List.foldl_append]
    exact ih (fun a ha b hb => h a (List.mem_cons_of_mem _ ha) b (List.mem_cons_of_mem _ hb)) _
  | swap m n l =>
    intro h r
    rw [List.flatMap_cons, List.flatMap_cons, List.flatMap_cons, List.flatMap_cons, List.foldl_append, List.foldl_append, List.foldl_append, List.foldl_append]
    by_cases e : m = n
    · subst e
      rfl
    · rw [insL_comm (f n) (f m) r fun x hx y hy => h n List.mem_cons_self m (List.mem_cons_of_mem _ List.mem_cons_self) (fun h => e h.symm) x hx y hy]
  | trans h1 h2 ih1 ih2 =>
    intro h r
    rw [ih1 h r]
    exact ih2 (fun a ha b hb => h a (h1.mem_iff.2 ha) b (h1.mem_iff.2 hb)) r
theorem isort_perm {f : Int → List Eff} {l l' : List Int} {t : List Eff} (hp : l.Perm l') (h : ∀ m ∈ l, ∀ n ∈ l, m ≠ n → ∀ x ∈ f m, ∀ y ∈ f n, unlike x y) : isort (l.flatMap f ++ t) = isort (l'.flatMap f ++ t) := by
  rw [isort_ins, isort_ins, List.foldl_append, List.foldl_append, fold_perm hp h]
/-! ### small numbers -/
def SmallE (e : Eff) : Prop := -4 ≤ e.a ∧ e.a ≤ 4 ∧ -4 ≤ e.b ∧ e.b ≤ 4
theorem w64_same {n : Int} (h : -9223372036854775808 ≤ n ∧ n ≤ 9223372036854775807) : w64 n = n := by
  unfold w64
  rw [IntKind.wrap_i64]
  omega
end
end Go.Proofs.Ytgbhmkdldfhamaa.order
namespace Go.Proofs.Ytgbhmkdldfhamaa.order
open Go.Ev Go.RowKit
set_option linter.unusedVariables false
noncomputable section
/-! ### the first place -/
theorem fixI_at {α : Type} {p : α → Bool} : ∀ {l : List α} {i k : Nat}, (∀ j x, j < k → l[j]? = some x → p x = false) → (∃ x, l[k]? = some x ∧ p x = true) → fixI p i l = (i : Int) + k
  | [], i, k, _, ⟨x, hx, _⟩ => by simp at hx
  | y :: l, i, 0, _, ⟨x, hx, hp⟩ => by
    simp only [List.getElem?_cons_zero, Option.some.injEq] at hx
    subst hx
    unfold fixI
    rw [if_pos hp]
    omega
  | y :: l, i, k + 1, h, ⟨x, hx, hp⟩ => by
    unfold fixI
    rw [if_neg (by rw [h 0 y (by omega) rfl]; exact Bool.false_ne_true), fixI_at (k := k) (fun j x hj hx => h (j + 1) x (by omega) (by simpa using hx)) ⟨x, by simpa using hx, hp⟩]
    omega
theorem fixI_some {α : Type} {p : α → Bool} : ∀ {l : List α} {i : Nat}, 0 ≤ fixI p i l → ∃ (k : Nat) (x : α), l[k]? = some x ∧ p x = true ∧ fixI p i l = (i : Int) + k
  | [], i, h => by simp [fixI] at h
  | y :: l, i, h => by
    unfold fixI at h ⊢
    by_cases hp : p y = true
    · rw [if_pos hp]
      exact ⟨0, y, rfl, hp, by omega⟩
    · rw [if_neg hp] at h ⊢
      obtain ⟨k, x, h1, h2, h3⟩ := fixI_some h
      exact ⟨k + 1, x, by simpa using h1, h2, by rw [h3]; omega⟩
theorem fixI_mem {α : Type} {p : α → Bool} {x : α} (hp : p x = true) : ∀ {l : List α} {i : Nat}, x ∈ l → 0 ≤ fixI p i l
  | [], i, h => by cases h
  | y :: l, i, h => by
    unfold fixI
    split
    · omega
    · rename_i hn
      rcases List.mem_cons.1 h with rfl | h
      · exact absurd hp hn
      · exact fixI_mem hp h
/-! ### what acts -/
def effsOf (x : Int) (k : Nat) : List Eff := if x / 8 % 2 = 1 then [⟨1 + x / 16 % 4, x / 64, 1, 20 + (k : Int)⟩] else []
theorem spec_in {c i j x y : Int} {s : Sp} (h : s ∈ spec c i j x y) : s = (4, 1, 1) ∨ s = (3, 0, 1) ∨ s = (1, 1, 0) ∨ s = (2, 4, 0) := by
  unfold spec at h
  by_cases h1 : c = 1
  · rw [if_pos h1] at h
    split at h
    · simp only [List.mem_singleton] at h; exact .inl h
    · cases h
  rw [if_neg h1] at h
  by_cases h2 : c = 2
  · rw [if_pos h2] at h
    simp only [List.mem_singleton] at h
    exact .inr (.inl h)
  rw [if_neg h2] at h
  by_cases h3 : c = 3
  · rw [if_pos h3] at h
    rcases List.mem_append.1 h with h | h
    · split at h
      · simp only [List.mem_singleton] at h; exact .inr (.inr (.inl h))
      · cases h
    · split at h
      · simp only [List.mem_singleton] at h; exact .inr (.inr (.inr h))
      · cases h
  · rw [if_neg h3] at h
    cases h
theorem spec_len {c i j x y : Int} : (spec c i j x y).length ≤ 1 + (if i = j then 1 else 0) := by
  unfold spec
  split
  · split <;> simp
  split
  · simp
  split
  · by_cases h : i = j
    · rw [if_pos h, if_pos h]
      split <;> simp
    · rw [if_neg h, if_neg h]
      split <;> simp
  · simp
def Ok4 (y : Eff) : Prop := SmallE y ∧ 1 ≤ y.op ∧ y.op ≤ 4
theorem acts_ok {G : StG} {b : Ob} {n : Int} {y : Eff} (h : y ∈ G.acts b n) : Ok4 y ∧ y.st = (G.ob (G.find n).toNat).st ∧ 0 ≤ G.find n := by
  unfold StG.acts at h
  split at h
  · cases h
  rename_i hf
  unfold actsOf at h
  obtain ⟨s, hs, rfl⟩ := List.mem_map.1 h
  refine ⟨?_, rfl, by omega⟩
  unfold Ok4 SmallE
  rcases spec_in hs with rfl | rfl | rfl | rfl <;> (dsimp only; exact ⟨⟨by decide, by decide, by decide, by decide⟩, by decide, by decide⟩)
theorem find_id {G : StG} {n : Int} (h : 0 ≤ G.find n) : ∃ k : Nat, G.find n = k ∧ k < G.os.length ∧ (G.ob k).id = n := by
  obtain ⟨k, x, h1, h2, h3⟩ := fixI_some h
  refine ⟨k, by unfold StG.find; rw [h3]; omega, (List.getElem?_eq_some_iff.1 h1).1, ?_⟩
  unfold StG.ob
  rw [List.getD_eq_getElem?_getD, h1]
  unfold hasId at h2
  exact of_decide_eq_true h2
theorem acts_len {G : StG} {b : Ob} {n : Int} : (G.acts b n).length ≤ 1 + (if n = b.id then 1 else 0) := by
  unfold StG.acts
  split
  · simp
  rename_i hf
  obtain ⟨k, h1, h2, h3⟩ := find_id (G := G) (n := n) (by omega)
  unfold actsOf
  rw [List.length_map, h1]
  have := spec_len (c := (G.ob k).card) (i := (G.ob k).id) (j := b.id) (x := (G.ob k).ctrl) (y := b.ctrl)
  rw [h3] at this
  simp only [Int.toNat_natCast, h3]
  exact this
theorem coll_len {G : StG} {b : Ob} : ∀ l : List Int, (G.coll b l).length ≤ l.length + l.count b.id
  | [] => by simp [StG.coll]
  | n :: l => by
    have h1 := coll_len (G := G) (b := b) l
    have h2 := acts_len (G := G) (b := b) (n := n)
    unfold StG.coll at h1 ⊢
    rw [List.flatMap_cons, List.length_append, List.length_cons, List.count_cons]
    by_cases e : n = b.id
    · subst e
      rw [if_pos rfl] at h2
      simp only [beq_self_eq_true, if_true]
      omega
    · rw [if_neg e] at h2
      rw [if_neg (by simpa using e)]
      omega
theorem coll_nodup {G : StG} {b : Ob} {l : List Int} (h : l.Nodup) (hl : l.length ≤ 16) : (G.coll b l).length ≤ 17 := by
  have h1 := coll_len (G := G) (b := b) l
  have h2 := List.nodup_iff_count.1 h b.id
  omega
/-! ### a beast -/
theorem ef_of {G : StG} {p : PoG} {w w1 : World} {k : Nat} {x : Int} (hG : G.OK w) (hp : p.OK w) (hk : k < G.os.length) (hk10 : k < 1000) (hf : G.find ((k : Int) + 1) = k) (hh : 0 ≤ G.has ((k : Int) + 1)) (hx : 0 ≤ x ∧ x ≤ 255) (hc : (G.ob k).card = x % 4) (he : EfS w1 G x k (G.ob k).eff w) (hn : G.fs.Nodup) (hl : G.fs.length ≤ 16) :
    ∃ e : EfG, e.g = G ∧ e.p = p ∧ e.bi = k ∧ e.effs = effsOf x k ∧ e.OK ((k : Int) + 1) w := by
  have fit : ∀ y ∈ effsOf x k, y.Fit ∧ 1 ≤ y.op ∧ y.op ≤ 4 := fun y hy => by
    unfold effsOf at hy
    split at hy
    · simp only [List.mem_singleton] at hy
      subst hy
      exact ⟨⟨⟨by dsimp only; omega, by dsimp only; omega⟩, ⟨by dsimp only; omega, by dsimp only; omega⟩, ⟨by dsimp only; omega, by dsimp only; omega⟩, ⟨by dsimp only; omega, by dsimp only; omega⟩⟩, by dsimp only; omega, by dsimp only; omega⟩
    · cases hy
  rcases he with ⟨h1, h2⟩ | ⟨h1, B, O, h2, h3, h4, h5, h6⟩
  · have ee : effsOf x k = [] := by unfold effsOf; rw [if_neg h1]
    refine ⟨⟨G, p, k, effsOf x k, 0, 0⟩, rfl, rfl, rfl, rfl, hG, hp, hk, hf, hh, ⟨by omega, by omega⟩, ?_, ?_, ?_, fun y hy => (fit y hy).2, fun y hy => (fit y hy).1, ?_, fun y hy => ?_, coll_nodup hn hl⟩
    · show 0 ≤ (G.ob k).card
      omega
    · show (G.ob k).card ≤ 3
      omega
    · show (effsOf x k).length ≤ 1
      rw [ee]; simp
    · show (G.ob k).eff = _
      rw [h2]
      simp only [ee]
    · have hy' : (effsOf x k)[0]? = some y := hy
      rw [ee] at hy'
      cases hy'
  · have ee : effsOf x k = [⟨1 + x / 16 % 4, x / 64, 1, 20 + (k : Int)⟩] := by unfold effsOf; rw [if_pos h1]
    refine ⟨⟨G, p, k, effsOf x k, B, O⟩, rfl, rfl, rfl, rfl, hG, hp, hk, hf, hh, ⟨by omega, by omega⟩, ?_, ?_, ?_, fun y hy => (fit y hy).2, fun y hy => (fit y hy).1, ?_, fun y hy => ?_, coll_nodup hn hl⟩
    · show 0 ≤ (G.ob k).card
      omega
    · show (G.ob k).card ≤ 3
      omega
    · show (effsOf x k).length ≤ 1
      rw [ee]; simp
    · show (G.ob k).eff = _
      rw [h2]
      simp only [ee]
    · have hy' : (effsOf x k)[0]? = some y := hy
      rw [ee] at hy'
      cases hy'
      exact h6
/-! ### of a field that was laid -/
section
variable {w w1 w' : World} {g : PlIn} {G : StG} {p : PoG}
theorem PlS.m10 (h : PlS g w1 G w) : g.m ≤ 10 := m_10
theorem PlS.obk (h : PlS g w1 G w) {k : Nat} {x : Ob} (hx : G.os[k]? = some x) : k < g.m ∧ x.id = (k : Int) + 1 := by
  have hk : k < g.m := by
    rw [← h.no]
    exact (List.getElem?_eq_some_iff.1 hx).1
  refine ⟨hk, ?_⟩
  have := (h.ob k hk).1
  unfold StG.ob at this
  rw [List.getD_eq_getElem?_getD, hx] at this
  exact this
theorem PlS.find (h : PlS g w1 G w) {k : Nat} (hk : k < g.m) : G.find ((k : Int) + 1) = k := by
  have hk' : k < G.os.length := by rw [h.no]; exact hk
  have := fixI_at (p := hasId ((k : Int) + 1)) (l := G.os) (i := 0) (k := k) (fun j x hj hx => by
    unfold hasId
    rw [(h.obk hx).2]
    exact decide_eq_false (by omega)) ⟨_, List.getElem?_eq_getElem hk', by
      unfold hasId
      rw [(h.obk (List.getElem?_eq_getElem hk')).2]
      exact decide_eq_true rfl⟩
  unfold StG.find
  rw [this]
  omega
theorem PlS.fsl (h : PlS g w1 G w) : G.fs.length = g.m := by rw [h.fs]; simp
theorem PlS.mem (h : PlS g w1 G w) {k : Nat} (hk : k < g.m) : (k : Int) + 1 ∈ G.fs := by
  rw [h.fs, List.mem_map]
  exact ⟨k, List.mem_range.2 hk, rfl⟩
theorem PlS.nodup (h : PlS g w1 G w) : G.fs.Nodup := by
  rw [h.fs, List.Nodup, List.pairwise_map]
  exact List.nodup_range.imp fun hab he => hab (by omega)
theorem has_mem {G : StG} {n : Int} (h : n ∈ G.fs) : 0 ≤ G.has n := fixI_mem (p := isN n) (x := n) (decide_eq_true rfl) h
theorem PlS.ef_at (h : PlS g w1 G w) (hg : ∀ k, 0 ≤ g.x k ∧ g.x k ≤ 255) (hp : p.OK w) {k : Nat} (hk : k < g.m) : ∃ e : EfG, e.g = G ∧ e.p = p ∧ e.bi = k ∧ e.effs = effsOf (g.x k) k ∧ e.OK ((k : Int) + 1) w := by
  have h10 := h.m10
  exact ef_of h.ok hp (by rw [h.no]; exact hk) (by omega) (h.find hk) (has_mem (h.mem hk)) (hg k) (h.ob k hk).2.1 (h.ef k hk) h.nodup (by rw [h.fsl]; omega)
theorem EfS.later {x : Int} {k : Nat} {v : Value} (h : EfS w1 G x k v w) (hs : w.heap.size ≤ w'.heap.size) (hb : ∀ k, k < w.heap.size → w'.heap[k]? = w.heap[k]?) : EfS w1 G x k v w' := by
  rcases h with h | ⟨h1, B, O, h2, h3, h4, h5, h6⟩
  · exact .inl h
  · exact .inr ⟨h1, B, O, h2, h3, h4, h5, h6.later hs hb⟩
theorem PlS.later (h : PlS g w1 G w) (hs : w.heap.size ≤ w'.heap.size) (hb : ∀ k, k < w.heap.size → w'.heap[k]? = w.heap[k]?) : PlS g w1 G w' :=
  ⟨h.ok.later hs hb, h.no, h.fs, h.ob, fun k hk => (h.ef k hk).later hs hb, h.newO, h.newF, h.ne, h.z, fun h0 => by
    obtain ⟨c, e, fr, r2, r3⟩ := h.roomF h0
    exact ⟨c, e, fr, by rw [hb _ (get_lt r2)]; exact r2, r3⟩, fun h0 => by
    obtain ⟨r1, c, e, fr, r2, r3⟩ := h.room h0
    exact ⟨r1, c, e, fr, by rw [hb _ (get_lt r2)]; exact r2, r3⟩⟩
end
end
end Go.Proofs.Ytgbhmkdldfhamaa.order
namespace Go.Proofs.Ytgbhmkdldfhamaa.order
open Go.Ev Go.RowKit
set_option linter.unusedVariables false
noncomputable section
def lybody : Code := match Try.f5.body with | some c => c | none => .skip
def lyhd (t : Nat) (l : List (Nat × VV)) : Option SegO → Bool
  | some (.cut t' a H) => match Nat.beq t t' with
    | true => keepL a l
    | false => false
  | _ => false
/-! ### a round of the inner loop -/
/-! ### a round of the outer loop -/
def lySt : List VV := match stV with | .agg l => l | _ => []
/-! ### the end -/
/-! ### all of it -/
theorem lyhd_of {t : Nat} {l : List (Nat × VV)} {o : Option SegO} (h : lyhd t l o = true) : ∃ a H, o = some (.cut t a H) ∧ keepL a l = true := by
  unfold lyhd at h
  split at h
  · split at h
    · rename_i hb
      exact ⟨_, _, by rw [Nat.eq_of_beq_eq_true hb], h⟩
    · cases h
  · cases h
end
end Go.Proofs.Ytgbhmkdldfhamaa.order
namespace Go.Proofs.Ytgbhmkdldfhamaa.order
open Go.Ev Go.RowKit
set_option linter.unusedVariables false
noncomputable section
/-! ### facts -/
section
variable {ρ : Rho} {k : IntKind} {x y : VV} {a b : Int} {r : Bool}
theorem fact_lssG (hx : sval ρ x = some (.int k a)) (hy : sval ρ y = some (.int k b)) (h : decide (a < b) = r) : FactOK ρ (.bin .lss x y (.bool r)) := by
  refine ⟨_, _, _, hx, hy, rfl, by simp, by simp, fun P t w => ?_⟩
  simp [binOp, Op.intCmp, h]
theorem fact_gtrG (hx : sval ρ x = some (.int k a)) (hy : sval ρ y = some (.int k b)) (h : decide (a > b) = r) : FactOK ρ (.bin .gtr x y (.bool r)) := by
  refine ⟨_, _, _, hx, hy, rfl, by simp, by simp, fun P t w => ?_⟩
  subst h
  simp [binOp, Op.intCmp]
theorem fact_leqG (hx : sval ρ x = some (.int k a)) (hy : sval ρ y = some (.int k b)) (h : decide (a ≤ b) = r) : FactOK ρ (.bin .leq x y (.bool r)) := by
  refine ⟨_, _, _, hx, hy, rfl, by simp, by simp, fun P t w => ?_⟩
  subst h
  simp [binOp, Op.intCmp]
theorem fact_addG {j : Nat} (hx : sval ρ x = some (.int .i64 a)) (hy : sval ρ y = some (.int .i64 b)) (h : ρ.int j = w64 (a + b)) : FactOK ρ (.bin .add x y (si j)) := by
  refine ⟨_, _, _, hx, hy, rfl, by simp, by simp, fun P t w => ?_⟩
  rw [h]
  simp [binOp, Op.intArith, w64]
theorem fact_atG {B O l c size j n : Nat} {i : VV} {o : Option Addr} (hx : sval ρ x = some (.slice o l c)) (ha : o = some ⟨B, O, none⟩) (hi : sval ρ i = some (.int .i64 (n : Int))) (hn : n < l) (hb : ρ.blk j = B) (ho : ρ.off j = O + n * size) : FactOK ρ (.at size x i ⟨.sym j, 0⟩) := by
  subst ha
  exact ⟨⟨B, O, none⟩, l, c, .i64, n, j, hx, rfl, hi, by omega, by omega, rfl, hb, by rw [ho]; rfl⟩
theorem fs_app {f1 f2 : List Fact} (h1 : FsOK f1 ρ) (h2 : FsOK f2 ρ) : FsOK (f1 ++ f2) ρ := fun f hf => (List.mem_append.1 hf).elim (h1 f) (h2 f)
end
/-! ### the state -/
structure LyG where
  g : PlIn
  G : StG
  p : PoG
  b5 : Nat
  o5 : Nat
  b6 : Nat
  o6 : Nat
def cellsV (v : Value) : List Value := match v with | .agg a => a.toList | _ => []
def lay5 : List Value := [n64 0, n64 1, n64 1, n64 2, n64 3]
structure LyM (y : LyG) (w0 w1 w : World) : Prop where
  anc : Anc w0 w
  pls : PlS y.g w1 y.G w
  pok : y.p.OK w
  st : CellsAt w y.b5 y.o5 (cellsV y.G.v)
  ly : CellsAt w y.b6 y.o6 lay5
theorem LyM.later {y : LyG} {w0 w1 w w' : World} (h : LyM y w0 w1 w) (hw : WK w w') (hb : ∀ k, k < w.heap.size → w'.heap[k]? = w.heap[k]?) : LyM y w0 w1 w' :=
  ⟨h.anc.trans ⟨hw, hb⟩, h.pls.later hw.size hb, h.pok.later hw.size hb, h.st.later hw.size hb, h.ly.later hw.size hb⟩
/-! ### symbols of the inner loop -/
section
variable {w0 w1 w : World} {y : LyG} {id : Int} {f : FoIn} {b8 o8 i : Nat} {s : Nums} {act : Act}
theorem el_blk {φ : Phi} (hf : f.OK w) {j : Nat} (hj : j < f.l.length) {o a b c : VV} (ho : VR φ o (n64 (f.at j).op)) (ha : VR φ a (n64 (f.at j).a)) (hb : VR φ b (n64 (f.at j).b)) (hc : VR φ c (n64 (f.at j).st)) : f.B < w.heap.size ∧ ∀ q x, [o, a, b, c][q]? = some x → ∃ v, w.cell? ⟨f.B, f.O + j * 4 + q, none⟩ = some v ∧ VR φ x v := by
  obtain ⟨h1, h2, h3⟩ := hf.cl j _ (at_of hj)
  refine ⟨h2, fun q x hx => ?_⟩
  match q with
  | 0 => cases hx; exact ⟨_, h3 0 (by omega), ho⟩
  | 1 => cases hx; exact ⟨_, h3 1 (by omega), ha⟩
  | 2 => cases hx; exact ⟨_, h3 2 (by omega), hb⟩
  | 3 => cases hx; exact ⟨_, h3 3 (by omega), hc⟩
  | q + 4 => simp at hx
end
end
end Go.Proofs.Ytgbhmkdldfhamaa.order
namespace Go.Proofs.Ytgbhmkdldfhamaa.order
open Go.Ev Go.RowKit
set_option linter.unusedVariables false
noncomputable section
section
variable {w0 w1 w : World} {y : LyG} {id : Int} {f : FoIn} {b8 o8 i : Nat} {s : Nums} {act : Act} {HD : Nat → Act → World → Prop} {Q : Exit → Act → World → Prop}
end
end
end Go.Proofs.Ytgbhmkdldfhamaa.order
namespace Go.Proofs.Ytgbhmkdldfhamaa.order
open Go.Ev Go.RowKit
set_option linter.unusedVariables false
noncomputable section
/-! ### symbols of the outer loop -/
section
variable {w0 w1 w : World} {y : LyG} {id : Int} {e : EfG} {act : Act} {HD : Nat → Act → World → Prop} {Q : Exit → Act → World → Prop}
theorem lySt_VR {φ : Phi} (h : StRho y.G φ.ρ) : VRs φ lySt (cellsV y.G.v) := by
  have := stV_VR h
  unfold stV at this
  rw [VR] at this
  obtain ⟨us, h1, h2⟩ := this
  rw [h2]
  exact h1
end
end
end Go.Proofs.Ytgbhmkdldfhamaa.order
