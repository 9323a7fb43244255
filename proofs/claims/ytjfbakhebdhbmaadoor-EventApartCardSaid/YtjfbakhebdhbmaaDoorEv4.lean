/- Engine, part 4: automata over an index. -/
import Derived.Test.YtjfbakhebdhbmaaDoorEv3
namespace Go.Ev
set_option linter.unusedVariables false
noncomputable section
open Go.RowKit
/-! ### automata over an index -/
def allL (p : Leaf → Bool) : TrX Leaf → Bool
  | .leaf o => p o
  | .cut _ _ l r => match allL p l with
    | true => allL p r
    | false => false
  | .rel _ _ _ l r => match allL p l with
    | true => allL p r
    | false => false
theorem allL_ok {p : Leaf → Bool} {v : Nat → Int} : ∀ {t : TrX Leaf}, allL p t = true → p (valX t v) = true
  | .leaf o, h => h
  | .cut i c l r, h => by
    simp only [allL] at h
    split at h
    · rename_i h1
      simp only [valX]
      split
      · exact allL_ok h1
      · exact allL_ok h
    · cases h
  | .rel k i j l r, h => by
    simp only [allL] at h
    split at h
    · rename_i h1
      simp only [valX]
      split
      · exact allL_ok h1
      · exact allL_ok h
    · cases h
/-- What is less, by a fact. -/
theorem lss_of {ρ : Rho} {k k' : IntKind} {a b : Nat} (P : Program) (w : World) (h : FactOK ρ (.bin .lss (.sint k a) (.sint k' b) (.bool true))) : ρ.int a < ρ.int b := by
  obtain ⟨x, y, v, h1, h2, h3, _, _, h4⟩ := h
  simp only [sval, Option.some.injEq] at h1 h2 h3
  subst h1 h2 h3
  have := h4 P 0 w
  by_cases hk : k = k'
  · subst hk
    simp [binOp, Op.intCmp] at this
    exact this
  · simp [binOp, hk] at this
/-! ### loops that search, loops that gather -/
def allF (g : Nat → Bool) : Nat → Nat → Bool
  | 0, _ => true
  | m + 1, i => g i && allF g m (i + 1)
theorem allF_iff {g : Nat → Bool} : ∀ {m i : Nat}, allF g m i = true ↔ ∀ l, i ≤ l → l < i + m → g l = true
  | 0, i => ⟨fun _ l h1 h2 => by omega, fun _ => rfl⟩
  | m + 1, i => by
    simp only [allF, Bool.and_eq_true, allF_iff (m := m)]
    exact ⟨fun ⟨h1, h2⟩ l h3 h4 => by
      by_cases e : l = i
      · subst e; exact h1
      · exact h2 l (by omega) (by omega), fun h => ⟨h i (Nat.le_refl _) (by omega), fun l h1 h2 => h l (by omega) (by omega)⟩⟩
def isGo : Leaf → Bool
  | .goto _ _ => true
  | _ => false
/-- A leaf goes on in one way, or tells one number. -/
def goOr (q j : Nat) (z : Int) : Leaf → Bool
  | .goto q' xs => match xs with
    | [.sint .i64 k] => match Nat.beq q' q with
      | true => Nat.beq k j
      | false => false
    | _ => false
  | .ret r => match r with
    | .int .i64 y => decide (y = z)
    | _ => false
theorem goOr_ok {q j : Nat} {z : Int} {o : Leaf} (h : goOr q j z o = true) : o = if isGo o = true then .goto q [.sint .i64 j] else .ret (.int .i64 z) := by
  cases o with
  | goto q' xs =>
    simp only [goOr] at h
    split at h
    · split at h
      · rename_i h1
        rw [Nat.eq_of_beq_eq_true h1, Nat.eq_of_beq_eq_true h]
        rfl
      · cases h
    · cases h
  | ret r =>
    simp only [goOr] at h
    split at h
    · rw [of_decide_eq_true h]
      rfl
    · cases h
def AllIv : Ivs → (Nat → Int) → Prop
  | [], _ => True
  | (a, b) :: l, f => (a ≤ f 0 ∧ f 0 ≤ b) ∧ AllIv l fun i => f (i + 1)
theorem iv_all {f : Nat → Int} : ∀ {l : Ivs}, AllIv l f → (∀ i, -9223372036854775808 ≤ f i ∧ f i ≤ 9223372036854775807) → ∀ i, (ivAt l i).1 ≤ f i ∧ f i ≤ (ivAt l i).2
  | [], _, hr => ivs_nil hr
  | (_, _) :: l, h, hr => ivs_cons h.1 (fun i => iv_all (f := fun i => f (i + 1)) h.2 (fun i => hr (i + 1)) i)
/-! ### trees held against each other, with intervals drawn closer by relations -/
section
variable {α β : Type}
end
end
end Go.Ev
