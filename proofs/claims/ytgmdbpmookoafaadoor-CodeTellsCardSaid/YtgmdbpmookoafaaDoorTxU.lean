/-
  The text of a code: a line's bytes.
-/
import Derived.Test.YtgmdbpmookoafaaDoorTxS
import Derived.Lib.ItoaNum
namespace Go.Proofs.YtgmdbpmookoafaaDoor.text
open Go.Ev Go.RowKit Go.Lib
set_option linter.unusedVariables false
noncomputable section
def bstr (l : List UInt8) : ByteArray := ⟨⟨l⟩⟩
theorem bstr_app (a b : List UInt8) : bstr a ++ bstr b = bstr (a ++ b) := by
  apply ByteArray.ext
  simp [bstr]
/-- A line, in bytes. -/
def lineB (w : List UInt8) (a b : Int) : List UInt8 := w ++ (if a = 0 ∧ b = 0 then [10] else 32 :: (itoa a ++ (if b = 0 then [10] else 32 :: (itoa b ++ [10]))))
theorem textS_cons {ρ : Rho} {p : VV} {l : List VV} {s t : ByteArray} (h1 : pieceS ρ p = some s) (h2 : textS ρ l = some t) : textS ρ (p :: l) = some (s ++ t) := by
  simp only [textS, h1, h2]
theorem itoa0 : itoa 0 = [48] := by simp [itoa, decDigits]
theorem lineP_text {ρ : Rho} {w : List UInt8} {a b : Int} {az bz : Bool} (ha : az = decide (a = 0)) (hb : bz = decide (b = 0)) (h1 : ρ.val 11 = .string (bstr (itoa a))) (h2 : ρ.val 13 = .string (bstr (itoa b))) :
    textS ρ (lineP w az bz) = some (bstr (lineB w a b)) := by
  have p1 : pieceS ρ (.sym 11) = some (bstr (itoa a)) := by simp only [pieceS, h1]
  have p2 : pieceS ρ (.sym 13) = some (bstr (itoa b)) := by simp only [pieceS, h2]
  have lit : ∀ l : List UInt8, pieceS ρ (.string ⟨⟨l⟩⟩) = some (bstr l) := fun l => rfl
  by_cases ea : a = 0 <;> by_cases eb : b = 0
  · subst ea eb
    simp only [decide_true] at ha hb
    subst ha hb
    rw [lineP, textS_one (lit _)]
    simp [lineB]
  · subst ea
    simp only [decide_true] at ha
    simp only [eb, decide_false] at hb
    subst ha hb
    rw [lineP, textS_cons (lit _) (textS_cons p2 (textS_one (lit _))), bstr_app, bstr_app]
    simp [lineB, eb, itoa0]
  · subst eb
    simp only [decide_true] at hb
    simp only [ea, decide_false] at ha
    subst ha hb
    rw [lineP, textS_cons (lit _) (textS_cons p1 (textS_one (lit _))), bstr_app, bstr_app]
    simp [lineB, ea]
  · simp only [ea, decide_false] at ha
    simp only [eb, decide_false] at hb
    subst ha hb
    rw [lineP, textS_cons (lit _) (textS_cons p1 (textS_cons (lit _) (textS_cons p2 (textS_one (lit _))))), bstr_app, bstr_app, bstr_app, bstr_app]
    simp [lineB, ea, eb]
end
end Go.Proofs.YtgmdbpmookoafaaDoor.text
