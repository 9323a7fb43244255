/-
  The text of a code: what one round puts behind it ('lineP': pieces, by what is known of the instruction); all leaves say so.
-/
import Derived.Test.YtgmdbpmookoafaaDoorTxE
namespace Go.Proofs.YtgmdbpmookoafaaDoor.text
open Go.Ev Go.RowKit
set_option linter.unusedVariables false
noncomputable section
def words : List (List UInt8) := [[63], [110, 117, 109], [97, 100, 100], [115, 117, 98], [109, 117, 108], [108, 101, 115, 115], [99, 111, 117, 110, 116], [108, 105, 102, 101], [106, 117, 109, 112], [122, 101, 114, 111], [104, 117, 114, 116], [103, 97, 105, 110], [100, 114, 97, 119], [107, 105, 108, 108], [98, 111, 117, 110, 99, 101], [98, 97, 110, 105, 115, 104], [112, 117, 109, 112], [103, 114, 97, 110, 116], [116, 97, 112], [117, 110, 116, 97, 112], [99, 111, 117, 110, 116, 101, 114], [116, 111, 107, 101, 110], [109, 97, 110, 97], [114, 111, 108, 108], [101, 110, 100]]
def wordOf (op : Int) : List UInt8 := if 1 ≤ op ∧ op ≤ 24 then (lget words op.toNat).getD [63] else [63]
/-- Pieces of a line: is A zero, is B? -/
def lineP (w : List UInt8) : Bool → Bool → List VV
  | true, true => [.string ⟨⟨w ++ [10]⟩⟩]
  | false, true => [.string ⟨⟨w ++ [32]⟩⟩, .sym 11, .string ⟨⟨[10]⟩⟩]
  | false, false => [.string ⟨⟨w ++ [32]⟩⟩, .sym 11, .string ⟨⟨[32]⟩⟩, .sym 13, .string ⟨⟨[10]⟩⟩]
  | true, false => [.string ⟨⟨w ++ [32, 48, 32]⟩⟩, .sym 13, .string ⟨⟨[10]⟩⟩]
def zeroI (iv : Ivs) (i : Nat) : Option Bool := match decide ((ivAt iv i).1 = 0 ∧ (ivAt iv i).2 = 0), decide (0 < (ivAt iv i).1 ∨ (ivAt iv i).2 < 0) with
  | true, _ => some true
  | _, true => some false
  | _, _ => none
def wordI (iv : Ivs) : Option (List UInt8) := match decide ((ivAt iv 6).2 < 1 ∨ 24 < (ivAt iv 6).1), decide ((ivAt iv 6).1 = (ivAt iv 6).2) with
  | true, _ => some [63]
  | _, true => some (wordOf (ivAt iv 6).1)
  | _, _ => none
def lenOK (ps : List VV) : VV → Bool
  | .tlen qs => vvsEq qs ps
  | .int .i64 n => match ps with
    | [.string s] => decide (n = s.size)
    | _ => false
  | _ => false
def leafP (pre : List VV) (iv : Ivs) (rs : Rels) : Leaf → Bool
  | .goto q [.cat ps, x, .sint .i64 k] => match Nat.beq q 2, Nat.beq k 4, wordI iv, zeroI iv 7, zeroI iv 8 with
    | true, true, some w, some a, some b => match vvsEq ps (pre ++ lineP w a b) with
      | true => lenOK ps x
      | false => false
    | _, _, _, _, _ => false
  | _ => false
theorem all1 : allI (leafP []) ctt1L ctiv1 [] = true := by kernel_rfl
theorem all2 : allI (leafP [.sym 9]) ctt2L ctiv2 [] = true := by kernel_rfl
end
end Go.Proofs.YtgmdbpmookoafaaDoor.text
