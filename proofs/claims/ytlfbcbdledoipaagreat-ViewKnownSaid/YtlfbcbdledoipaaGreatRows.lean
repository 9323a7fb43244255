/-
  No cell of these rows narrows 'for every input' (looked for: loops, veiled, ifaces, maps, wideKeys, modest, calm, conditions, laid).
  DERIVED. THE GIVEN ROWS OF THIS SEAT. 4 by the template 'for every input the law returns true; each argument reads behind the call as it read before'; 0 by the template 'total and deterministic' (their statements: YtlfbcbdledoipaaGreatTotals.lean).
  GIVEN WITH THE SEED: the statements are not yours to turn. If you find one false, say at which input.
  Laid BY PROGRAM, IN A SANDBOX (cutbox-rows.mjs): the forced cells as the released guide's own fill.sh prints them over the translation d7b9c70f9e7fd74d… (all of the seat's roots in one cut). By AI agents, Wed Nov 11 2026. No macro, syntax, notation, axiom, sorry.
-/
import Derived.Test.YtlfbcbdledoipaaGreatChecked
import GoSem.Claim
import GoSem.ClaimJoined
import GoSem.ClaimMapViews
import Derived.JoinedTies
import Derived.KernelRfl
namespace Go.Proofs.YtlfbcbdledoipaaGreat
/- THE CELL 'sum', in the pinned program and in every row, IS THE sha256 OF THE DUMP (.gsa) THAT YtlfbcbdledoipaaGreatProg.lean LOADS. Nothing in Lean hashes anything: it is a label: what it is worth is what the hold of that sum in a sandbox is worth. -/
noncomputable def Tryz.pinned : Pinned := { name := "ytlfbcbdledoipaagreat", sum := "d7b9c70f9e7fd74d02dfa73152023ae5d63619b7370f05af6d6a751b3ae2c237", checked := Tryz.checked }
namespace Rows
def none {H : Type} : Left H := { results := [], args := [] }

/-- 'trefoillaw29.ViewKnown': WHATEVER THE INPUT: true; the input reads as it did. -/
def viewKnownSpec : ChangeSpec := { name := "viewKnown", fn := fun _ => fun
  | [] => { results := [.lit (.bool true)], args := [] }
  | _ => none }
def viewKnownRow : OpenClaim := { program := "ytlfbcbdledoipaagreat", sum := "d7b9c70f9e7fd74d02dfa73152023ae5d63619b7370f05af6d6a751b3ae2c237", func := "trefoil/trefoillaw29.ViewKnown", spec := "viewKnown", inPlace := ["slices.overlaps[int]"], unfollowed := true, recurses := true, apart := false }
def ViewKnownSaid : Prop := viewKnownRow.holds Tryz.pinned (OpenSpec.ofChange viewKnownSpec)

/-- ITS FALSE NEIGHBOUR: 'it returns false'. Refute it at one input. -/
def viewKnownWrong : ChangeSpec := { name := "viewKnown", fn := fun _ => fun
  | [] => { results := [.lit (.bool false)], args := [] }
  | _ => none }
def ViewKnownWrongFalsely : Prop := viewKnownRow.holds Tryz.pinned (OpenSpec.ofChange viewKnownWrong)

/-- 'trefoillaw29.ViewBlind': WHATEVER THE INPUT: true; the input reads as it did. -/
def viewBlindSpec : ChangeSpec := { name := "viewBlind", fn := fun _ => fun
  | [d1, d2, d3] => { results := [.lit (.bool true)], args := [d1, d2, d3] }
  | _ => none }
def viewBlindRow : OpenClaim := { program := "ytlfbcbdledoipaagreat", sum := "d7b9c70f9e7fd74d02dfa73152023ae5d63619b7370f05af6d6a751b3ae2c237", func := "trefoil/trefoillaw29.ViewBlind", spec := "viewBlind", inPlace := ["slices.overlaps[int]"], unfollowed := true, recurses := true, apart := false }
def ViewBlindSaid : Prop := viewBlindRow.holds Tryz.pinned (OpenSpec.ofChange viewBlindSpec)

/-- ITS FALSE NEIGHBOUR: 'it returns false'. Refute it at one input. -/
def viewBlindWrong : ChangeSpec := { name := "viewBlind", fn := fun _ => fun
  | [d1, d2, d3] => { results := [.lit (.bool false)], args := [d1, d2, d3] }
  | _ => none }
def ViewBlindWrongFalsely : Prop := viewBlindRow.holds Tryz.pinned (OpenSpec.ofChange viewBlindWrong)

/-- 'trefoillaw29.ViewTells': WHATEVER THE INPUT: true; the input reads as it did. -/
def viewTellsSpec : ChangeSpec := { name := "viewTells", fn := fun _ => fun
  | [d1, d2, d3] => { results := [.lit (.bool true)], args := [d1, d2, d3] }
  | _ => none }
def viewTellsRow : OpenClaim := { program := "ytlfbcbdledoipaagreat", sum := "d7b9c70f9e7fd74d02dfa73152023ae5d63619b7370f05af6d6a751b3ae2c237", func := "trefoil/trefoillaw29.ViewTells", spec := "viewTells", inPlace := ["slices.overlaps[int]"], unfollowed := true, recurses := true, apart := false }
def ViewTellsSaid : Prop := viewTellsRow.holds Tryz.pinned (OpenSpec.ofChange viewTellsSpec)

/-- ITS FALSE NEIGHBOUR: 'it returns false'. Refute it at one input. -/
def viewTellsWrong : ChangeSpec := { name := "viewTells", fn := fun _ => fun
  | [d1, d2, d3] => { results := [.lit (.bool false)], args := [d1, d2, d3] }
  | _ => none }
def ViewTellsWrongFalsely : Prop := viewTellsRow.holds Tryz.pinned (OpenSpec.ofChange viewTellsWrong)

/-- 'trefoillaw29.ViewNames': WHATEVER THE INPUT: true; the input reads as it did. -/
def viewNamesSpec : ChangeSpec := { name := "viewNames", fn := fun _ => fun
  | [d1, d2, d3] => { results := [.lit (.bool true)], args := [d1, d2, d3] }
  | _ => none }
def viewNamesRow : OpenClaim := { program := "ytlfbcbdledoipaagreat", sum := "d7b9c70f9e7fd74d02dfa73152023ae5d63619b7370f05af6d6a751b3ae2c237", func := "trefoil/trefoillaw29.ViewNames", spec := "viewNames", inPlace := ["slices.overlaps[int]"], unfollowed := true, recurses := true, apart := false }
def ViewNamesSaid : Prop := viewNamesRow.holds Tryz.pinned (OpenSpec.ofChange viewNamesSpec)

/-- ITS FALSE NEIGHBOUR: 'it returns false'. Refute it at one input. -/
def viewNamesWrong : ChangeSpec := { name := "viewNames", fn := fun _ => fun
  | [d1, d2, d3] => { results := [.lit (.bool false)], args := [d1, d2, d3] }
  | _ => none }
def ViewNamesWrongFalsely : Prop := viewNamesRow.holds Tryz.pinned (OpenSpec.ofChange viewNamesWrong)

/- THE SECOND FORM. 'bulk': how many values and letters a reading holds, each counted each time it is reached (what is shared counts as often as it is met; a slice's spare places count too). A statement '..UptoSaid' is the law's where the arguments, and the package variables that the reading takes, are together of bulk at most 1048576: NARROWER than '..Said'. Prove '..Said' where nothing that the law and all that it calls make is longer than what came in: it says more and counts as full. Else prove '..UptoSaid'. A law counts once. -/
mutual
def uptoBulk {H : Type} : DataW H → Nat
  | .lit (.string bytes) => bytes.length + 1
  | .lit _ => 1
  | .nil => 1
  | .ptr d => uptoBulk d + 1
  | .slice elems spare => uptoBulkAll elems + uptoBulkAll spare + 1
  | .agg parts => uptoBulkAll parts + 1
  | .iface _ d => uptoBulk d + 1
  | .map entries => uptoBulkEntries entries + 1
  | .held _ => 1
def uptoBulkAll {H : Type} : List (DataW H) → Nat
  | [] => 0
  | d :: r => uptoBulk d + uptoBulkAll r
def uptoBulkEntries {H : Type} : List (Lit × DataW H) → Nat
  | [] => 0
  | x :: r => uptoBulkEntry x + uptoBulkEntries r
def uptoBulkEntry {H : Type} : Lit × DataW H → Nat
  | (.string bytes, d) => bytes.length + uptoBulk d + 1
  | (_, d) => uptoBulk d + 1
 end
def uptoSmall : (H : Type) → List (DataW H) → Bool := fun _ ds => decide (uptoBulkAll ds ≤ 1048576)
def OpenSpec.upto (s : _root_.Go.ChangeSpec) : _root_.Go.OpenSpec := { _root_.Go.OpenSpec.ofChange s with cond := some uptoSmall }

/-- 'trefoillaw29.ViewKnown', WHERE WHAT IT READS IS OF BULK AT MOST 1048576: true; the input reads as it did. -/
def viewKnownUptoRow : OpenClaim := { program := "ytlfbcbdledoipaagreat", sum := "d7b9c70f9e7fd74d02dfa73152023ae5d63619b7370f05af6d6a751b3ae2c237", func := "trefoil/trefoillaw29.ViewKnown", spec := "viewKnown", inPlace := ["slices.overlaps[int]"], unfollowed := true, recurses := true, apart := false, narrowed := true }
def ViewKnownUptoSaid : Prop := viewKnownUptoRow.holds Tryz.pinned (OpenSpec.upto viewKnownSpec)

/-- 'trefoillaw29.ViewBlind', WHERE WHAT IT READS IS OF BULK AT MOST 1048576: true; the input reads as it did. -/
def viewBlindUptoRow : OpenClaim := { program := "ytlfbcbdledoipaagreat", sum := "d7b9c70f9e7fd74d02dfa73152023ae5d63619b7370f05af6d6a751b3ae2c237", func := "trefoil/trefoillaw29.ViewBlind", spec := "viewBlind", inPlace := ["slices.overlaps[int]"], unfollowed := true, recurses := true, apart := false, narrowed := true }
def ViewBlindUptoSaid : Prop := viewBlindUptoRow.holds Tryz.pinned (OpenSpec.upto viewBlindSpec)

/-- 'trefoillaw29.ViewTells', WHERE WHAT IT READS IS OF BULK AT MOST 1048576: true; the input reads as it did. -/
def viewTellsUptoRow : OpenClaim := { program := "ytlfbcbdledoipaagreat", sum := "d7b9c70f9e7fd74d02dfa73152023ae5d63619b7370f05af6d6a751b3ae2c237", func := "trefoil/trefoillaw29.ViewTells", spec := "viewTells", inPlace := ["slices.overlaps[int]"], unfollowed := true, recurses := true, apart := false, narrowed := true }
def ViewTellsUptoSaid : Prop := viewTellsUptoRow.holds Tryz.pinned (OpenSpec.upto viewTellsSpec)

/-- 'trefoillaw29.ViewNames', WHERE WHAT IT READS IS OF BULK AT MOST 1048576: true; the input reads as it did. -/
def viewNamesUptoRow : OpenClaim := { program := "ytlfbcbdledoipaagreat", sum := "d7b9c70f9e7fd74d02dfa73152023ae5d63619b7370f05af6d6a751b3ae2c237", func := "trefoil/trefoillaw29.ViewNames", spec := "viewNames", inPlace := ["slices.overlaps[int]"], unfollowed := true, recurses := true, apart := false, narrowed := true }
def ViewNamesUptoSaid : Prop := viewNamesUptoRow.holds Tryz.pinned (OpenSpec.upto viewNamesSpec)

end Rows
end Go.Proofs.YtlfbcbdledoipaaGreat
