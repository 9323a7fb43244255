/-
  No cell of these rows narrows 'for every input' (looked for: loops, veiled, ifaces, maps, wideKeys, modest, calm, conditions, laid).
  DERIVED. THE GIVEN ROWS OF THIS SEAT. 4 by the template 'for every input the law returns true; each argument reads behind the call as it read before'; 0 by the template 'total and deterministic' (their statements: YtgbpkilegbechaaTotals.lean).
  GIVEN WITH THE SEED: the statements are not yours to turn. If you find one false, say at which input.
  Laid BY PROGRAM, IN A SANDBOX (cutbox-rows.mjs): the forced cells as the released guide's own fill.sh prints them over the translation 18cd73a136580e74… (all of the seat's roots in one cut). By AI agents, Wed Nov 11 2026. No macro, syntax, notation, axiom, sorry.
-/
import Derived.Test.YtgbpkilegbechaaChecked
import GoSem.Claim
import GoSem.ClaimJoined
import GoSem.ClaimMapViews
import Derived.JoinedTies
import Derived.KernelRfl
namespace Go.Proofs.Ytgbpkilegbechaa
/- THE CELL 'sum', in the pinned program and in every row, IS THE sha256 OF THE DUMP (.gsa) THAT YtgbpkilegbechaaProg.lean LOADS. Nothing in Lean hashes anything: it is a label: what it is worth is what the hold of that sum in a sandbox is worth. -/
noncomputable def Try.pinned : Pinned := { name := "ytgbpkilegbechaa", sum := "18cd73a136580e7455237105d4ff640c001a63741d198afadee7e6cfd077f341", checked := Try.checked }
namespace Rows
def none {H : Type} : Left H := { results := [], args := [] }

/-- 'trefoillaw05.CardChecks': WHATEVER THE INPUT: true; the input reads as it did. -/
def cardChecksSpec : ChangeSpec := { name := "cardChecks", fn := fun _ => fun
  | [d1, d2] => { results := [.lit (.bool true)], args := [d1, d2] }
  | _ => none }
def cardChecksRow : OpenClaim := { program := "ytgbpkilegbechaa", sum := "18cd73a136580e7455237105d4ff640c001a63741d198afadee7e6cfd077f341", func := "trefoil/trefoillaw05.CardChecks", spec := "cardChecks", unfollowed := true, recurses := true, apart := false }
def CardChecksSaid : Prop := cardChecksRow.holds Try.pinned (OpenSpec.ofChange cardChecksSpec)

/-- ITS FALSE NEIGHBOUR: 'it returns false'. Refute it at one input. -/
def cardChecksWrong : ChangeSpec := { name := "cardChecks", fn := fun _ => fun
  | [d1, d2] => { results := [.lit (.bool false)], args := [d1, d2] }
  | _ => none }
def CardChecksWrongFalsely : Prop := cardChecksRow.holds Try.pinned (OpenSpec.ofChange cardChecksWrong)

/-- 'trefoillaw05.CardOnes': WHATEVER THE INPUT: true; the input reads as it did. -/
def cardOnesSpec : ChangeSpec := { name := "cardOnes", fn := fun _ => fun
  | [d1, d2, d3] => { results := [.lit (.bool true)], args := [d1, d2, d3] }
  | _ => none }
def cardOnesRow : OpenClaim := { program := "ytgbpkilegbechaa", sum := "18cd73a136580e7455237105d4ff640c001a63741d198afadee7e6cfd077f341", func := "trefoil/trefoillaw05.CardOnes", spec := "cardOnes", unfollowed := true, recurses := true, apart := false }
def CardOnesSaid : Prop := cardOnesRow.holds Try.pinned (OpenSpec.ofChange cardOnesSpec)

/-- ITS FALSE NEIGHBOUR: 'it returns false'. Refute it at one input. -/
def cardOnesWrong : ChangeSpec := { name := "cardOnes", fn := fun _ => fun
  | [d1, d2, d3] => { results := [.lit (.bool false)], args := [d1, d2, d3] }
  | _ => none }
def CardOnesWrongFalsely : Prop := cardOnesRow.holds Try.pinned (OpenSpec.ofChange cardOnesWrong)

/-- 'trefoillaw05.CardGreater': WHATEVER THE INPUT: true; the input reads as it did. -/
def cardGreaterSpec : ChangeSpec := { name := "cardGreater", fn := fun _ => fun
  | [d1, d2, d3] => { results := [.lit (.bool true)], args := [d1, d2, d3] }
  | _ => none }
def cardGreaterRow : OpenClaim := { program := "ytgbpkilegbechaa", sum := "18cd73a136580e7455237105d4ff640c001a63741d198afadee7e6cfd077f341", func := "trefoil/trefoillaw05.CardGreater", spec := "cardGreater", unfollowed := true, recurses := true, apart := false }
def CardGreaterSaid : Prop := cardGreaterRow.holds Try.pinned (OpenSpec.ofChange cardGreaterSpec)

/-- ITS FALSE NEIGHBOUR: 'it returns false'. Refute it at one input. -/
def cardGreaterWrong : ChangeSpec := { name := "cardGreater", fn := fun _ => fun
  | [d1, d2, d3] => { results := [.lit (.bool false)], args := [d1, d2, d3] }
  | _ => none }
def CardGreaterWrongFalsely : Prop := cardGreaterRow.holds Try.pinned (OpenSpec.ofChange cardGreaterWrong)

/-- 'trefoillaw05.CardKnown': WHATEVER THE INPUT: true; the input reads as it did. -/
def cardKnownSpec : ChangeSpec := { name := "cardKnown", fn := fun _ => fun
  | [] => { results := [.lit (.bool true)], args := [] }
  | _ => none }
def cardKnownRow : OpenClaim := { program := "ytgbpkilegbechaa", sum := "18cd73a136580e7455237105d4ff640c001a63741d198afadee7e6cfd077f341", func := "trefoil/trefoillaw05.CardKnown", spec := "cardKnown", unfollowed := true, recurses := true, apart := false }
def CardKnownSaid : Prop := cardKnownRow.holds Try.pinned (OpenSpec.ofChange cardKnownSpec)

/-- ITS FALSE NEIGHBOUR: 'it returns false'. Refute it at one input. -/
def cardKnownWrong : ChangeSpec := { name := "cardKnown", fn := fun _ => fun
  | [] => { results := [.lit (.bool false)], args := [] }
  | _ => none }
def CardKnownWrongFalsely : Prop := cardKnownRow.holds Try.pinned (OpenSpec.ofChange cardKnownWrong)

/- THE SECOND FORM. 'bulk': how many values and letters a reading holds, each counted each time it is reached (what is shared counts as often as it is met; a slice's spare places count too). A statement '..UptoSaid' is the law's where the arguments, and the package variables that the reading takes, are together of bulk at most 1048576: NARROWER than '..Said'. Prove '..Said' where nothing that the law and all that it calls make is longer than what came in: it says more and counts as full. Else prove '..UptoSaid'. A law counts once. -/
mutual
def uptoBulk {H : Type} : DataW H → Nat
  | .lit (.string bytes) => bytes.length + 1
  | .lit _ => 1
  | .nil => 1
  | .ptr d => uptoBulk d + 1
  | .slice elems spare => uptoBulkAll elems + uptoBulkAll spare + 1
  | .agg parts => uptoBulkAll parts + 1
  | .iface _ d => uptoBulk d + 1
  | .map entries => uptoBulkEntries entries + 1
  | .held _ => 1
def uptoBulkAll {H : Type} : List (DataW H) → Nat
  | [] => 0
  | d :: r => uptoBulk d + uptoBulkAll r
def uptoBulkEntries {H : Type} : List (Lit × DataW H) → Nat
  | [] => 0
  | x :: r => uptoBulkEntry x + uptoBulkEntries r
def uptoBulkEntry {H : Type} : Lit × DataW H → Nat
  | (.string bytes, d) => bytes.length + uptoBulk d + 1
  | (_, d) => uptoBulk d + 1
 end
def uptoSmall : (H : Type) → List (DataW H) → Bool := fun _ ds => decide (uptoBulkAll ds ≤ 1048576)
def OpenSpec.upto (s : _root_.Go.ChangeSpec) : _root_.Go.OpenSpec := { _root_.Go.OpenSpec.ofChange s with cond := some uptoSmall }

/-- 'trefoillaw05.CardChecks', WHERE WHAT IT READS IS OF BULK AT MOST 1048576: true; the input reads as it did. -/
def cardChecksUptoRow : OpenClaim := { program := "ytgbpkilegbechaa", sum := "18cd73a136580e7455237105d4ff640c001a63741d198afadee7e6cfd077f341", func := "trefoil/trefoillaw05.CardChecks", spec := "cardChecks", unfollowed := true, recurses := true, apart := false, narrowed := true }
def CardChecksUptoSaid : Prop := cardChecksUptoRow.holds Try.pinned (OpenSpec.upto cardChecksSpec)

/-- 'trefoillaw05.CardOnes', WHERE WHAT IT READS IS OF BULK AT MOST 1048576: true; the input reads as it did. -/
def cardOnesUptoRow : OpenClaim := { program := "ytgbpkilegbechaa", sum := "18cd73a136580e7455237105d4ff640c001a63741d198afadee7e6cfd077f341", func := "trefoil/trefoillaw05.CardOnes", spec := "cardOnes", unfollowed := true, recurses := true, apart := false, narrowed := true }
def CardOnesUptoSaid : Prop := cardOnesUptoRow.holds Try.pinned (OpenSpec.upto cardOnesSpec)

/-- 'trefoillaw05.CardGreater', WHERE WHAT IT READS IS OF BULK AT MOST 1048576: true; the input reads as it did. -/
def cardGreaterUptoRow : OpenClaim := { program := "ytgbpkilegbechaa", sum := "18cd73a136580e7455237105d4ff640c001a63741d198afadee7e6cfd077f341", func := "trefoil/trefoillaw05.CardGreater", spec := "cardGreater", unfollowed := true, recurses := true, apart := false, narrowed := true }
def CardGreaterUptoSaid : Prop := cardGreaterUptoRow.holds Try.pinned (OpenSpec.upto cardGreaterSpec)

/-- 'trefoillaw05.CardKnown', WHERE WHAT IT READS IS OF BULK AT MOST 1048576: true; the input reads as it did. -/
def cardKnownUptoRow : OpenClaim := { program := "ytgbpkilegbechaa", sum := "18cd73a136580e7455237105d4ff640c001a63741d198afadee7e6cfd077f341", func := "trefoil/trefoillaw05.CardKnown", spec := "cardKnown", unfollowed := true, recurses := true, apart := false, narrowed := true }
def CardKnownUptoSaid : Prop := cardKnownUptoRow.holds Try.pinned (OpenSpec.upto cardKnownSpec)

end Rows
end Go.Proofs.Ytgbpkilegbechaa
