/-
  No cell of these rows narrows 'for every input' (looked for: loops, veiled, ifaces, maps, wideKeys, modest, calm, conditions, laid).
  DERIVED. THE GIVEN ROWS OF THIS SEAT. 5 by the template 'for every input the law returns true; each argument reads behind the call as it read before'; 0 by the template 'total and deterministic' (their statements: YtkkajckgihkneaaGreatTotals.lean).
  GIVEN WITH THE SEED: the statements are not yours to turn. If you find one false, say at which input.
  Laid BY PROGRAM, IN A SANDBOX (cutbox-rows.mjs): the forced cells as the released guide's own fill.sh prints them over the translation e7466069f43fbdc9… (all of the seat's roots in one cut). By AI agents, Wed Nov 11 2026. No macro, syntax, notation, axiom, sorry.
-/
import Derived.Test.YtkkajckgihkneaaGreatChecked
import GoSem.Claim
import GoSem.ClaimJoined
import GoSem.ClaimMapViews
import Derived.JoinedTies
import Derived.KernelRfl
namespace Go.Proofs.YtkkajckgihkneaaGreat
/- THE CELL 'sum', in the pinned program and in every row, IS THE sha256 OF THE DUMP (.gsa) THAT YtkkajckgihkneaaGreatProg.lean LOADS. Nothing in Lean hashes anything: it is a label: what it is worth is what the hold of that sum in a sandbox is worth. -/
noncomputable def Tryz.pinned : Pinned := { name := "ytkkajckgihkneaagreat", sum := "e7466069f43fbdc91719e7ab32fe58d8a4369f9e54eac96def9919882f7b3225", checked := Tryz.checked }
namespace Rows
def none {H : Type} : Left H := { results := [], args := [] }

/-- 'trefoillaw17.TrigItems': WHATEVER THE INPUT: true; the input reads as it did. -/
def trigItemsSpec : ChangeSpec := { name := "trigItems", fn := fun _ => fun
  | [d1, d2, d3] => { results := [.lit (.bool true)], args := [d1, d2, d3] }
  | _ => none }
def trigItemsRow : OpenClaim := { program := "ytkkajckgihkneaagreat", sum := "e7466069f43fbdc91719e7ab32fe58d8a4369f9e54eac96def9919882f7b3225", func := "trefoil/trefoillaw17.TrigItems", spec := "trigItems", inPlace := ["slices.overlaps[int]"], unfollowed := true, recurses := true, apart := false }
def TrigItemsSaid : Prop := trigItemsRow.holds Tryz.pinned (OpenSpec.ofChange trigItemsSpec)

/-- ITS FALSE NEIGHBOUR: 'it returns false'. Refute it at one input. -/
def trigItemsWrong : ChangeSpec := { name := "trigItems", fn := fun _ => fun
  | [d1, d2, d3] => { results := [.lit (.bool false)], args := [d1, d2, d3] }
  | _ => none }
def TrigItemsWrongFalsely : Prop := trigItemsRow.holds Tryz.pinned (OpenSpec.ofChange trigItemsWrong)

/-- 'trefoillaw17.TrigGone': WHATEVER THE INPUT: true; the input reads as it did. -/
def trigGoneSpec : ChangeSpec := { name := "trigGone", fn := fun _ => fun
  | [d1, d2, d3] => { results := [.lit (.bool true)], args := [d1, d2, d3] }
  | _ => none }
def trigGoneRow : OpenClaim := { program := "ytkkajckgihkneaagreat", sum := "e7466069f43fbdc91719e7ab32fe58d8a4369f9e54eac96def9919882f7b3225", func := "trefoil/trefoillaw17.TrigGone", spec := "trigGone", inPlace := ["slices.overlaps[int]"], unfollowed := true, recurses := true, apart := false }
def TrigGoneSaid : Prop := trigGoneRow.holds Tryz.pinned (OpenSpec.ofChange trigGoneSpec)

/-- ITS FALSE NEIGHBOUR: 'it returns false'. Refute it at one input. -/
def trigGoneWrong : ChangeSpec := { name := "trigGone", fn := fun _ => fun
  | [d1, d2, d3] => { results := [.lit (.bool false)], args := [d1, d2, d3] }
  | _ => none }
def TrigGoneWrongFalsely : Prop := trigGoneRow.holds Tryz.pinned (OpenSpec.ofChange trigGoneWrong)

/-- 'trefoillaw17.TrigNotes': WHATEVER THE INPUT: true; the input reads as it did. -/
def trigNotesSpec : ChangeSpec := { name := "trigNotes", fn := fun _ => fun
  | [d1, d2, d3] => { results := [.lit (.bool true)], args := [d1, d2, d3] }
  | _ => none }
def trigNotesRow : OpenClaim := { program := "ytkkajckgihkneaagreat", sum := "e7466069f43fbdc91719e7ab32fe58d8a4369f9e54eac96def9919882f7b3225", func := "trefoil/trefoillaw17.TrigNotes", spec := "trigNotes", inPlace := ["slices.overlaps[int]"], unfollowed := true, recurses := true, apart := false }
def TrigNotesSaid : Prop := trigNotesRow.holds Tryz.pinned (OpenSpec.ofChange trigNotesSpec)

/-- ITS FALSE NEIGHBOUR: 'it returns false'. Refute it at one input. -/
def trigNotesWrong : ChangeSpec := { name := "trigNotes", fn := fun _ => fun
  | [d1, d2, d3] => { results := [.lit (.bool false)], args := [d1, d2, d3] }
  | _ => none }
def TrigNotesWrongFalsely : Prop := trigNotesRow.holds Tryz.pinned (OpenSpec.ofChange trigNotesWrong)

/-- 'trefoillaw17.TrigMeant': WHATEVER THE INPUT: true; the input reads as it did. -/
def trigMeantSpec : ChangeSpec := { name := "trigMeant", fn := fun _ => fun
  | [d1, d2] => { results := [.lit (.bool true)], args := [d1, d2] }
  | _ => none }
def trigMeantRow : OpenClaim := { program := "ytkkajckgihkneaagreat", sum := "e7466069f43fbdc91719e7ab32fe58d8a4369f9e54eac96def9919882f7b3225", func := "trefoil/trefoillaw17.TrigMeant", spec := "trigMeant", inPlace := ["slices.overlaps[int]"], unfollowed := true, recurses := true, apart := false }
def TrigMeantSaid : Prop := trigMeantRow.holds Tryz.pinned (OpenSpec.ofChange trigMeantSpec)

/-- ITS FALSE NEIGHBOUR: 'it returns false'. Refute it at one input. -/
def trigMeantWrong : ChangeSpec := { name := "trigMeant", fn := fun _ => fun
  | [d1, d2] => { results := [.lit (.bool false)], args := [d1, d2] }
  | _ => none }
def TrigMeantWrongFalsely : Prop := trigMeantRow.holds Tryz.pinned (OpenSpec.ofChange trigMeantWrong)

/-- 'trefoillaw17.TrigKnown': WHATEVER THE INPUT: true; the input reads as it did. -/
def trigKnownSpec : ChangeSpec := { name := "trigKnown", fn := fun _ => fun
  | [] => { results := [.lit (.bool true)], args := [] }
  | _ => none }
def trigKnownRow : OpenClaim := { program := "ytkkajckgihkneaagreat", sum := "e7466069f43fbdc91719e7ab32fe58d8a4369f9e54eac96def9919882f7b3225", func := "trefoil/trefoillaw17.TrigKnown", spec := "trigKnown", inPlace := ["slices.overlaps[int]"], unfollowed := true, recurses := true, apart := false }
def TrigKnownSaid : Prop := trigKnownRow.holds Tryz.pinned (OpenSpec.ofChange trigKnownSpec)

/-- ITS FALSE NEIGHBOUR: 'it returns false'. Refute it at one input. -/
def trigKnownWrong : ChangeSpec := { name := "trigKnown", fn := fun _ => fun
  | [] => { results := [.lit (.bool false)], args := [] }
  | _ => none }
def TrigKnownWrongFalsely : Prop := trigKnownRow.holds Tryz.pinned (OpenSpec.ofChange trigKnownWrong)

/- THE SECOND FORM. 'bulk': how many values and letters a reading holds, each counted each time it is reached (what is shared counts as often as it is met; a slice's spare places count too). A statement '..UptoSaid' is the law's where the arguments, and the package variables that the reading takes, are together of bulk at most 1048576: NARROWER than '..Said'. Prove '..Said' where nothing that the law and all that it calls make is longer than what came in: it says more and counts as full. Else prove '..UptoSaid'. A law counts once. -/
mutual
def uptoBulk {H : Type} : DataW H → Nat
  | .lit (.string bytes) => bytes.length + 1
  | .lit _ => 1
  | .nil => 1
  | .ptr d => uptoBulk d + 1
  | .slice elems spare => uptoBulkAll elems + uptoBulkAll spare + 1
  | .agg parts => uptoBulkAll parts + 1
  | .iface _ d => uptoBulk d + 1
  | .map entries => uptoBulkEntries entries + 1
  | .held _ => 1
def uptoBulkAll {H : Type} : List (DataW H) → Nat
  | [] => 0
  | d :: r => uptoBulk d + uptoBulkAll r
def uptoBulkEntries {H : Type} : List (Lit × DataW H) → Nat
  | [] => 0
  | x :: r => uptoBulkEntry x + uptoBulkEntries r
def uptoBulkEntry {H : Type} : Lit × DataW H → Nat
  | (.string bytes, d) => bytes.length + uptoBulk d + 1
  | (_, d) => uptoBulk d + 1
 end
def uptoSmall : (H : Type) → List (DataW H) → Bool := fun _ ds => decide (uptoBulkAll ds ≤ 1048576)
def OpenSpec.upto (s : _root_.Go.ChangeSpec) : _root_.Go.OpenSpec := { _root_.Go.OpenSpec.ofChange s with cond := some uptoSmall }

/-- 'trefoillaw17.TrigItems', WHERE WHAT IT READS IS OF BULK AT MOST 1048576: true; the input reads as it did. -/
def trigItemsUptoRow : OpenClaim := { program := "ytkkajckgihkneaagreat", sum := "e7466069f43fbdc91719e7ab32fe58d8a4369f9e54eac96def9919882f7b3225", func := "trefoil/trefoillaw17.TrigItems", spec := "trigItems", inPlace := ["slices.overlaps[int]"], unfollowed := true, recurses := true, apart := false, narrowed := true }
def TrigItemsUptoSaid : Prop := trigItemsUptoRow.holds Tryz.pinned (OpenSpec.upto trigItemsSpec)

/-- 'trefoillaw17.TrigGone', WHERE WHAT IT READS IS OF BULK AT MOST 1048576: true; the input reads as it did. -/
def trigGoneUptoRow : OpenClaim := { program := "ytkkajckgihkneaagreat", sum := "e7466069f43fbdc91719e7ab32fe58d8a4369f9e54eac96def9919882f7b3225", func := "trefoil/trefoillaw17.TrigGone", spec := "trigGone", inPlace := ["slices.overlaps[int]"], unfollowed := true, recurses := true, apart := false, narrowed := true }
def TrigGoneUptoSaid : Prop := trigGoneUptoRow.holds Tryz.pinned (OpenSpec.upto trigGoneSpec)

/-- 'trefoillaw17.TrigNotes', WHERE WHAT IT READS IS OF BULK AT MOST 1048576: true; the input reads as it did. -/
def trigNotesUptoRow : OpenClaim := { program := "ytkkajckgihkneaagreat", sum := "e7466069f43fbdc91719e7ab32fe58d8a4369f9e54eac96def9919882f7b3225", func := "trefoil/trefoillaw17.TrigNotes", spec := "trigNotes", inPlace := ["slices.overlaps[int]"], unfollowed := true, recurses := true, apart := false, narrowed := true }
def TrigNotesUptoSaid : Prop := trigNotesUptoRow.holds Tryz.pinned (OpenSpec.upto trigNotesSpec)

/-- 'trefoillaw17.TrigMeant', WHERE WHAT IT READS IS OF BULK AT MOST 1048576: true; the input reads as it did. -/
def trigMeantUptoRow : OpenClaim := { program := "ytkkajckgihkneaagreat", sum := "e7466069f43fbdc91719e7ab32fe58d8a4369f9e54eac96def9919882f7b3225", func := "trefoil/trefoillaw17.TrigMeant", spec := "trigMeant", inPlace := ["slices.overlaps[int]"], unfollowed := true, recurses := true, apart := false, narrowed := true }
def TrigMeantUptoSaid : Prop := trigMeantUptoRow.holds Tryz.pinned (OpenSpec.upto trigMeantSpec)

/-- 'trefoillaw17.TrigKnown', WHERE WHAT IT READS IS OF BULK AT MOST 1048576: true; the input reads as it did. -/
def trigKnownUptoRow : OpenClaim := { program := "ytkkajckgihkneaagreat", sum := "e7466069f43fbdc91719e7ab32fe58d8a4369f9e54eac96def9919882f7b3225", func := "trefoil/trefoillaw17.TrigKnown", spec := "trigKnown", inPlace := ["slices.overlaps[int]"], unfollowed := true, recurses := true, apart := false, narrowed := true }
def TrigKnownUptoSaid : Prop := trigKnownUptoRow.holds Tryz.pinned (OpenSpec.upto trigKnownSpec)

end Rows
end Go.Proofs.YtkkajckgihkneaaGreat
