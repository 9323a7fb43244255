/-
  No cell of these rows narrows 'for every input' (looked for: loops, veiled, ifaces, maps, wideKeys, modest, calm, conditions, laid).
  DERIVED. THE GIVEN ROWS OF THIS SEAT. 6 by the template 'for every input the law returns true; each argument reads behind the call as it read before'; 0 by the template 'total and deterministic' (their statements: YtgbhmkdldfhamaaTotals.lean).
  GIVEN WITH THE SEED: the statements are not yours to turn. If you find one false, say at which input.
  Laid BY PROGRAM, IN A SANDBOX (cutbox-rows.mjs): the forced cells as the released guide's own fill.sh prints them over the translation 1f5fe241daaeaf6a… (all of the seat's roots in one cut). By AI agents, Wed Nov 11 2026. No macro, syntax, notation, axiom, sorry.
-/
import Derived.Test.YtgbhmkdldfhamaaChecked
import GoSem.Claim
import GoSem.ClaimJoined
import GoSem.ClaimMapViews
import Derived.JoinedTies
import Derived.KernelRfl
namespace Go.Proofs.Ytgbhmkdldfhamaa
/- THE CELL 'sum', in the pinned program and in every row, IS THE sha256 OF THE DUMP (.gsa) THAT YtgbhmkdldfhamaaProg.lean LOADS. Nothing in Lean hashes anything: it is a label: what it is worth is what the hold of that sum in a sandbox is worth. -/
noncomputable def Try.pinned : Pinned := { name := "ytgbhmkdldfhamaa", sum := "1f5fe241daaeaf6a8b8659a2722b9dd5bc068561ba3384030743f784b9edb826", checked := Try.checked }
namespace Rows
def none {H : Type} : Left H := { results := [], args := [] }

/-- 'trefoillaw14.CharsOf': WHATEVER THE INPUT: true; the input reads as it did. -/
def charsOfSpec : ChangeSpec := { name := "charsOf", fn := fun _ => fun
  | [d1, d2, d3] => { results := [.lit (.bool true)], args := [d1, d2, d3] }
  | _ => none }
def charsOfRow : OpenClaim := { program := "ytgbhmkdldfhamaa", sum := "1f5fe241daaeaf6a8b8659a2722b9dd5bc068561ba3384030743f784b9edb826", func := "trefoil/trefoillaw14.CharsOf", spec := "charsOf", unfollowed := true, recurses := true, apart := false }
def CharsOfSaid : Prop := charsOfRow.holds Try.pinned (OpenSpec.ofChange charsOfSpec)

/-- ITS FALSE NEIGHBOUR: 'it returns false'. Refute it at one input. -/
def charsOfWrong : ChangeSpec := { name := "charsOf", fn := fun _ => fun
  | [d1, d2, d3] => { results := [.lit (.bool false)], args := [d1, d2, d3] }
  | _ => none }
def CharsOfWrongFalsely : Prop := charsOfRow.holds Try.pinned (OpenSpec.ofChange charsOfWrong)

/-- 'trefoillaw14.CharsOrder': WHATEVER THE INPUT: true; the input reads as it did. -/
def charsOrderSpec : ChangeSpec := { name := "charsOrder", fn := fun _ => fun
  | [d1, d2] => { results := [.lit (.bool true)], args := [d1, d2] }
  | _ => none }
def charsOrderRow : OpenClaim := { program := "ytgbhmkdldfhamaa", sum := "1f5fe241daaeaf6a8b8659a2722b9dd5bc068561ba3384030743f784b9edb826", func := "trefoil/trefoillaw14.CharsOrder", spec := "charsOrder", unfollowed := true, recurses := true, apart := false }
def CharsOrderSaid : Prop := charsOrderRow.holds Try.pinned (OpenSpec.ofChange charsOrderSpec)

/-- ITS FALSE NEIGHBOUR: 'it returns false'. Refute it at one input. -/
def charsOrderWrong : ChangeSpec := { name := "charsOrder", fn := fun _ => fun
  | [d1, d2] => { results := [.lit (.bool false)], args := [d1, d2] }
  | _ => none }
def CharsOrderWrongFalsely : Prop := charsOrderRow.holds Try.pinned (OpenSpec.ofChange charsOrderWrong)

/-- 'trefoillaw14.CharsLayers': WHATEVER THE INPUT: true; the input reads as it did. -/
def charsLayersSpec : ChangeSpec := { name := "charsLayers", fn := fun _ => fun
  | [d] => { results := [.lit (.bool true)], args := [d] }
  | _ => none }
def charsLayersRow : OpenClaim := { program := "ytgbhmkdldfhamaa", sum := "1f5fe241daaeaf6a8b8659a2722b9dd5bc068561ba3384030743f784b9edb826", func := "trefoil/trefoillaw14.CharsLayers", spec := "charsLayers", unfollowed := true, recurses := true, apart := false }
def CharsLayersSaid : Prop := charsLayersRow.holds Try.pinned (OpenSpec.ofChange charsLayersSpec)

/-- ITS FALSE NEIGHBOUR: 'it returns false'. Refute it at one input. -/
def charsLayersWrong : ChangeSpec := { name := "charsLayers", fn := fun _ => fun
  | [d] => { results := [.lit (.bool false)], args := [d] }
  | _ => none }
def CharsLayersWrongFalsely : Prop := charsLayersRow.holds Try.pinned (OpenSpec.ofChange charsLayersWrong)

/-- 'trefoillaw14.CharsApart': WHATEVER THE INPUT: true; the input reads as it did. -/
def charsApartSpec : ChangeSpec := { name := "charsApart", fn := fun _ => fun
  | [d1, d2] => { results := [.lit (.bool true)], args := [d1, d2] }
  | _ => none }
def charsApartRow : OpenClaim := { program := "ytgbhmkdldfhamaa", sum := "1f5fe241daaeaf6a8b8659a2722b9dd5bc068561ba3384030743f784b9edb826", func := "trefoil/trefoillaw14.CharsApart", spec := "charsApart", unfollowed := true, recurses := true, apart := false }
def CharsApartSaid : Prop := charsApartRow.holds Try.pinned (OpenSpec.ofChange charsApartSpec)

/-- ITS FALSE NEIGHBOUR: 'it returns false'. Refute it at one input. -/
def charsApartWrong : ChangeSpec := { name := "charsApart", fn := fun _ => fun
  | [d1, d2] => { results := [.lit (.bool false)], args := [d1, d2] }
  | _ => none }
def CharsApartWrongFalsely : Prop := charsApartRow.holds Try.pinned (OpenSpec.ofChange charsApartWrong)

/-- 'trefoillaw14.CharsSplit': WHATEVER THE INPUT: true; the input reads as it did. -/
def charsSplitSpec : ChangeSpec := { name := "charsSplit", fn := fun _ => fun
  | [d1, d2] => { results := [.lit (.bool true)], args := [d1, d2] }
  | _ => none }
def charsSplitRow : OpenClaim := { program := "ytgbhmkdldfhamaa", sum := "1f5fe241daaeaf6a8b8659a2722b9dd5bc068561ba3384030743f784b9edb826", func := "trefoil/trefoillaw14.CharsSplit", spec := "charsSplit", unfollowed := true, recurses := true, apart := false }
def CharsSplitSaid : Prop := charsSplitRow.holds Try.pinned (OpenSpec.ofChange charsSplitSpec)

/-- ITS FALSE NEIGHBOUR: 'it returns false'. Refute it at one input. -/
def charsSplitWrong : ChangeSpec := { name := "charsSplit", fn := fun _ => fun
  | [d1, d2] => { results := [.lit (.bool false)], args := [d1, d2] }
  | _ => none }
def CharsSplitWrongFalsely : Prop := charsSplitRow.holds Try.pinned (OpenSpec.ofChange charsSplitWrong)

/-- 'trefoillaw14.CharsKnown': WHATEVER THE INPUT: true; the input reads as it did. -/
def charsKnownSpec : ChangeSpec := { name := "charsKnown", fn := fun _ => fun
  | [] => { results := [.lit (.bool true)], args := [] }
  | _ => none }
def charsKnownRow : OpenClaim := { program := "ytgbhmkdldfhamaa", sum := "1f5fe241daaeaf6a8b8659a2722b9dd5bc068561ba3384030743f784b9edb826", func := "trefoil/trefoillaw14.CharsKnown", spec := "charsKnown", unfollowed := true, recurses := true, apart := false }
def CharsKnownSaid : Prop := charsKnownRow.holds Try.pinned (OpenSpec.ofChange charsKnownSpec)

/-- ITS FALSE NEIGHBOUR: 'it returns false'. Refute it at one input. -/
def charsKnownWrong : ChangeSpec := { name := "charsKnown", fn := fun _ => fun
  | [] => { results := [.lit (.bool false)], args := [] }
  | _ => none }
def CharsKnownWrongFalsely : Prop := charsKnownRow.holds Try.pinned (OpenSpec.ofChange charsKnownWrong)

/- THE SECOND FORM. 'bulk': how many values and letters a reading holds, each counted each time it is reached (what is shared counts as often as it is met; a slice's spare places count too). A statement '..UptoSaid' is the law's where the arguments, and the package variables that the reading takes, are together of bulk at most 1048576: NARROWER than '..Said'. Prove '..Said' where nothing that the law and all that it calls make is longer than what came in: it says more and counts as full. Else prove '..UptoSaid'. A law counts once. -/
mutual
def uptoBulk {H : Type} : DataW H → Nat
  | .lit (.string bytes) => bytes.length + 1
  | .lit _ => 1
  | .nil => 1
  | .ptr d => uptoBulk d + 1
  | .slice elems spare => uptoBulkAll elems + uptoBulkAll spare + 1
  | .agg parts => uptoBulkAll parts + 1
  | .iface _ d => uptoBulk d + 1
  | .map entries => uptoBulkEntries entries + 1
  | .held _ => 1
def uptoBulkAll {H : Type} : List (DataW H) → Nat
  | [] => 0
  | d :: r => uptoBulk d + uptoBulkAll r
def uptoBulkEntries {H : Type} : List (Lit × DataW H) → Nat
  | [] => 0
  | x :: r => uptoBulkEntry x + uptoBulkEntries r
def uptoBulkEntry {H : Type} : Lit × DataW H → Nat
  | (.string bytes, d) => bytes.length + uptoBulk d + 1
  | (_, d) => uptoBulk d + 1
 end
def uptoSmall : (H : Type) → List (DataW H) → Bool := fun _ ds => decide (uptoBulkAll ds ≤ 1048576)
def OpenSpec.upto (s : _root_.Go.ChangeSpec) : _root_.Go.OpenSpec := { _root_.Go.OpenSpec.ofChange s with cond := some uptoSmall }

/-- 'trefoillaw14.CharsOf', WHERE WHAT IT READS IS OF BULK AT MOST 1048576: true; the input reads as it did. -/
def charsOfUptoRow : OpenClaim := { program := "ytgbhmkdldfhamaa", sum := "1f5fe241daaeaf6a8b8659a2722b9dd5bc068561ba3384030743f784b9edb826", func := "trefoil/trefoillaw14.CharsOf", spec := "charsOf", unfollowed := true, recurses := true, apart := false, narrowed := true }
def CharsOfUptoSaid : Prop := charsOfUptoRow.holds Try.pinned (OpenSpec.upto charsOfSpec)

/-- 'trefoillaw14.CharsOrder', WHERE WHAT IT READS IS OF BULK AT MOST 1048576: true; the input reads as it did. -/
def charsOrderUptoRow : OpenClaim := { program := "ytgbhmkdldfhamaa", sum := "1f5fe241daaeaf6a8b8659a2722b9dd5bc068561ba3384030743f784b9edb826", func := "trefoil/trefoillaw14.CharsOrder", spec := "charsOrder", unfollowed := true, recurses := true, apart := false, narrowed := true }
def CharsOrderUptoSaid : Prop := charsOrderUptoRow.holds Try.pinned (OpenSpec.upto charsOrderSpec)

/-- 'trefoillaw14.CharsLayers', WHERE WHAT IT READS IS OF BULK AT MOST 1048576: true; the input reads as it did. -/
def charsLayersUptoRow : OpenClaim := { program := "ytgbhmkdldfhamaa", sum := "1f5fe241daaeaf6a8b8659a2722b9dd5bc068561ba3384030743f784b9edb826", func := "trefoil/trefoillaw14.CharsLayers", spec := "charsLayers", unfollowed := true, recurses := true, apart := false, narrowed := true }
def CharsLayersUptoSaid : Prop := charsLayersUptoRow.holds Try.pinned (OpenSpec.upto charsLayersSpec)

/-- 'trefoillaw14.CharsApart', WHERE WHAT IT READS IS OF BULK AT MOST 1048576: true; the input reads as it did. -/
def charsApartUptoRow : OpenClaim := { program := "ytgbhmkdldfhamaa", sum := "1f5fe241daaeaf6a8b8659a2722b9dd5bc068561ba3384030743f784b9edb826", func := "trefoil/trefoillaw14.CharsApart", spec := "charsApart", unfollowed := true, recurses := true, apart := false, narrowed := true }
def CharsApartUptoSaid : Prop := charsApartUptoRow.holds Try.pinned (OpenSpec.upto charsApartSpec)

/-- 'trefoillaw14.CharsSplit', WHERE WHAT IT READS IS OF BULK AT MOST 1048576: true; the input reads as it did. -/
def charsSplitUptoRow : OpenClaim := { program := "ytgbhmkdldfhamaa", sum := "1f5fe241daaeaf6a8b8659a2722b9dd5bc068561ba3384030743f784b9edb826", func := "trefoil/trefoillaw14.CharsSplit", spec := "charsSplit", unfollowed := true, recurses := true, apart := false, narrowed := true }
def CharsSplitUptoSaid : Prop := charsSplitUptoRow.holds Try.pinned (OpenSpec.upto charsSplitSpec)

/-- 'trefoillaw14.CharsKnown', WHERE WHAT IT READS IS OF BULK AT MOST 1048576: true; the input reads as it did. -/
def charsKnownUptoRow : OpenClaim := { program := "ytgbhmkdldfhamaa", sum := "1f5fe241daaeaf6a8b8659a2722b9dd5bc068561ba3384030743f784b9edb826", func := "trefoil/trefoillaw14.CharsKnown", spec := "charsKnown", unfollowed := true, recurses := true, apart := false, narrowed := true }
def CharsKnownUptoSaid : Prop := charsKnownUptoRow.holds Try.pinned (OpenSpec.upto charsKnownSpec)

end Rows
end Go.Proofs.Ytgbhmkdldfhamaa
