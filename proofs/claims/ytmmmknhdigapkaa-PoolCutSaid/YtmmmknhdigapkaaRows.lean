/-
  No cell of these rows narrows 'for every input' (looked for: loops, veiled, ifaces, maps, wideKeys, modest, calm, conditions, laid).
  DERIVED. THE GIVEN ROWS OF THIS SEAT. 4 by the template 'for every input the law returns true; each argument reads behind the call as it read before'; 0 by the template 'total and deterministic' (their statements: YtmmmknhdigapkaaTotals.lean).
  GIVEN WITH THE SEED: the statements are not yours to turn. If you find one false, say at which input.
  Laid BY PROGRAM, IN A SANDBOX (cutbox-rows.mjs): the forced cells as the released guide's own fill.sh prints them over the translation db1cdaaa8785d0df… (all of the seat's roots in one cut). By AI agents, Wed Nov 11 2026. No macro, syntax, notation, axiom, sorry.
-/
import Derived.Test.YtmmmknhdigapkaaChecked
import GoSem.Claim
import GoSem.ClaimJoined
import GoSem.ClaimMapViews
import Derived.JoinedTies
import Derived.KernelRfl
namespace Go.Proofs.Ytmmmknhdigapkaa
/- THE CELL 'sum', in the pinned program and in every row, IS THE sha256 OF THE DUMP (.gsa) THAT YtmmmknhdigapkaaProg.lean LOADS. Nothing in Lean hashes anything: it is a label: what it is worth is what the hold of that sum in a sandbox is worth. -/
noncomputable def Try.pinned : Pinned := { name := "ytmmmknhdigapkaa", sum := "db1cdaaa8785d0df3128230935413d290f689ecba486930cdcd11b1963af6775", checked := Try.checked }
namespace Rows
def none {H : Type} : Left H := { results := [], args := [] }

/-- 'trefoillaw06.PoolLays': WHATEVER THE INPUT: true; the input reads as it did. -/
def poolLaysSpec : ChangeSpec := { name := "poolLays", fn := fun _ => fun
  | [d] => { results := [.lit (.bool true)], args := [d] }
  | _ => none }
def poolLaysRow : OpenClaim := { program := "ytmmmknhdigapkaa", sum := "db1cdaaa8785d0df3128230935413d290f689ecba486930cdcd11b1963af6775", func := "trefoil/trefoillaw06.PoolLays", spec := "poolLays", unfollowed := true, recurses := true, apart := false }
def PoolLaysSaid : Prop := poolLaysRow.holds Try.pinned (OpenSpec.ofChange poolLaysSpec)

/-- ITS FALSE NEIGHBOUR: 'it returns false'. Refute it at one input. -/
def poolLaysWrong : ChangeSpec := { name := "poolLays", fn := fun _ => fun
  | [d] => { results := [.lit (.bool false)], args := [d] }
  | _ => none }
def PoolLaysWrongFalsely : Prop := poolLaysRow.holds Try.pinned (OpenSpec.ofChange poolLaysWrong)

/-- 'trefoillaw06.PoolBack': WHATEVER THE INPUT: true; the input reads as it did. -/
def poolBackSpec : ChangeSpec := { name := "poolBack", fn := fun _ => fun
  | [d1, d2] => { results := [.lit (.bool true)], args := [d1, d2] }
  | _ => none }
def poolBackRow : OpenClaim := { program := "ytmmmknhdigapkaa", sum := "db1cdaaa8785d0df3128230935413d290f689ecba486930cdcd11b1963af6775", func := "trefoil/trefoillaw06.PoolBack", spec := "poolBack", unfollowed := true, recurses := true, apart := false }
def PoolBackSaid : Prop := poolBackRow.holds Try.pinned (OpenSpec.ofChange poolBackSpec)

/-- ITS FALSE NEIGHBOUR: 'it returns false'. Refute it at one input. -/
def poolBackWrong : ChangeSpec := { name := "poolBack", fn := fun _ => fun
  | [d1, d2] => { results := [.lit (.bool false)], args := [d1, d2] }
  | _ => none }
def PoolBackWrongFalsely : Prop := poolBackRow.holds Try.pinned (OpenSpec.ofChange poolBackWrong)

/-- 'trefoillaw06.PoolCut': WHATEVER THE INPUT: true; the input reads as it did. -/
def poolCutSpec : ChangeSpec := { name := "poolCut", fn := fun _ => fun
  | [d1, d2, d3] => { results := [.lit (.bool true)], args := [d1, d2, d3] }
  | _ => none }
def poolCutRow : OpenClaim := { program := "ytmmmknhdigapkaa", sum := "db1cdaaa8785d0df3128230935413d290f689ecba486930cdcd11b1963af6775", func := "trefoil/trefoillaw06.PoolCut", spec := "poolCut", unfollowed := true, recurses := true, apart := false }
def PoolCutSaid : Prop := poolCutRow.holds Try.pinned (OpenSpec.ofChange poolCutSpec)

/-- ITS FALSE NEIGHBOUR: 'it returns false'. Refute it at one input. -/
def poolCutWrong : ChangeSpec := { name := "poolCut", fn := fun _ => fun
  | [d1, d2, d3] => { results := [.lit (.bool false)], args := [d1, d2, d3] }
  | _ => none }
def PoolCutWrongFalsely : Prop := poolCutRow.holds Try.pinned (OpenSpec.ofChange poolCutWrong)

/-- 'trefoillaw06.PoolKnown': WHATEVER THE INPUT: true; the input reads as it did. -/
def poolKnownSpec : ChangeSpec := { name := "poolKnown", fn := fun _ => fun
  | [] => { results := [.lit (.bool true)], args := [] }
  | _ => none }
def poolKnownRow : OpenClaim := { program := "ytmmmknhdigapkaa", sum := "db1cdaaa8785d0df3128230935413d290f689ecba486930cdcd11b1963af6775", func := "trefoil/trefoillaw06.PoolKnown", spec := "poolKnown", unfollowed := true, recurses := true, apart := false }
def PoolKnownSaid : Prop := poolKnownRow.holds Try.pinned (OpenSpec.ofChange poolKnownSpec)

/-- ITS FALSE NEIGHBOUR: 'it returns false'. Refute it at one input. -/
def poolKnownWrong : ChangeSpec := { name := "poolKnown", fn := fun _ => fun
  | [] => { results := [.lit (.bool false)], args := [] }
  | _ => none }
def PoolKnownWrongFalsely : Prop := poolKnownRow.holds Try.pinned (OpenSpec.ofChange poolKnownWrong)

/- THE SECOND FORM. 'bulk': how many values and letters a reading holds, each counted each time it is reached (what is shared counts as often as it is met; a slice's spare places count too). A statement '..UptoSaid' is the law's where the arguments, and the package variables that the reading takes, are together of bulk at most 1048576: NARROWER than '..Said'. Prove '..Said' where nothing that the law and all that it calls make is longer than what came in: it says more and counts as full. Else prove '..UptoSaid'. A law counts once. -/
mutual
def uptoBulk {H : Type} : DataW H → Nat
  | .lit (.string bytes) => bytes.length + 1
  | .lit _ => 1
  | .nil => 1
  | .ptr d => uptoBulk d + 1
  | .slice elems spare => uptoBulkAll elems + uptoBulkAll spare + 1
  | .agg parts => uptoBulkAll parts + 1
  | .iface _ d => uptoBulk d + 1
  | .map entries => uptoBulkEntries entries + 1
  | .held _ => 1
def uptoBulkAll {H : Type} : List (DataW H) → Nat
  | [] => 0
  | d :: r => uptoBulk d + uptoBulkAll r
def uptoBulkEntries {H : Type} : List (Lit × DataW H) → Nat
  | [] => 0
  | x :: r => uptoBulkEntry x + uptoBulkEntries r
def uptoBulkEntry {H : Type} : Lit × DataW H → Nat
  | (.string bytes, d) => bytes.length + uptoBulk d + 1
  | (_, d) => uptoBulk d + 1
 end
def uptoSmall : (H : Type) → List (DataW H) → Bool := fun _ ds => decide (uptoBulkAll ds ≤ 1048576)
def OpenSpec.upto (s : _root_.Go.ChangeSpec) : _root_.Go.OpenSpec := { _root_.Go.OpenSpec.ofChange s with cond := some uptoSmall }

/-- 'trefoillaw06.PoolLays', WHERE WHAT IT READS IS OF BULK AT MOST 1048576: true; the input reads as it did. -/
def poolLaysUptoRow : OpenClaim := { program := "ytmmmknhdigapkaa", sum := "db1cdaaa8785d0df3128230935413d290f689ecba486930cdcd11b1963af6775", func := "trefoil/trefoillaw06.PoolLays", spec := "poolLays", unfollowed := true, recurses := true, apart := false, narrowed := true }
def PoolLaysUptoSaid : Prop := poolLaysUptoRow.holds Try.pinned (OpenSpec.upto poolLaysSpec)

/-- 'trefoillaw06.PoolBack', WHERE WHAT IT READS IS OF BULK AT MOST 1048576: true; the input reads as it did. -/
def poolBackUptoRow : OpenClaim := { program := "ytmmmknhdigapkaa", sum := "db1cdaaa8785d0df3128230935413d290f689ecba486930cdcd11b1963af6775", func := "trefoil/trefoillaw06.PoolBack", spec := "poolBack", unfollowed := true, recurses := true, apart := false, narrowed := true }
def PoolBackUptoSaid : Prop := poolBackUptoRow.holds Try.pinned (OpenSpec.upto poolBackSpec)

/-- 'trefoillaw06.PoolCut', WHERE WHAT IT READS IS OF BULK AT MOST 1048576: true; the input reads as it did. -/
def poolCutUptoRow : OpenClaim := { program := "ytmmmknhdigapkaa", sum := "db1cdaaa8785d0df3128230935413d290f689ecba486930cdcd11b1963af6775", func := "trefoil/trefoillaw06.PoolCut", spec := "poolCut", unfollowed := true, recurses := true, apart := false, narrowed := true }
def PoolCutUptoSaid : Prop := poolCutUptoRow.holds Try.pinned (OpenSpec.upto poolCutSpec)

/-- 'trefoillaw06.PoolKnown', WHERE WHAT IT READS IS OF BULK AT MOST 1048576: true; the input reads as it did. -/
def poolKnownUptoRow : OpenClaim := { program := "ytmmmknhdigapkaa", sum := "db1cdaaa8785d0df3128230935413d290f689ecba486930cdcd11b1963af6775", func := "trefoil/trefoillaw06.PoolKnown", spec := "poolKnown", unfollowed := true, recurses := true, apart := false, narrowed := true }
def PoolKnownUptoSaid : Prop := poolKnownUptoRow.holds Try.pinned (OpenSpec.upto poolKnownSpec)

end Rows
end Go.Proofs.Ytmmmknhdigapkaa
