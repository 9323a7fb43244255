/-
  No cell of these rows narrows 'for every input' (looked for: loops, veiled, ifaces, maps, wideKeys, modest, calm, conditions, laid).
  DERIVED. THE GIVEN ROWS OF THIS SEAT. 5 by the template 'for every input the law returns true; each argument reads behind the call as it read before'; 0 by the template 'total and deterministic' (their statements: YtlpckgebccaccaaGreatTotals.lean).
  GIVEN WITH THE SEED: the statements are not yours to turn. If you find one false, say at which input.
  Laid BY PROGRAM, IN A SANDBOX (cutbox-rows.mjs): the forced cells as the released guide's own fill.sh prints them over the translation b64a798e4180eacf… (all of the seat's roots in one cut). By AI agents, Wed Nov 11 2026. No macro, syntax, notation, axiom, sorry.
-/
import Derived.Test.YtlpckgebccaccaaGreatChecked
import GoSem.Claim
import GoSem.ClaimJoined
import GoSem.ClaimMapViews
import Derived.JoinedTies
import Derived.KernelRfl
namespace Go.Proofs.YtlpckgebccaccaaGreat
/- THE CELL 'sum', in the pinned program and in every row, IS THE sha256 OF THE DUMP (.gsa) THAT YtlpckgebccaccaaGreatProg.lean LOADS. Nothing in Lean hashes anything: it is a label: what it is worth is what the hold of that sum in a sandbox is worth. -/
noncomputable def Tryz.pinned : Pinned := { name := "ytlpckgebccaccaagreat", sum := "b64a798e4180eacfeae5ceaa886dc30593cb39cb3ca63f05d9585aab84b602a1", checked := Tryz.checked }
namespace Rows
def none {H : Type} : Left H := { results := [], args := [] }

/-- 'trefoillaw16.ReplTells': WHATEVER THE INPUT: true; the input reads as it did. -/
def replTellsSpec : ChangeSpec := { name := "replTells", fn := fun _ => fun
  | [d1, d2, d3] => { results := [.lit (.bool true)], args := [d1, d2, d3] }
  | _ => none }
def replTellsRow : OpenClaim := { program := "ytlpckgebccaccaagreat", sum := "b64a798e4180eacfeae5ceaa886dc30593cb39cb3ca63f05d9585aab84b602a1", func := "trefoil/trefoillaw16.ReplTells", spec := "replTells", inPlace := ["slices.overlaps[int]"], unfollowed := true, recurses := true, apart := false }
def ReplTellsSaid : Prop := replTellsRow.holds Tryz.pinned (OpenSpec.ofChange replTellsSpec)

/-- ITS FALSE NEIGHBOUR: 'it returns false'. Refute it at one input. -/
def replTellsWrong : ChangeSpec := { name := "replTells", fn := fun _ => fun
  | [d1, d2, d3] => { results := [.lit (.bool false)], args := [d1, d2, d3] }
  | _ => none }
def ReplTellsWrongFalsely : Prop := replTellsRow.holds Tryz.pinned (OpenSpec.ofChange replTellsWrong)

/-- 'trefoillaw16.ReplCounts': WHATEVER THE INPUT: true; the input reads as it did. -/
def replCountsSpec : ChangeSpec := { name := "replCounts", fn := fun _ => fun
  | [d1, d2] => { results := [.lit (.bool true)], args := [d1, d2] }
  | _ => none }
def replCountsRow : OpenClaim := { program := "ytlpckgebccaccaagreat", sum := "b64a798e4180eacfeae5ceaa886dc30593cb39cb3ca63f05d9585aab84b602a1", func := "trefoil/trefoillaw16.ReplCounts", spec := "replCounts", inPlace := ["slices.overlaps[int]"], unfollowed := true, recurses := true, apart := false }
def ReplCountsSaid : Prop := replCountsRow.holds Tryz.pinned (OpenSpec.ofChange replCountsSpec)

/-- ITS FALSE NEIGHBOUR: 'it returns false'. Refute it at one input. -/
def replCountsWrong : ChangeSpec := { name := "replCounts", fn := fun _ => fun
  | [d1, d2] => { results := [.lit (.bool false)], args := [d1, d2] }
  | _ => none }
def ReplCountsWrongFalsely : Prop := replCountsRow.holds Tryz.pinned (OpenSpec.ofChange replCountsWrong)

/-- 'trefoillaw16.ReplGone': WHATEVER THE INPUT: true; the input reads as it did. -/
def replGoneSpec : ChangeSpec := { name := "replGone", fn := fun _ => fun
  | [d1, d2] => { results := [.lit (.bool true)], args := [d1, d2] }
  | _ => none }
def replGoneRow : OpenClaim := { program := "ytlpckgebccaccaagreat", sum := "b64a798e4180eacfeae5ceaa886dc30593cb39cb3ca63f05d9585aab84b602a1", func := "trefoil/trefoillaw16.ReplGone", spec := "replGone", inPlace := ["slices.overlaps[int]"], unfollowed := true, recurses := true, apart := false }
def ReplGoneSaid : Prop := replGoneRow.holds Tryz.pinned (OpenSpec.ofChange replGoneSpec)

/-- ITS FALSE NEIGHBOUR: 'it returns false'. Refute it at one input. -/
def replGoneWrong : ChangeSpec := { name := "replGone", fn := fun _ => fun
  | [d1, d2] => { results := [.lit (.bool false)], args := [d1, d2] }
  | _ => none }
def ReplGoneWrongFalsely : Prop := replGoneRow.holds Tryz.pinned (OpenSpec.ofChange replGoneWrong)

/-- 'trefoillaw16.ReplKnown': WHATEVER THE INPUT: true; the input reads as it did. -/
def replKnownSpec : ChangeSpec := { name := "replKnown", fn := fun _ => fun
  | [] => { results := [.lit (.bool true)], args := [] }
  | _ => none }
def replKnownRow : OpenClaim := { program := "ytlpckgebccaccaagreat", sum := "b64a798e4180eacfeae5ceaa886dc30593cb39cb3ca63f05d9585aab84b602a1", func := "trefoil/trefoillaw16.ReplKnown", spec := "replKnown", inPlace := ["slices.overlaps[int]"], unfollowed := true, recurses := true, apart := false }
def ReplKnownSaid : Prop := replKnownRow.holds Tryz.pinned (OpenSpec.ofChange replKnownSpec)

/-- ITS FALSE NEIGHBOUR: 'it returns false'. Refute it at one input. -/
def replKnownWrong : ChangeSpec := { name := "replKnown", fn := fun _ => fun
  | [] => { results := [.lit (.bool false)], args := [] }
  | _ => none }
def ReplKnownWrongFalsely : Prop := replKnownRow.holds Tryz.pinned (OpenSpec.ofChange replKnownWrong)

/-- 'trefoillaw16.ReplStays': WHATEVER THE INPUT: true; the input reads as it did. -/
def replStaysSpec : ChangeSpec := { name := "replStays", fn := fun _ => fun
  | [d1, d2] => { results := [.lit (.bool true)], args := [d1, d2] }
  | _ => none }
def replStaysRow : OpenClaim := { program := "ytlpckgebccaccaagreat", sum := "b64a798e4180eacfeae5ceaa886dc30593cb39cb3ca63f05d9585aab84b602a1", func := "trefoil/trefoillaw16.ReplStays", spec := "replStays", inPlace := ["slices.overlaps[int]"], unfollowed := true, recurses := true, apart := false }
def ReplStaysSaid : Prop := replStaysRow.holds Tryz.pinned (OpenSpec.ofChange replStaysSpec)

/-- ITS FALSE NEIGHBOUR: 'it returns false'. Refute it at one input. -/
def replStaysWrong : ChangeSpec := { name := "replStays", fn := fun _ => fun
  | [d1, d2] => { results := [.lit (.bool false)], args := [d1, d2] }
  | _ => none }
def ReplStaysWrongFalsely : Prop := replStaysRow.holds Tryz.pinned (OpenSpec.ofChange replStaysWrong)

/- THE SECOND FORM. 'bulk': how many values and letters a reading holds, each counted each time it is reached (what is shared counts as often as it is met; a slice's spare places count too). A statement '..UptoSaid' is the law's where the arguments, and the package variables that the reading takes, are together of bulk at most 1048576: NARROWER than '..Said'. Prove '..Said' where nothing that the law and all that it calls make is longer than what came in: it says more and counts as full. Else prove '..UptoSaid'. A law counts once. -/
mutual
def uptoBulk {H : Type} : DataW H → Nat
  | .lit (.string bytes) => bytes.length + 1
  | .lit _ => 1
  | .nil => 1
  | .ptr d => uptoBulk d + 1
  | .slice elems spare => uptoBulkAll elems + uptoBulkAll spare + 1
  | .agg parts => uptoBulkAll parts + 1
  | .iface _ d => uptoBulk d + 1
  | .map entries => uptoBulkEntries entries + 1
  | .held _ => 1
def uptoBulkAll {H : Type} : List (DataW H) → Nat
  | [] => 0
  | d :: r => uptoBulk d + uptoBulkAll r
def uptoBulkEntries {H : Type} : List (Lit × DataW H) → Nat
  | [] => 0
  | x :: r => uptoBulkEntry x + uptoBulkEntries r
def uptoBulkEntry {H : Type} : Lit × DataW H → Nat
  | (.string bytes, d) => bytes.length + uptoBulk d + 1
  | (_, d) => uptoBulk d + 1
 end
def uptoSmall : (H : Type) → List (DataW H) → Bool := fun _ ds => decide (uptoBulkAll ds ≤ 1048576)
def OpenSpec.upto (s : _root_.Go.ChangeSpec) : _root_.Go.OpenSpec := { _root_.Go.OpenSpec.ofChange s with cond := some uptoSmall }

/-- 'trefoillaw16.ReplTells', WHERE WHAT IT READS IS OF BULK AT MOST 1048576: true; the input reads as it did. -/
def replTellsUptoRow : OpenClaim := { program := "ytlpckgebccaccaagreat", sum := "b64a798e4180eacfeae5ceaa886dc30593cb39cb3ca63f05d9585aab84b602a1", func := "trefoil/trefoillaw16.ReplTells", spec := "replTells", inPlace := ["slices.overlaps[int]"], unfollowed := true, recurses := true, apart := false, narrowed := true }
def ReplTellsUptoSaid : Prop := replTellsUptoRow.holds Tryz.pinned (OpenSpec.upto replTellsSpec)

/-- 'trefoillaw16.ReplCounts', WHERE WHAT IT READS IS OF BULK AT MOST 1048576: true; the input reads as it did. -/
def replCountsUptoRow : OpenClaim := { program := "ytlpckgebccaccaagreat", sum := "b64a798e4180eacfeae5ceaa886dc30593cb39cb3ca63f05d9585aab84b602a1", func := "trefoil/trefoillaw16.ReplCounts", spec := "replCounts", inPlace := ["slices.overlaps[int]"], unfollowed := true, recurses := true, apart := false, narrowed := true }
def ReplCountsUptoSaid : Prop := replCountsUptoRow.holds Tryz.pinned (OpenSpec.upto replCountsSpec)

/-- 'trefoillaw16.ReplGone', WHERE WHAT IT READS IS OF BULK AT MOST 1048576: true; the input reads as it did. -/
def replGoneUptoRow : OpenClaim := { program := "ytlpckgebccaccaagreat", sum := "b64a798e4180eacfeae5ceaa886dc30593cb39cb3ca63f05d9585aab84b602a1", func := "trefoil/trefoillaw16.ReplGone", spec := "replGone", inPlace := ["slices.overlaps[int]"], unfollowed := true, recurses := true, apart := false, narrowed := true }
def ReplGoneUptoSaid : Prop := replGoneUptoRow.holds Tryz.pinned (OpenSpec.upto replGoneSpec)

/-- 'trefoillaw16.ReplKnown', WHERE WHAT IT READS IS OF BULK AT MOST 1048576: true; the input reads as it did. -/
def replKnownUptoRow : OpenClaim := { program := "ytlpckgebccaccaagreat", sum := "b64a798e4180eacfeae5ceaa886dc30593cb39cb3ca63f05d9585aab84b602a1", func := "trefoil/trefoillaw16.ReplKnown", spec := "replKnown", inPlace := ["slices.overlaps[int]"], unfollowed := true, recurses := true, apart := false, narrowed := true }
def ReplKnownUptoSaid : Prop := replKnownUptoRow.holds Tryz.pinned (OpenSpec.upto replKnownSpec)

/-- 'trefoillaw16.ReplStays', WHERE WHAT IT READS IS OF BULK AT MOST 1048576: true; the input reads as it did. -/
def replStaysUptoRow : OpenClaim := { program := "ytlpckgebccaccaagreat", sum := "b64a798e4180eacfeae5ceaa886dc30593cb39cb3ca63f05d9585aab84b602a1", func := "trefoil/trefoillaw16.ReplStays", spec := "replStays", inPlace := ["slices.overlaps[int]"], unfollowed := true, recurses := true, apart := false, narrowed := true }
def ReplStaysUptoSaid : Prop := replStaysUptoRow.holds Tryz.pinned (OpenSpec.upto replStaysSpec)

end Rows
end Go.Proofs.YtlpckgebccaccaaGreat
