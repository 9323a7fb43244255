/-
  No cell of these rows narrows 'for every input' (looked for: loops, veiled, ifaces, maps, wideKeys, modest, calm, conditions, laid).
  DERIVED. THE GIVEN ROWS OF THIS SEAT. 4 by the template 'for every input the law returns true; each argument reads behind the call as it read before'; 0 by the template 'total and deterministic' (their statements: YticgadnmlbfmfaaTotals.lean).
  GIVEN WITH THE SEED: the statements are not yours to turn. If you find one false, say at which input.
  Laid BY PROGRAM, IN A SANDBOX (cutbox-rows.mjs): the forced cells as the released guide's own fill.sh prints them over the translation 75637ef7eb9addac… (all of the seat's roots in one cut). By AI agents, Wed Nov 11 2026. No macro, syntax, notation, axiom, sorry.
-/
import Derived.Test.YticgadnmlbfmfaaChecked
import GoSem.Claim
import GoSem.ClaimJoined
import GoSem.ClaimMapViews
import Derived.JoinedTies
import Derived.KernelRfl
namespace Go.Proofs.Yticgadnmlbfmfaa
/- THE CELL 'sum', in the pinned program and in every row, IS THE sha256 OF THE DUMP (.gsa) THAT YticgadnmlbfmfaaProg.lean LOADS. Nothing in Lean hashes anything: it is a label: what it is worth is what the hold of that sum in a sandbox is worth. -/
noncomputable def Try.pinned : Pinned := { name := "yticgadnmlbfmfaa", sum := "75637ef7eb9addaca0d9f6ec5abe8c3497cb4db27792303a738ee472a3259b62", checked := Try.checked }
namespace Rows
def none {H : Type} : Left H := { results := [], args := [] }

/-- 'trefoillaw25.CacheOrder': WHATEVER THE INPUT: true; the input reads as it did. -/
def cacheOrderSpec : ChangeSpec := { name := "cacheOrder", fn := fun _ => fun
  | [d1, d2] => { results := [.lit (.bool true)], args := [d1, d2] }
  | _ => none }
def cacheOrderRow : OpenClaim := { program := "yticgadnmlbfmfaa", sum := "75637ef7eb9addaca0d9f6ec5abe8c3497cb4db27792303a738ee472a3259b62", func := "trefoil/trefoillaw25.CacheOrder", spec := "cacheOrder", unfollowed := true, recurses := true, apart := false }
def CacheOrderSaid : Prop := cacheOrderRow.holds Try.pinned (OpenSpec.ofChange cacheOrderSpec)

/-- ITS FALSE NEIGHBOUR: 'it returns false'. Refute it at one input. -/
def cacheOrderWrong : ChangeSpec := { name := "cacheOrder", fn := fun _ => fun
  | [d1, d2] => { results := [.lit (.bool false)], args := [d1, d2] }
  | _ => none }
def CacheOrderWrongFalsely : Prop := cacheOrderRow.holds Try.pinned (OpenSpec.ofChange cacheOrderWrong)

/-- 'trefoillaw25.CachePlays': WHATEVER THE INPUT: true; the input reads as it did. -/
def cachePlaysSpec : ChangeSpec := { name := "cachePlays", fn := fun _ => fun
  | [d1, d2] => { results := [.lit (.bool true)], args := [d1, d2] }
  | _ => none }
def cachePlaysRow : OpenClaim := { program := "yticgadnmlbfmfaa", sum := "75637ef7eb9addaca0d9f6ec5abe8c3497cb4db27792303a738ee472a3259b62", func := "trefoil/trefoillaw25.CachePlays", spec := "cachePlays", unfollowed := true, recurses := true, apart := false }
def CachePlaysSaid : Prop := cachePlaysRow.holds Try.pinned (OpenSpec.ofChange cachePlaysSpec)

/-- ITS FALSE NEIGHBOUR: 'it returns false'. Refute it at one input. -/
def cachePlaysWrong : ChangeSpec := { name := "cachePlays", fn := fun _ => fun
  | [d1, d2] => { results := [.lit (.bool false)], args := [d1, d2] }
  | _ => none }
def CachePlaysWrongFalsely : Prop := cachePlaysRow.holds Try.pinned (OpenSpec.ofChange cachePlaysWrong)

/-- 'trefoillaw25.CacheKnown': WHATEVER THE INPUT: true; the input reads as it did. -/
def cacheKnownSpec : ChangeSpec := { name := "cacheKnown", fn := fun _ => fun
  | [] => { results := [.lit (.bool true)], args := [] }
  | _ => none }
def cacheKnownRow : OpenClaim := { program := "yticgadnmlbfmfaa", sum := "75637ef7eb9addaca0d9f6ec5abe8c3497cb4db27792303a738ee472a3259b62", func := "trefoil/trefoillaw25.CacheKnown", spec := "cacheKnown", unfollowed := true, recurses := true, apart := false }
def CacheKnownSaid : Prop := cacheKnownRow.holds Try.pinned (OpenSpec.ofChange cacheKnownSpec)

/-- ITS FALSE NEIGHBOUR: 'it returns false'. Refute it at one input. -/
def cacheKnownWrong : ChangeSpec := { name := "cacheKnown", fn := fun _ => fun
  | [] => { results := [.lit (.bool false)], args := [] }
  | _ => none }
def CacheKnownWrongFalsely : Prop := cacheKnownRow.holds Try.pinned (OpenSpec.ofChange cacheKnownWrong)

/-- 'trefoillaw25.CacheState': WHATEVER THE INPUT: true; the input reads as it did. -/
def cacheStateSpec : ChangeSpec := { name := "cacheState", fn := fun _ => fun
  | [d1, d2] => { results := [.lit (.bool true)], args := [d1, d2] }
  | _ => none }
def cacheStateRow : OpenClaim := { program := "yticgadnmlbfmfaa", sum := "75637ef7eb9addaca0d9f6ec5abe8c3497cb4db27792303a738ee472a3259b62", func := "trefoil/trefoillaw25.CacheState", spec := "cacheState", unfollowed := true, recurses := true, apart := false }
def CacheStateSaid : Prop := cacheStateRow.holds Try.pinned (OpenSpec.ofChange cacheStateSpec)

/-- ITS FALSE NEIGHBOUR: 'it returns false'. Refute it at one input. -/
def cacheStateWrong : ChangeSpec := { name := "cacheState", fn := fun _ => fun
  | [d1, d2] => { results := [.lit (.bool false)], args := [d1, d2] }
  | _ => none }
def CacheStateWrongFalsely : Prop := cacheStateRow.holds Try.pinned (OpenSpec.ofChange cacheStateWrong)

/- THE SECOND FORM. 'bulk': how many values and letters a reading holds, each counted each time it is reached (what is shared counts as often as it is met; a slice's spare places count too). A statement '..UptoSaid' is the law's where the arguments, and the package variables that the reading takes, are together of bulk at most 1048576: NARROWER than '..Said'. Prove '..Said' where nothing that the law and all that it calls make is longer than what came in: it says more and counts as full. Else prove '..UptoSaid'. A law counts once. -/
mutual
def uptoBulk {H : Type} : DataW H → Nat
  | .lit (.string bytes) => bytes.length + 1
  | .lit _ => 1
  | .nil => 1
  | .ptr d => uptoBulk d + 1
  | .slice elems spare => uptoBulkAll elems + uptoBulkAll spare + 1
  | .agg parts => uptoBulkAll parts + 1
  | .iface _ d => uptoBulk d + 1
  | .map entries => uptoBulkEntries entries + 1
  | .held _ => 1
def uptoBulkAll {H : Type} : List (DataW H) → Nat
  | [] => 0
  | d :: r => uptoBulk d + uptoBulkAll r
def uptoBulkEntries {H : Type} : List (Lit × DataW H) → Nat
  | [] => 0
  | x :: r => uptoBulkEntry x + uptoBulkEntries r
def uptoBulkEntry {H : Type} : Lit × DataW H → Nat
  | (.string bytes, d) => bytes.length + uptoBulk d + 1
  | (_, d) => uptoBulk d + 1
 end
def uptoSmall : (H : Type) → List (DataW H) → Bool := fun _ ds => decide (uptoBulkAll ds ≤ 1048576)
def OpenSpec.upto (s : _root_.Go.ChangeSpec) : _root_.Go.OpenSpec := { _root_.Go.OpenSpec.ofChange s with cond := some uptoSmall }

/-- 'trefoillaw25.CacheOrder', WHERE WHAT IT READS IS OF BULK AT MOST 1048576: true; the input reads as it did. -/
def cacheOrderUptoRow : OpenClaim := { program := "yticgadnmlbfmfaa", sum := "75637ef7eb9addaca0d9f6ec5abe8c3497cb4db27792303a738ee472a3259b62", func := "trefoil/trefoillaw25.CacheOrder", spec := "cacheOrder", unfollowed := true, recurses := true, apart := false, narrowed := true }
def CacheOrderUptoSaid : Prop := cacheOrderUptoRow.holds Try.pinned (OpenSpec.upto cacheOrderSpec)

/-- 'trefoillaw25.CachePlays', WHERE WHAT IT READS IS OF BULK AT MOST 1048576: true; the input reads as it did. -/
def cachePlaysUptoRow : OpenClaim := { program := "yticgadnmlbfmfaa", sum := "75637ef7eb9addaca0d9f6ec5abe8c3497cb4db27792303a738ee472a3259b62", func := "trefoil/trefoillaw25.CachePlays", spec := "cachePlays", unfollowed := true, recurses := true, apart := false, narrowed := true }
def CachePlaysUptoSaid : Prop := cachePlaysUptoRow.holds Try.pinned (OpenSpec.upto cachePlaysSpec)

/-- 'trefoillaw25.CacheKnown', WHERE WHAT IT READS IS OF BULK AT MOST 1048576: true; the input reads as it did. -/
def cacheKnownUptoRow : OpenClaim := { program := "yticgadnmlbfmfaa", sum := "75637ef7eb9addaca0d9f6ec5abe8c3497cb4db27792303a738ee472a3259b62", func := "trefoil/trefoillaw25.CacheKnown", spec := "cacheKnown", unfollowed := true, recurses := true, apart := false, narrowed := true }
def CacheKnownUptoSaid : Prop := cacheKnownUptoRow.holds Try.pinned (OpenSpec.upto cacheKnownSpec)

/-- 'trefoillaw25.CacheState', WHERE WHAT IT READS IS OF BULK AT MOST 1048576: true; the input reads as it did. -/
def cacheStateUptoRow : OpenClaim := { program := "yticgadnmlbfmfaa", sum := "75637ef7eb9addaca0d9f6ec5abe8c3497cb4db27792303a738ee472a3259b62", func := "trefoil/trefoillaw25.CacheState", spec := "cacheState", unfollowed := true, recurses := true, apart := false, narrowed := true }
def CacheStateUptoSaid : Prop := cacheStateUptoRow.holds Try.pinned (OpenSpec.upto cacheStateSpec)

end Rows
end Go.Proofs.Yticgadnmlbfmfaa
