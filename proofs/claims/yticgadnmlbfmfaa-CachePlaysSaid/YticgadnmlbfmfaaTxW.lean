/-
  Chapter 25: what the walk of the law CacheState needs of the program.
-/
import Derived.Laws.StructEq
import Derived.ChangeKeysEq
import Derived.Test.YticgadnmlbfmfaaTxV
import Derived.Test.YticgadnmlbfmfaaTxM
namespace Go.Proofs.Yticgadnmlbfmfaa.cachePlays
open Go.Shelf Go.RowKit Go.Lib Go.Sort
/-- The types, their sizes and zeros. -/
structure LayT (P : Program) (k30 k75 k63 k64 k65 : Nat) (y30 y75 y63 y64 y65 : List Value) : Prop where
  mixed : P.follows .mixedOrders = true
  f6 : P.funcs[6]? = some Try.f6
  e7 : ∀ args w, (callFunc 7 args).run P w = .ok (.enter 7 args) w
  e8 : ∀ args w, (callFunc 8 args).run P w = .ok (.enter 8 args) w
  e10 : ∀ args w, (callFunc 10 args).run P w = .ok (.enter 10 args) w
  e11 : ∀ args w, (callFunc 11 args).run P w = .ok (.enter 11 args) w
  e12 : ∀ args w, (callFunc 12 args).run P w = .ok (.enter 12 args) w
  e17 : ∀ args w, (callFunc 17 args).run P w = .ok (.enter 17 args) w
  e20 : ∀ args w, (callFunc 20 args).run P w = .ok (.enter 20 args) w
  e21 : ∀ args w, (callFunc 21 args).run P w = .ok (.enter 21 args) w
  e23 : ∀ args w, (callFunc 23 args).run P w = .ok (.enter 23 args) w
  t3 : P.underlying 3 = some (TypeDesc.int IntKind.i64)
  a3 : ∀ w, (isAgg 3).run P w = .ok false w
  z3 : ∀ w, (Go.sizeOf 3).run P w = .ok 1 w
  v3 : ∀ w, (zeroValue 3).run P w = .ok (Value.int IntKind.i64 0) w
  t4 : P.underlying 4 = some TypeDesc.bool
  a4 : ∀ w, (isAgg 4).run P w = .ok false w
  z4 : ∀ w, (Go.sizeOf 4).run P w = .ok 1 w
  v4 : ∀ w, (zeroValue 4).run P w = .ok (Value.bool false) w
  t5 : P.underlying 5 = some (TypeDesc.int IntKind.u8)
  a5 : ∀ w, (isAgg 5).run P w = .ok false w
  z5 : ∀ w, (Go.sizeOf 5).run P w = .ok 1 w
  v5 : ∀ w, (zeroValue 5).run P w = .ok (Value.int IntKind.u8 0) w
  t22 : P.underlying 22 = some (TypeDesc.slice 32)
  a22 : ∀ w, (isAgg 22).run P w = .ok false w
  z22 : ∀ w, (Go.sizeOf 22).run P w = .ok 1 w
  v22 : ∀ w, (zeroValue 22).run P w = .ok (Value.slice none 0 0) w
  t23 : P.underlying 23 = some (TypeDesc.int IntKind.u16)
  a23 : ∀ w, (isAgg 23).run P w = .ok false w
  z23 : ∀ w, (Go.sizeOf 23).run P w = .ok 1 w
  v23 : ∀ w, (zeroValue 23).run P w = .ok (Value.int IntKind.u16 0) w
  t24 : P.underlying 24 = some (TypeDesc.pointer 86)
  a24 : ∀ w, (isAgg 24).run P w = .ok false w
  z24 : ∀ w, (Go.sizeOf 24).run P w = .ok 1 w
  v24 : ∀ w, (zeroValue 24).run P w = .ok (Value.pointer none) w
  t26 : P.underlying 26 = some (TypeDesc.slice 82)
  a26 : ∀ w, (isAgg 26).run P w = .ok false w
  z26 : ∀ w, (Go.sizeOf 26).run P w = .ok 1 w
  v26 : ∀ w, (zeroValue 26).run P w = .ok (Value.slice none 0 0) w
  t28 : P.underlying 28 = some (TypeDesc.slice 49)
  a28 : ∀ w, (isAgg 28).run P w = .ok false w
  z28 : ∀ w, (Go.sizeOf 28).run P w = .ok 1 w
  v28 : ∀ w, (zeroValue 28).run P w = .ok (Value.slice none 0 0) w
  t51 : P.underlying 51 = some (TypeDesc.int IntKind.u64)
  a51 : ∀ w, (isAgg 51).run P w = .ok false w
  z51 : ∀ w, (Go.sizeOf 51).run P w = .ok 1 w
  v51 : ∀ w, (zeroValue 51).run P w = .ok (Value.int IntKind.u64 0) w
  t62 : P.underlying 62 = some (TypeDesc.slice 23)
  a62 : ∀ w, (isAgg 62).run P w = .ok false w
  z62 : ∀ w, (Go.sizeOf 62).run P w = .ok 1 w
  v62 : ∀ w, (zeroValue 62).run P w = .ok (Value.slice none 0 0) w
  t67 : P.underlying 67 = some (TypeDesc.slice 30)
  a67 : ∀ w, (isAgg 67).run P w = .ok false w
  z67 : ∀ w, (Go.sizeOf 67).run P w = .ok 1 w
  v67 : ∀ w, (zeroValue 67).run P w = .ok (Value.slice none 0 0) w
  t69 : P.underlying 69 = some (TypeDesc.slice 3)
  a69 : ∀ w, (isAgg 69).run P w = .ok false w
  z69 : ∀ w, (Go.sizeOf 69).run P w = .ok 1 w
  v69 : ∀ w, (zeroValue 69).run P w = .ok (Value.slice none 0 0) w
  t30 : P.underlying 30 = some (TypeDesc.struct #[{ name := "Id", type := 3, offset := 0, embedded := false, tag := "", pkgPath := "", byteOffset := 0 }, { name := "Card", type := 3, offset := 1, embedded := false, tag := "", pkgPath := "", byteOffset := 8 }, { name := "Owner", type := 3, offset := 2, embedded := false, tag := "", pkgPath := "", byteOffset := 16 }, { name := "Ctrl", type := 3, offset := 3, embedded := false, tag := "", pkgPath := "", byteOffset := 24 }, { name := "Zone", type := 3, offset := 4, embedded := false, tag := "", pkgPath := "", byteOffset := 32 }, { name := "Tapped", type := 4, offset := 5, embedded := false, tag := "", pkgPath := "", byteOffset := 40 }, { name := "Sick", type := 4, offset := 6, embedded := false, tag := "", pkgPath := "", byteOffset := 41 }, { name := "Token", type := 4, offset := 7, embedded := false, tag := "", pkgPath := "", byteOffset := 42 }, { name := "Hurt", type := 3, offset := 8, embedded := false, tag := "", pkgPath := "", byteOffset := 48 }, { name := "Stamp", type := 3, offset := 9, embedded := false, tag := "", pkgPath := "", byteOffset := 56 }, { name := "Attack", type := 3, offset := 10, embedded := false, tag := "", pkgPath := "", byteOffset := 64 }, { name := "Block", type := 3, offset := 11, embedded := false, tag := "", pkgPath := "", byteOffset := 72 }, { name := "Stopped", type := 4, offset := 12, embedded := false, tag := "", pkgPath := "", byteOffset := 80 }, { name := "Effects", type := 28, offset := 13, embedded := false, tag := "", pkgPath := "", byteOffset := 88 }])
  a30 : ∀ w, (isAgg 30).run P w = .ok true w
  z30 : ∀ w, (Go.sizeOf 30).run P w = .ok k30 w
  v30 : ∀ w, (zeroValue 30).run P w = .ok (.agg y30.toArray) w
  t75 : P.underlying 75 = some (TypeDesc.struct #[{ name := "Players", type := 66, offset := 0, embedded := false, tag := "", pkgPath := "", byteOffset := 0 }, { name := "Objs", type := 67, offset := 1, embedded := false, tag := "", pkgPath := "", byteOffset := 24 }, { name := "Libs", type := 68, offset := 2, embedded := false, tag := "", pkgPath := "", byteOffset := 48 }, { name := "Hands", type := 68, offset := 3, embedded := false, tag := "", pkgPath := "", byteOffset := 72 }, { name := "Graves", type := 68, offset := 4, embedded := false, tag := "", pkgPath := "", byteOffset := 96 }, { name := "Exiles", type := 68, offset := 5, embedded := false, tag := "", pkgPath := "", byteOffset := 120 }, { name := "Field", type := 69, offset := 6, embedded := false, tag := "", pkgPath := "", byteOffset := 144 }, { name := "Stack", type := 70, offset := 7, embedded := false, tag := "", pkgPath := "", byteOffset := 168 }, { name := "Waits", type := 70, offset := 8, embedded := false, tag := "", pkgPath := "", byteOffset := 192 }, { name := "Turn", type := 3, offset := 9, embedded := false, tag := "", pkgPath := "", byteOffset := 216 }, { name := "Active", type := 3, offset := 10, embedded := false, tag := "", pkgPath := "", byteOffset := 224 }, { name := "Phase", type := 3, offset := 11, embedded := false, tag := "", pkgPath := "", byteOffset := 232 }, { name := "Prio", type := 3, offset := 12, embedded := false, tag := "", pkgPath := "", byteOffset := 240 }, { name := "Passes", type := 3, offset := 13, embedded := false, tag := "", pkgPath := "", byteOffset := 248 }, { name := "Blocker", type := 3, offset := 14, embedded := false, tag := "", pkgPath := "", byteOffset := 256 }, { name := "Next", type := 3, offset := 15, embedded := false, tag := "", pkgPath := "", byteOffset := 264 }, { name := "Stamp", type := 3, offset := 16, embedded := false, tag := "", pkgPath := "", byteOffset := 272 }, { name := "Used", type := 3, offset := 17, embedded := false, tag := "", pkgPath := "", byteOffset := 280 }, { name := "Cast", type := 73, offset := 18, embedded := false, tag := "", pkgPath := "", byteOffset := 288 }, { name := "Outcome", type := 3, offset := 23, embedded := false, tag := "", pkgPath := "", byteOffset := 344 }, { name := "Winner", type := 3, offset := 24, embedded := false, tag := "", pkgPath := "", byteOffset := 352 }])
  a75 : ∀ w, (isAgg 75).run P w = .ok true w
  z75 : ∀ w, (Go.sizeOf 75).run P w = .ok k75 w
  v75 : ∀ w, (zeroValue 75).run P w = .ok (.agg y75.toArray) w
  t63 : P.underlying 63 = some (TypeDesc.array 16 30)
  a63 : ∀ w, (isAgg 63).run P w = .ok true w
  z63 : ∀ w, (Go.sizeOf 63).run P w = .ok k63 w
  v63 : ∀ w, (zeroValue 63).run P w = .ok (.agg y63.toArray) w
  t64 : P.underlying 64 = some (TypeDesc.array 16 4)
  a64 : ∀ w, (isAgg 64).run P w = .ok true w
  z64 : ∀ w, (Go.sizeOf 64).run P w = .ok k64 w
  v64 : ∀ w, (zeroValue 64).run P w = .ok (.agg y64.toArray) w
  t65 : P.underlying 65 = some (TypeDesc.array 16 36)
  a65 : ∀ w, (isAgg 65).run P w = .ok true w
  z65 : ∀ w, (Go.sizeOf 65).run P w = .ok k65 w
  v65 : ∀ w, (zeroValue 65).run P w = .ok (.agg y65.toArray) w
  t36 : P.underlying 36 = some (TypeDesc.struct #[{ name := "Power", type := 3, offset := 0, embedded := false, tag := "", pkgPath := "", byteOffset := 0 }, { name := "Tough", type := 3, offset := 1, embedded := false, tag := "", pkgPath := "", byteOffset := 8 }, { name := "Keys", type := 3, offset := 2, embedded := false, tag := "", pkgPath := "", byteOffset := 16 }])
  a36 : ∀ w, (isAgg 36).run P w = .ok true w
  z36 : ∀ w, (Go.sizeOf 36).run P w = .ok 3 w
  v36 : ∀ w, (zeroValue 36).run P w = .ok (Value.agg #[Value.int IntKind.i64 0, Value.int IntKind.i64 0, Value.int IntKind.i64 0]) w
  t49 : P.underlying 49 = some (TypeDesc.struct #[{ name := "Op", type := 3, offset := 0, embedded := false, tag := "", pkgPath := "", byteOffset := 0 }, { name := "A", type := 3, offset := 1, embedded := false, tag := "", pkgPath := "", byteOffset := 8 }, { name := "B", type := 3, offset := 2, embedded := false, tag := "", pkgPath := "", byteOffset := 16 }, { name := "Stamp", type := 3, offset := 3, embedded := false, tag := "", pkgPath := "", byteOffset := 24 }])
  a49 : ∀ w, (isAgg 49).run P w = .ok true w
  z49 : ∀ w, (Go.sizeOf 49).run P w = .ok 4 w
  v49 : ∀ w, (zeroValue 49).run P w = .ok (Value.agg #[Value.int IntKind.i64 0, Value.int IntKind.i64 0, Value.int IntKind.i64 0, Value.int IntKind.i64 0]) w
  t53 : P.underlying 53 = some (TypeDesc.array 4 51)
  a53 : ∀ w, (isAgg 53).run P w = .ok true w
  z53 : ∀ w, (Go.sizeOf 53).run P w = .ok 4 w
  v53 : ∀ w, (zeroValue 53).run P w = .ok (Value.agg #[Value.int IntKind.u64 0, Value.int IntKind.u64 0, Value.int IntKind.u64 0, Value.int IntKind.u64 0]) w
  t32 : P.underlying 32 = some (TypeDesc.struct #[{ name := "Slot", type := 5, offset := 0, embedded := false, tag := "", pkgPath := "", byteOffset := 0 }, { name := "Card", type := 5, offset := 1, embedded := false, tag := "", pkgPath := "", byteOffset := 1 }, { name := "Player", type := 5, offset := 2, embedded := false, tag := "", pkgPath := "", byteOffset := 2 }, { name := "Pump", type := 5, offset := 3, embedded := false, tag := "", pkgPath := "", byteOffset := 3 }])
  a32 : ∀ w, (isAgg 32).run P w = .ok true w
  z32 : ∀ w, (Go.sizeOf 32).run P w = .ok 4 w
  v32 : ∀ w, (zeroValue 32).run P w = .ok (Value.agg #[Value.int IntKind.u8 0, Value.int IntKind.u8 0, Value.int IntKind.u8 0, Value.int IntKind.u8 0]) w
  z66 : ∀ w, (Go.sizeOf 66).run P w = .ok 1 w
  z68 : ∀ w, (Go.sizeOf 68).run P w = .ok 1 w
  z70 : ∀ w, (Go.sizeOf 70).run P w = .ok 1 w
  z73 : ∀ w, (Go.sizeOf 73).run P w = .ok 5 w
  eq36 : ∀ (a b c : Int) (W : World), Sem.run P (Op.equalIn 10000 36 (.agg #[.int .i64 a, .int .i64 b, .int .i64 c]) (.agg #[.int .i64 a, .int .i64 b, .int .i64 c])) W = .ok true W
  g36 : ∀ (x y : Operand) (p q : Array Value) (W : World), Sem.run P (eqGuard .neq 36 x y (.agg p) (.agg q)) W = .ok () W
  i30 : ∃ i z, P.info? 30 = some i ∧ i.zero = some z ∧ z.cells.size = k30 ∧ i.size = k30 ∧ i.bytes ≤ 1000
  i3 : ∃ i z, P.info? 3 = some i ∧ i.zero = some z ∧ z.cells.size = 1 ∧ i.size = 1 ∧ i.bytes ≤ 1000
def zt75 : List Value := [Value.slice none 0 0, Value.slice none 0 0, Value.slice none 0 0, Value.slice none 0 0, Value.slice none 0 0, Value.slice none 0 0, Value.slice none 0 0, Value.slice none 0 0, Value.slice none 0 0, Value.int IntKind.i64 0, Value.int IntKind.i64 0, Value.int IntKind.i64 0, Value.int IntKind.i64 0, Value.int IntKind.i64 0, Value.int IntKind.i64 0, Value.int IntKind.i64 0, Value.int IntKind.i64 0, Value.int IntKind.i64 0, Value.int IntKind.i64 0, Value.int IntKind.i64 0, Value.int IntKind.i64 0, Value.slice none 0 0, Value.bool false, Value.int IntKind.i64 0, Value.int IntKind.i64 0]
def zt63 : List Value := (List.replicate 16 zO.arr.toList).flatten
def zt64 : List Value := List.replicate 16 (.bool false)
def zt65 : List Value := (List.replicate 16 (encV (0, 0, 0))).flatten
theorem inf_of {e k b : Nat} {z : Value} (h : (Try.prog.info? e).map (fun i => (i.zero, i.size, i.bytes)) = some (some z, k, b)) (hz : z.cells.size = k) (hb : b ≤ 1000) : ∃ i z, Try.prog.info? e = some i ∧ i.zero = some z ∧ z.cells.size = k ∧ i.size = k ∧ i.bytes ≤ 1000 := by
  cases hi : Try.prog.info? e with
  | none => rw [hi] at h; cases h
  | some i =>
    rw [hi] at h
    injection h with h
    injection h with h1 h2
    injection h2 with h2 h3
    exact ⟨i, z, rfl, h1, hz, h2, by rw [h3]; exact hb⟩
theorem eq36 (a b c : Int) (W : World) : Sem.run Try.prog (Op.equalIn 10000 36 (.agg #[.int .i64 a, .int .i64 b, .int .i64 c]) (.agg #[.int .i64 a, .int .i64 b, .int .i64 c])) W = .ok true W := by
  have u3 := Try.underlying3
  have a3 := Try.isAgg3
  have z3 := Try.sizeOf3
  have hS : Try.prog.underlying 36 = some (.struct (Try.prog.fieldsOf 36)) := by kernel_rfl
  have hp : Try.prog.stoodInHeld 36 = false := by kernel_rfl
  rw [show (10000 : Nat) = 9999 + 1 from rfl, run_equalIn_agg W 9999 36 _ _ hS hp]
  simp only [Program.fieldsOf, Try.underlying36]
  go_simp
theorem g36 (x y : Operand) (p q : Array Value) (W : World) : Sem.run Try.prog (eqGuard .neq 36 x y (.agg p) (.agg q)) W = .ok () W := by
  have h : Try.prog.eqGuardType Try.prog.depth 36 = false := by kernel_rfl
  simp [eqGuard, go_sem, h]
theorem layT : LayT Try.prog 14 25 224 16 48 zO.arr.toList zt75 zt63 zt64 zt65 where
  mixed := by kernel_rfl
  f6 := Try.func6
  e7 := enters_of Try.func7 (by kernel_rfl) rfl
  e8 := enters_of Try.func8 (by kernel_rfl) rfl
  e10 := enters_of Try.func10 (by kernel_rfl) rfl
  e11 := enters_of Try.func11 (by kernel_rfl) rfl
  e12 := enters_of Try.func12 (by kernel_rfl) rfl
  e17 := enters_of Try.func17 (by kernel_rfl) rfl
  e20 := enters_of Try.func20 (by kernel_rfl) rfl
  e21 := enters_of Try.func21 (by kernel_rfl) rfl
  e23 := enters_of Try.func23 (by kernel_rfl) rfl
  t3 := Try.underlying3
  a3 := Try.isAgg3
  z3 := Try.sizeOf3
  v3 := Try.zeroValue3
  t4 := Try.underlying4
  a4 := Try.isAgg4
  z4 := Try.sizeOf4
  v4 := Try.zeroValue4
  t5 := Try.underlying5
  a5 := Try.isAgg5
  z5 := Try.sizeOf5
  v5 := Try.zeroValue5
  t22 := Try.underlying22
  a22 := Try.isAgg22
  z22 := Try.sizeOf22
  v22 := Try.zeroValue22
  t23 := Try.underlying23
  a23 := Try.isAgg23
  z23 := Try.sizeOf23
  v23 := Try.zeroValue23
  t24 := Try.underlying24
  a24 := Try.isAgg24
  z24 := Try.sizeOf24
  v24 := Try.zeroValue24
  t26 := Try.underlying26
  a26 := Try.isAgg26
  z26 := Try.sizeOf26
  v26 := Try.zeroValue26
  t28 := Try.underlying28
  a28 := Try.isAgg28
  z28 := Try.sizeOf28
  v28 := Try.zeroValue28
  t51 := Try.underlying51
  a51 := Try.isAgg51
  z51 := Try.sizeOf51
  v51 := Try.zeroValue51
  t62 := Try.underlying62
  a62 := Try.isAgg62
  z62 := Try.sizeOf62
  v62 := Try.zeroValue62
  t67 := Try.underlying67
  a67 := Try.isAgg67
  z67 := Try.sizeOf67
  v67 := Try.zeroValue67
  t69 := Try.underlying69
  a69 := Try.isAgg69
  z69 := Try.sizeOf69
  v69 := Try.zeroValue69
  t30 := Try.underlying30
  a30 := Try.isAgg30
  z30 := Try.sizeOf30
  v30 := fun w => (Try.zeroValue30 w).trans rfl
  t75 := Try.underlying75
  a75 := Try.isAgg75
  z75 := Try.sizeOf75
  v75 := fun w => (Try.zeroValue75 w).trans rfl
  t63 := Try.underlying63
  a63 := Try.isAgg63
  z63 := Try.sizeOf63
  v63 := fun w => (Try.zeroValue63 w).trans rfl
  t64 := Try.underlying64
  a64 := Try.isAgg64
  z64 := Try.sizeOf64
  v64 := fun w => (Try.zeroValue64 w).trans rfl
  t65 := Try.underlying65
  a65 := Try.isAgg65
  z65 := Try.sizeOf65
  v65 := fun w => (Try.zeroValue65 w).trans rfl
  t36 := Try.underlying36
  a36 := Try.isAgg36
  z36 := Try.sizeOf36
  v36 := Try.zeroValue36
  t49 := Try.underlying49
  a49 := Try.isAgg49
  z49 := Try.sizeOf49
  v49 := Try.zeroValue49
  t53 := Try.underlying53
  a53 := Try.isAgg53
  z53 := Try.sizeOf53
  v53 := Try.zeroValue53
  t32 := Try.underlying32
  a32 := Try.isAgg32
  z32 := Try.sizeOf32
  v32 := Try.zeroValue32
  z66 := Try.sizeOf66
  z68 := Try.sizeOf68
  z70 := Try.sizeOf70
  z73 := Try.sizeOf73
  eq36 := eq36
  g36 := g36
  i30 := inf_of (z := .agg zO.arr) (b := 112) (by kernel_rfl) rfl (by decide)
  i3 := inf_of (z := .int .i64 0) (b := 8) (by kernel_rfl) rfl (by decide)
end Go.Proofs.Yticgadnmlbfmfaa.cachePlays
/-
  Chapter 25: what the law CacheState holds.
-/
namespace Go.Proofs.Yticgadnmlbfmfaa.cachePlays
open Go.Shelf Go.RowKit Go.Lib Go.Sort Go.Maps
/-- Blocks that no cache has, nor the law's boxes. -/
def Fre (Y : Nat → Prop) (bh bi bt : Nat) (b : Nat) : Prop := ¬ Y b ∧ b ≠ bh ∧ b ≠ bi ∧ b ≠ bt
def tD (D : Nat → Sl) : Int → Int × Int × Int := fun k => if 0 ≤ k ∧ k < 16 then (D k.toNat).t else (0, 0, 0)
/-- The law's memory: three boxes, the objects' effects. -/
structure Lw (w0 : World) (bh bi bt : Nat) (D : Nat → Sl) (Y : Nat → Prop) (W : World) : Prop where
  b : Below w0.heap.size w0 W
  n : w0.heap.size ≤ bh ∧ w0.heap.size ≤ bi ∧ w0.heap.size ≤ bt
  d : bh ≠ bi ∧ bh ≠ bt ∧ bi ≠ bt
  y : ¬ Y bh ∧ ¬ Y bi ∧ ¬ Y bt
  y0 : ∀ k, Y k → w0.heap.size ≤ k
  yl : ∀ k, Y k → k < W.heap.size
  ch : W.heap[bh]? = some (.cells (flatN (fun k => (D k).o.arr.toList) 16).toArray 63)
  ci : W.heap[bi]? = some (.cells (flatN (fun k => [.bool (D k).is]) 16).toArray 64)
  ct : W.heap[bt]? = some (.cells (flatN (fun k => encV (D k).t) 16).toArray 65)
  e : ∀ k, k < 16 → (D k).is = true → RowsZ (Fre Y bh bi bt) W (D k).o.ea 4 ((D k).e.map encE)
  ok : ∀ k, k < 16 → (D k).is = true → (D k).ok k
theorem Lw.keep {w0 W W' : World} {bh bi bt : Nat} {D : Nat → Sl} {Y Y' : Nat → Prop} (h : Lw w0 bh bi bt D Y W) (g : OutK Y W W') (hy : ∀ k, Y' k → Y k ∨ W.heap.size ≤ k ∧ k < W'.heap.size) : Lw w0 bh bi bt D Y' W' := by
  obtain ⟨n1, n2, n3⟩ := h.n
  obtain ⟨y1, y2, y3⟩ := h.y
  have l1 := blk_lt h.ch
  have l2 := blk_lt h.ci
  have l3 := blk_lt h.ct
  have s := h.b.size
  have no : ∀ k, k < W.heap.size → ¬ Y k → ¬ Y' k := fun k hk hn hy' => by
    rcases hy k hy' with h1 | h1
    · exact hn h1
    · omega
  refine ⟨OutK.below h.b g h.y0 s, ⟨n1, n2, n3⟩, h.d, ⟨no _ l1 y1, no _ l2 y2, no _ l3 y3⟩, fun k hk => ?_, fun k hk => ?_, (g.k _ l1 y1).trans h.ch, (g.k _ l2 y2).trans h.ci, (g.k _ l3 y3).trans h.ct, fun k hk hi => ?_, h.ok⟩
  · rcases hy k hk with h1 | h1
    · exact h.y0 k h1
    · omega
  · rcases hy k hk with h1 | h1
    · exact Nat.lt_of_lt_of_le (h.yl k h1) g.size
    · omega
  · rcases h.e k hk hi with h1 | ⟨B, O, e, hz, hb, hc⟩
    · exact .inl h1
    · refine .inr ⟨B, O, e, ⟨no B hb hz.1, hz.2⟩, Nat.lt_of_lt_of_le hb g.size, fun i x hx j v hj => ?_⟩
      have := hc i x hx j v hj
      unfold World.cell? at this ⊢
      rw [g.k B hb hz.1]
      exact this
theorem outK_gr {Y : Nat → Prop} {W W' : World} (g : Gr W W') : OutK Y W W' :=
  have h := gr_grown g
  ⟨h.os, h.tape, h.output, h.size, fun k hk _ => h.block k hk (by simp)⟩
theorem Lw.gr {w0 W W' : World} {bh bi bt : Nat} {D : Nat → Sl} {Y : Nat → Prop} (h : Lw w0 bh bi bt D Y W) (g : Gr W W') : Lw w0 bh bi bt D Y W' := h.keep (outK_gr g) fun _ hk => .inl hk
/-- The whole of it. -/
structure Ls (w0 : World) (bh bi bt cb : Nat) (D : Nat → Sl) (K : Ca) (T : Int → Int × Int × Int) (Y : Nat → Prop) (W : World) : Prop where
  m : Lw w0 bh bi bt D Y W
  h : HoldK Y K cb W
  s : K.sl = slS D
  t : Tld K T
theorem Ls.gr {w0 W W' : World} {bh bi bt cb : Nat} {D : Nat → Sl} {K : Ca} {T : Int → Int × Int × Int} {Y : Nat → Prop} (h : Ls w0 bh bi bt cb D K T Y W) (g : Gr W W') : Ls w0 bh bi bt cb D K T Y W' := ⟨h.m.gr g, h.h.gr g, h.s, h.t⟩
theorem outK_below {Y : Nat → Prop} {W W' : World} (h : Below W.heap.size W W') : OutK Y W W' := ⟨h.os, h.tape, h.output, h.size, fun k hk _ => h.block k hk⟩
theorem Ls.below {w0 W W' : World} {bh bi bt cb : Nat} {D : Nat → Sl} {K : Ca} {T : Int → Int × Int × Int} {Y : Nat → Prop} (h : Ls w0 bh bi bt cb D K T Y W) (g : Below W.heap.size W W') : Ls w0 bh bi bt cb D K T Y W' := ⟨h.m.keep (outK_below g) fun _ hk => .inl hk, h.h.keep g.size fun k hk => g.block k (h.h.y k hk), h.s, h.t⟩
theorem setMany_flatN {f g : Nat → List Value} {k n i : Nat} {v : List Value} (hf : ∀ j, j < n → (f j).length = k) (hg : ∀ j, j < n → (g j).length = k) (hi : i < n) (hv : g i = v) (ho : ∀ j, j ≠ i → g j = f j) : setMany (flatN f n).toArray (i * k) v = (flatN g n).toArray := by
  have lf := flatN_len (f := f) (k := k) (n := n) hf
  have lg := flatN_len (f := g) (k := k) (n := n) hg
  have lv : v.length = k := by rw [← hv]; exact hg i hi
  refine ext_get! (by simp [lf, lg]) fun t ht => ?_
  have ht' : t < n * k := by simpa [lf] using ht
  rw [get_setMany _ _ _ t (by simpa [lf] using ht')]
  have hk : 0 < k := by
    rcases Nat.eq_zero_or_pos k with h | h
    · rw [h, Nat.mul_zero] at ht'
      omega
    · exact h
  have hd : t / k < n := Nat.div_lt_of_lt_mul (by rw [Nat.mul_comm]; exact ht')
  have hm : t % k < k := Nat.mod_lt _ hk
  have hdm : t / k * k + t % k = t := Nat.div_add_mod' t k
  have eg : (flatN g n).toArray[t]! = (g (t / k))[t % k]! := by
    have := flatN_get hg (t / k) (t % k) hd hm
    rw [hdm] at this
    rw [getElem!_def, getElem!_def]
    simp only [List.getElem?_toArray, this]
  have ef : (flatN f n).toArray[t]! = (f (t / k))[t % k]! := by
    have := flatN_get hf (t / k) (t % k) hd hm
    rw [hdm] at this
    rw [getElem!_def, getElem!_def]
    simp only [List.getElem?_toArray, this]
  rw [eg, ef]
  by_cases e : t / k = i
  · have h1 : i * k ≤ t ∧ t < i * k + v.length := by
      rw [lv, ← e]
      omega
    rw [if_pos h1, e, hv]
    congr 1
    rw [← e]
    omega
  · have h1 : ¬ (i * k ≤ t ∧ t < i * k + v.length) := by
      rintro ⟨h1, h2⟩
      rw [lv] at h2
      apply e
      have := Nat.le_div_iff_mul_le hk |>.2 h1
      have h3 : t < (i + 1) * k := by rw [Nat.add_mul, Nat.one_mul]; exact h2
      have : t / k < i + 1 := Nat.div_lt_of_lt_mul (by rw [Nat.mul_comm]; exact h3)
      omega
    rw [if_neg h1, ho _ e]
/-- A slot changed. -/
def upS (D : Nat → Sl) (i : Nat) (x : Sl) : Nat → Sl := fun k => if k = i then x else D k
theorem upS_same (D : Nat → Sl) (i : Nat) (x : Sl) : upS D i x i = x := if_pos rfl
theorem upS_ne (D : Nat → Sl) {i j : Nat} (x : Sl) (h : j ≠ i) : upS D i x j = D j := if_neg h
theorem out_sets {Y : Nat → Prop} {W : World} {b : Nat} (vs : List Value) (o : Nat) (h : Y b) : OutK Y W (W.setCells b o vs) :=
  have g := grown_sets (w := W) b vs o
  ⟨g.os, g.tape, g.output, g.size, fun k hk hn => g.block k hk (fun e => by injection e with e; exact hn (e ▸ h))⟩
end Go.Proofs.Yticgadnmlbfmfaa.cachePlays
/-
  Chapter 25: the law CacheState's steps.
-/
namespace Go.Proofs.Yticgadnmlbfmfaa.cachePlays
open Go.Shelf Go.RowKit Go.Lib Go.Sort Go.Maps
theorem Lw.lt {w0 W : World} {bh bi bt : Nat} {D : Nat → Sl} {Y : Nat → Prop} (h : Lw w0 bh bi bt D Y W) : bh < W.heap.size ∧ bi < W.heap.size ∧ bt < W.heap.size := ⟨blk_lt h.ch, blk_lt h.ci, blk_lt h.ct⟩
theorem set1 (W : World) (b o : Nat) (v : Value) : W.setCells b o [v] = W.setCell ⟨b, o, none⟩ v := rfl
/-- A box is written. -/
theorem Lw.write {w0 W W' : World} {bh bi bt : Nat} {D D' : Nat → Sl} {Y : Nat → Prop} (h : Lw w0 bh bi bt D Y W) (g : OutK (fun b => b = bh ∨ b = bi ∨ b = bt) W W')
    (ch : W'.heap[bh]? = some (.cells (flatN (fun k => (D' k).o.arr.toList) 16).toArray 63)) (ci : W'.heap[bi]? = some (.cells (flatN (fun k => [.bool (D' k).is]) 16).toArray 64)) (ct : W'.heap[bt]? = some (.cells (flatN (fun k => encV (D' k).t) 16).toArray 65))
    (e : ∀ k, k < 16 → (D' k).is = true → RowsZ (Fre Y bh bi bt) W (D' k).o.ea 4 ((D' k).e.map encE)) (ok : ∀ k, k < 16 → (D' k).is = true → (D' k).ok k) : Lw w0 bh bi bt D' Y W' := by
  obtain ⟨n1, n2, n3⟩ := h.n
  refine ⟨OutK.below h.b g (fun k hk => by rcases hk with rfl | rfl | rfl <;> assumption) h.b.size, h.n, h.d, h.y, h.y0, fun k hk => Nat.lt_of_lt_of_le (h.yl k hk) g.size, ch, ci, ct, fun k hk hi => ?_, ok⟩
  rcases e k hk hi with h1 | ⟨B, O, e, hz, hb, hc⟩
  · exact .inl h1
  · refine .inr ⟨B, O, e, hz, Nat.lt_of_lt_of_le hb g.size, fun i x hx j v hj => ?_⟩
    have := hc i x hx j v hj
    unfold World.cell? at this ⊢
    rw [g.k B hb (fun hh => hh.elim hz.2.1 fun hh => hh.elim hz.2.2.1 hz.2.2.2)]
    exact this
theorem HoldK.out {Y X : Nat → Prop} {K : Ca} {cb : Nat} {W W' : World} (h : HoldK Y K cb W) (g : OutK X W W') (hd : ∀ k, Y k → ¬ X k) : HoldK Y K cb W' := h.keep g.size fun k hk => g.k k (h.y k hk) (hd k hk)
theorem Lw.noY {w0 W : World} {bh bi bt : Nat} {D : Nat → Sl} {Y : Nat → Prop} (h : Lw w0 bh bi bt D Y W) : ∀ k, Y k → ¬ (k = bh ∨ k = bi ∨ k = bt) := by
  obtain ⟨y1, y2, y3⟩ := h.y
  rintro k hk (rfl | rfl | rfl)
  · exact y1 hk
  · exact y2 hk
  · exact y3 hk
def offS (x : Sl) : Sl := ⟨x.o, x.e, false, x.t⟩
def telS (x : Sl) (v : Int × Int × Int) : Sl := ⟨x.o, x.e, x.is, v⟩
theorem slS_up {D : Nat → Sl} {k : Nat} (hk : k < 16) {x : Sl} (hx : x.is = true) : slS (upS D k x) = fun j => if j = (k : Int) then some (hdS x) else slS D j := by
  funext j
  unfold slS
  by_cases e : j = (k : Int)
  · subst e
    rw [if_pos rfl, if_pos ⟨by omega, by omega, by rw [Int.toNat_natCast, upS_same]; exact hx⟩, Int.toNat_natCast, upS_same]
  · rw [if_neg e]
    by_cases h : 0 ≤ j ∧ j < 16
    · rw [upS_ne D x (by omega)]
    · rw [if_neg (fun hh => h ⟨hh.1, hh.2.1⟩), if_neg (fun hh => h ⟨hh.1, hh.2.1⟩)]
theorem slS_off {D : Nat → Sl} {k : Nat} {x : Sl} (hx : x.is = false) : slS (upS D k x) = fun j => if j = (k : Int) then none else slS D j := by
  funext j
  unfold slS
  by_cases e : j = (k : Int)
  · subst e
    rw [if_pos rfl, if_neg]
    rintro ⟨_, _, h⟩
    rw [Int.toNat_natCast, upS_same, hx] at h
    cases h
  · rw [if_neg e]
    by_cases h : 0 ≤ j ∧ j < 16
    · rw [upS_ne D x (by omega)]
    · rw [if_neg (fun hh => h ⟨hh.1, hh.2.1⟩), if_neg (fun hh => h ⟨hh.1, hh.2.1⟩)]
theorem slS_told {D : Nat → Sl} {k : Nat} {v : Int × Int × Int} : slS (upS D k (telS (D k) v)) = slS D := by
  funext j
  unfold slS
  by_cases e : j.toNat = k
  · rw [e, upS_same]
    rfl
  · rw [upS_ne D _ e]
theorem tD_up {D : Nat → Sl} {k : Nat} (hk : k < 16) (x : Sl) : tD (upS D k x) = fun j => if j = (k : Int) then x.t else tD D j := by
  funext j
  unfold tD
  by_cases e : j = (k : Int)
  · subst e
    rw [if_pos rfl, if_pos ⟨by omega, by omega⟩, Int.toNat_natCast, upS_same]
  · rw [if_neg e]
    by_cases h : 0 ≤ j ∧ j < 16
    · rw [upS_ne D x (by omega)]
    · rw [if_neg h, if_neg h]
theorem tD_same {D : Nat → Sl} {k : Nat} (hk : k < 16) {x : Sl} (hx : x.t = (D k).t) : tD (upS D k x) = tD D := by
  rw [tD_up hk]
  funext j
  split
  · rename_i e
    subst e
    rw [hx]
    unfold tD
    rw [if_pos ⟨by omega, by omega⟩, Int.toNat_natCast]
  · rfl
section
variable {w0 W W1 : World} {bh bi bt cb : Nat} {D : Nat → Sl} {K : Ca} {T : Int → Int × Int × Int} {Y : Nat → Prop}
theorem ch_up (h : Lw w0 bh bi bt D Y W) {k : Nat} (hk : k < 16) (x : Sl) : (W.setCells bh (k * 14) x.o.arr.toList).heap[bh]? = some (.cells (flatN (fun j => ((upS D k x) j).o.arr.toList) 16).toArray 63) := by
  rw [blk_sets _ _ _ _ h.ch, setMany_flatN (f := fun j => (D j).o.arr.toList) (g := fun j => ((upS D k x) j).o.arr.toList) (fun _ _ => rfl) (fun _ _ => rfl) hk (by rw [upS_same]) (fun j hj => by rw [upS_ne D x hj])]
theorem ci_up {W2 : World} (h : W2.heap[bi]? = some (.cells (flatN (fun j => [.bool (D j).is]) 16).toArray 64)) {k : Nat} (hk : k < 16) (x : Sl) : (W2.setCell ⟨bi, k, none⟩ (.bool x.is)).heap[bi]? = some (.cells (flatN (fun j => [.bool ((upS D k x) j).is]) 16).toArray 64) := by
  rw [← set1, blk_sets _ _ _ _ h]
  have := setMany_flatN (f := fun j => [Value.bool (D j).is]) (g := fun j => [Value.bool ((upS D k x) j).is]) (k := 1) (n := 16) (i := k) (v := [.bool x.is]) (fun _ _ => rfl) (fun _ _ => rfl) hk (by rw [upS_same]) (fun j hj => by rw [upS_ne D x hj])
  rw [Nat.mul_one] at this
  rw [this]
theorem ct_up (h : Lw w0 bh bi bt D Y W) {k : Nat} (hk : k < 16) (x : Sl) : (W.setCells bt (k * 3) (encV x.t)).heap[bt]? = some (.cells (flatN (fun j => encV ((upS D k x) j).t) 16).toArray 65) := by
  rw [blk_sets _ _ _ _ h.ct, setMany_flatN (f := fun j => encV (D j).t) (g := fun j => encV ((upS D k x) j).t) (fun _ _ => rfl) (fun _ _ => rfl) hk (by rw [upS_same]) (fun j hj => by rw [upS_ne D x hj])]
theorem ct_id {D' : Nat → Sl} (h : ∀ j, j < 16 → (D' j).t = (D j).t) : flatN (fun j => encV (D' j).t) 16 = flatN (fun j => encV (D j).t) 16 := by
  unfold flatN
  exact flat_congr _ fun j hj => by rw [h j (List.mem_range.1 hj)]
theorem ch_id {D' : Nat → Sl} (h : ∀ j, j < 16 → (D' j).o = (D j).o) : flatN (fun j => (D' j).o.arr.toList) 16 = flatN (fun j => (D j).o.arr.toList) 16 := by
  unfold flatN
  exact flat_congr _ fun j hj => by rw [h j (List.mem_range.1 hj)]
theorem ci_id {D' : Nat → Sl} (h : ∀ j, j < 16 → (D' j).is = (D j).is) : flatN (fun j => [Value.bool (D' j).is]) 16 = flatN (fun j => [Value.bool (D j).is]) 16 := by
  unfold flatN
  exact flat_congr _ fun j hj => by rw [h j (List.mem_range.1 hj)]
theorem yn_or : ∀ k, YN Y W W1 k → Y k ∨ W.heap.size ≤ k ∧ k < W1.heap.size := fun _ h => h
/-- Put, and what the law notes of it. -/
theorem ls_put (h : Ls w0 bh bi bt cb D K (tD D) Y W) {k : Nat} (hk : k < 16) {x : Sl} (ok : x.ok k) (hi : x.is = true) (ht : x.t = (D k).t) (he : RowsZ (Fre Y bh bi bt) W x.o.ea 4 (x.e.map encE)) (h1 : HoldK (YN Y W W1) (K.put k (hdS x)) cb W1) (o1 : OutK Y W W1) :
    Ls w0 bh bi bt cb (upS D k x) (K.put k (hdS x)) (tD (upS D k x)) (YN Y W W1) ((W1.setCells bh (k * 14) x.o.arr.toList).setCell ⟨bi, k, none⟩ (.bool true)) := by
  have m1 := h.m.keep o1 yn_or
  obtain ⟨d1, d2, d3⟩ := m1.d
  have l := h.m.lt
  have g1 : OutK (fun b => b = bh ∨ b = bi ∨ b = bt) W1 (W1.setCells bh (k * 14) x.o.arr.toList) := out_sets _ _ (.inl rfl)
  have g2 : OutK (fun b => b = bh ∨ b = bi ∨ b = bt) (W1.setCells bh (k * 14) x.o.arr.toList) ((W1.setCells bh (k * 14) x.o.arr.toList).setCells bi k [.bool true]) := out_sets _ _ (.inr (.inl rfl))
  have g3 : OutK (fun b => b = bh ∨ b = bi ∨ b = bt) W1 ((W1.setCells bh (k * 14) x.o.arr.toList).setCell ⟨bi, k, none⟩ (.bool true)) := ⟨g2.os.trans g1.os, g2.tape.trans g1.tape, g2.output.trans g1.output, Nat.le_trans g1.size g2.size, fun b hb hn => (g2.k b (Nat.lt_of_lt_of_le hb g1.size) hn).trans (g1.k b hb hn)⟩
  refine ⟨m1.write g3 ?_ ?_ ?_ (fun j hj hi' => ?_) (fun j hj hi' => ?_), h1.out g3 m1.noY, ?_, ?_⟩
  · rw [set_other d1]
    exact ch_up m1 hk x
  · have := ci_up (W2 := W1.setCells bh (k * 14) x.o.arr.toList) (by rw [sets_other d1.symm]; exact m1.ci) hk x
    rw [hi] at this
    exact this
  · rw [set_other d3.symm, sets_other d2.symm, m1.ct, ct_id]
    intro j _
    by_cases e : j = k
    · rw [e, upS_same, ht]
    · rw [upS_ne D x e]
  · by_cases e : j = k
    · subst e
      rw [upS_same]
      rcases he with h2 | ⟨B, O, e, hz, hb, hc⟩
      · exact .inl h2
      · refine .inr ⟨B, O, e, ⟨fun hy => ?_, hz.2⟩, Nat.lt_of_lt_of_le hb o1.size, fun i y hy q v hv => ?_⟩
        · rcases hy with h3 | h3
          · exact hz.1 h3
          · omega
        · have := hc i y hy q v hv
          unfold World.cell? at this ⊢
          rw [o1.k B hb hz.1]
          exact this
    · rw [upS_ne D x e] at hi' ⊢
      exact m1.e j hj hi'
  · by_cases e : j = k
    · subst e
      rw [upS_same]
      exact ok
    · rw [upS_ne D x e] at hi' ⊢
      exact m1.ok j hj hi'
  · rw [put_sl, h.s, slS_up hk hi]
  · rw [tD_same hk ht]
    exact h.t.put _ _
/-- Take, and what the law notes of it. -/
theorem ls_take (h : Ls w0 bh bi bt cb D K (tD D) Y W) {k : Nat} (hk : k < 16) (h1 : HoldK (YN Y W W1) (if (K.sl k).isSome = true then K.take k else K) cb W1) (o1 : OutK Y W W1) :
    ∃ D' K', Ls w0 bh bi bt cb D' K' (tD D') (YN Y W W1) (W1.setCell ⟨bi, k, none⟩ (.bool false)) := by
  have m1 := h.m.keep o1 yn_or
  obtain ⟨d1, d2, d3⟩ := m1.d
  have g2 : OutK (fun b => b = bh ∨ b = bi ∨ b = bt) W1 (W1.setCells bi k [.bool false]) := out_sets _ _ (.inr (.inl rfl))
  have same : ∀ j, (upS D k (offS (D k)) j).o = (D j).o ∧ (upS D k (offS (D k)) j).t = (D j).t ∧ (upS D k (offS (D k)) j).e = (D j).e := fun j => by
    by_cases e : j = k
    · subst e
      rw [upS_same]
      exact ⟨rfl, rfl, rfl⟩
    · rw [upS_ne D _ e]
      exact ⟨rfl, rfl, rfl⟩
  have old : ∀ j, (upS D k (offS (D k)) j).is = true → j ≠ k ∧ (D j).is = true := fun j hj => by
    by_cases e : j = k
    · subst e
      rw [upS_same] at hj
      cases hj
    · rw [upS_ne D _ e] at hj
      exact ⟨e, hj⟩
  refine ⟨upS D k (offS (D k)), _, m1.write g2 ?_ ?_ ?_ (fun j hj hi' => ?_) (fun j hj hi' => ?_), h1.out g2 m1.noY, ?_, ?_⟩
  · rw [set_other d1, m1.ch, ch_id fun j _ => (same j).1]
  · exact ci_up m1.ci hk (offS (D k))
  · rw [set_other d3.symm, m1.ct, ct_id fun j _ => (same j).2.1]
  · rw [(same j).1, (same j).2.2]
    exact m1.e j hj (old j hi').2
  · obtain ⟨e, hi2⟩ := old j hi'
    rw [upS_ne D _ e]
    exact m1.ok j hj hi2
  · rw [slS_off rfl, ← h.s]
    split
    · exact take_sl _ _
    · rename_i hn
      funext j
      split
      · rename_i e
        rw [e]
        cases hs : K.sl k with
        | none => rfl
        | some v => rw [hs] at hn; exact absurd rfl hn
      · rfl
  · rw [tD_same (x := offS (D k)) hk rfl]
    split
    · exact h.t.take _
    · exact h.t
/-- What was told is noted. -/
theorem ls_told (h : Ls w0 bh bi bt cb D K T Y W) {k : Nat} (hk : k < 16) {v : Int × Int × Int} (hT : T = fun j => if j = (k : Int) then v else tD D j) :
    Ls w0 bh bi bt cb (upS D k (telS (D k) v)) K (tD (upS D k (telS (D k) v))) Y (W.setCells bt (k * 3) (encV v)) := by
  have m1 := h.m
  obtain ⟨d1, d2, d3⟩ := m1.d
  have g2 : OutK (fun b => b = bh ∨ b = bi ∨ b = bt) W (W.setCells bt (k * 3) (encV v)) := out_sets _ _ (.inr (.inr rfl))
  have same : ∀ j, (upS D k (telS (D k) v) j).o = (D j).o ∧ (upS D k (telS (D k) v) j).is = (D j).is ∧ (upS D k (telS (D k) v) j).e = (D j).e := fun j => by
    by_cases e : j = k
    · subst e
      rw [upS_same]
      exact ⟨rfl, rfl, rfl⟩
    · rw [upS_ne D _ e]
      exact ⟨rfl, rfl, rfl⟩
  refine ⟨m1.write g2 ?_ ?_ (ct_up m1 hk (telS (D k) v)) (fun j hj hi' => ?_) (fun j hj hi' => ?_), h.h.out g2 m1.noY, ?_, ?_⟩
  · rw [sets_other d2, m1.ch, ch_id fun j _ => (same j).1]
  · rw [sets_other d3, m1.ci, ci_id fun j _ => (same j).2.1]
  · rw [(same j).2.1] at hi'
    rw [(same j).1, (same j).2.2]
    exact m1.e j hj hi'
  · rw [(same j).2.1] at hi'
    have ok := m1.ok j hj hi'
    obtain ⟨s1, s2, s3⟩ := same j
    exact ⟨by rw [s1]; exact ok.id, by rw [s1]; exact ok.c0, by rw [s1]; exact ok.c5, by rw [s3, s1]; exact ok.n, by rw [s1]; exact ok.n1, by rw [s3]; exact ok.l⟩
  · rw [slS_told]
    exact h.s
  · rw [tD_up hk]
    have := h.t
    rw [hT] at this
    exact this
end
/-- What is read of a box of rows. -/
theorem flat_rows {W : World} {b t k n : Nat} {f : Nat → List Value} (h : W.heap[b]? = some (.cells (flatN f n).toArray t)) (hf : ∀ j, j < n → (f j).length = k) : Rows W (some ⟨b, 0, none⟩) k ((List.range n).map fun j => (f j).toArray) := by
  refine .inr ⟨b, 0, rfl, blk_lt h, fun i x hx j v hv => ?_⟩
  rw [List.getElem?_map, Option.map_eq_some_iff] at hx
  obtain ⟨q, hq, rfl⟩ := hx
  obtain ⟨hi, e⟩ := List.getElem?_eq_some_iff.1 hq
  rw [List.length_range] at hi
  rw [List.getElem_range] at e
  subst e
  have hv' : (f i)[j]? = some v := by simpa using hv
  have hj : j < k := by
    rw [← hf i hi]
    exact (List.getElem?_eq_some_iff.1 hv').1
  rw [Nat.zero_add]
  exact hold_cell (blk_hold h) ((flatN_get hf i j hi hj).trans hv')
theorem flat_ld (P : Program) {W : World} {b t k n : Nat} {f : Nat → List Value} (h : W.heap[b]? = some (.cells (flatN f n).toArray t)) (hf : ∀ j, j < n → (f j).length = k) {i : Nat} (hi : i < n) : Sem.run P (loadCellsFrom ⟨b, i * k, none⟩ 0 k #[]) W = .ok (f i).toArray W := by
  have := (flat_rows h hf).ld P (i := i) (x := (f i).toArray) (by rw [List.getElem?_map, List.getElem?_range hi]; rfl) (by simpa using hf i hi)
  rw [Addr.add_lit, Nat.zero_add] at this
  exact this
theorem flat_cell {W : World} {b t k n : Nat} {f : Nat → List Value} (h : W.heap[b]? = some (.cells (flatN f n).toArray t)) (hf : ∀ j, j < n → (f j).length = k) {i j : Nat} (hi : i < n) {v : Value} (hv : (f i)[j]? = some v) : W.cell? ⟨b, i * k + j, none⟩ = some v ∧ W.frozen? ⟨b, i * k + j, none⟩ = false := by
  have hj : j < k := by
    rw [← hf i hi]
    exact (List.getElem?_eq_some_iff.1 hv).1
  have hv' := (flatN_get hf i j hi hj).trans hv
  have hz := (blk_hold h (i * k + j) (by have := (List.getElem?_eq_some_iff.1 hv').1; simpa using this)).2
  rw [Nat.zero_add] at hz
  exact ⟨hold_cell (blk_hold h) hv', hz⟩
theorem flat_st (P : Program) {W : World} {b t k n : Nat} {f : Nat → List Value} (h : W.heap[b]? = some (.cells (flatN f n).toArray t)) (hf : ∀ j, j < n → (f j).length = k) {i : Nat} (hi : i < n) {vs : List Value} (hl : vs.length = k) (h1 : ∀ v ∈ vs, v.oneCell' = true) : Sem.run P (storeCells ⟨b, i * k, none⟩ vs 0) W = .ok () (W.setCells b (i * k) vs) := by
  have hb : Holds id W b 0 (flatN f n).toArray := blk_hold h
  have := stores_of_holds P (h := hb) (i * k) vs (by
    rw [hl]
    have := flatN_len hf
    simp only [List.size_toArray, this]
    have := Nat.mul_le_mul_right k hi
    rw [Nat.succ_mul] at this
    exact this) h1
  rw [Nat.zero_add] at this
  exact this
/-- The callees. -/
structure LawC (P : Program) : Prop where
  few : ∀ W, Calls P 8 #[] W (FewK W)
  new : ∀ W W', FewB W W' → Calls P 7 #[.slice (some ⟨W.heap.size + 3, 0, none⟩) 5 5] W' fun e w' => ∃ cb, e = .returned (.pointer (some ⟨cb, 0, none⟩)) ∧ HoldK (fun b => W.heap.size ≤ b ∧ b < w'.heap.size) (Ca.new fewC) cb w' ∧ Below W'.heap.size W' w'
  put : ∀ {Y Zo : Nat → Prop} {K : Ca} {cb : Nat} {w : World}, HoldK Y K cb w → ∀ {i : Nat}, i < 16 → ∀ {ob : List Value} {card ctrl stamp : Int} {effs : List Ef}, ObR Zo w ob card ctrl stamp effs → Calls P 10 #[.pointer (some ⟨cb, 0, none⟩), .int .i64 i, .agg ob.toArray] w (StepK Y (K.put i ⟨card, ctrl, stamp, effs, cdOf fewC card⟩) cb w)
  take : ∀ {Y : Nat → Prop} {K : Ca} {cb : Nat} {w : World}, HoldK Y K cb w → ∀ i : Int, Calls P 17 #[.pointer (some ⟨cb, 0, none⟩), .int .i64 i] w (StepK Y (if (K.sl i).isSome = true then K.take i else K) cb w)
  of : ∀ {Y : Nat → Prop} {K : Ca} {cb : Nat} {w : World}, HoldK Y K cb w → ∀ i : Int, Calls P 11 #[.pointer (some ⟨cb, 0, none⟩), .int .i64 i] w (OfK Y K cb w i)
  dirty : ∀ {Y : Nat → Prop} {K : Ca} {cb : Nat} {w : World}, HoldK Y K cb w → Calls P 20 #[.pointer (some ⟨cb, 0, none⟩)] w (DirOK K w)
  has : ∀ {d0 d1 d2 d3 : Int} {dt : Int → Bool}, Bt d0 d1 d2 d3 dt → ∀ {i : Nat}, i < 16 → ∀ w, Calls P 21 #[.agg (encB4 d0 d1 d2 d3), .int .i64 i] w fun e w' => e = .returned (.bool (dt i)) ∧ Gr w w'
  ch : ∀ {D : Nat → Sl} {oa fa : Option Addr} {oc fc : Nat} {w w' : World} {K : Ca}, StM D oa fa w' → FewB w w' → (∀ k, k < 16 → (D k).is = true → (D k).ok k) → K.sl = slS D → ∀ j : Nat, Calls P 23 #[.slice (some ⟨w.heap.size + 3, 0, none⟩) 5 5, .agg (stS D oa oc fa fc).arr, .int .i64 (idS j)] w' (ChOK K j w')
  works : ∀ w, Calls P 12 #[] w fun e w' => e = .returned (.bool true) ∧ Below w.heap.size w w'
theorem FewB.cs {w w' : World} (h : FewB w w') : Cs (fun b => w.heap.size ≤ b ∧ b < w'.heap.size) w' (some ⟨w.heap.size + 3, 0, none⟩) fewC := by
  have l3 := blk_lt h.b3
  refine ⟨⟨fewL w.heap.size, blk_rowsZ h.b3 (fun x hx => ?_) ⟨by omega, by omega⟩, rfl, fun i r x hr hx => ?_⟩, by decide, fun b hb => hb.2⟩
  · simp only [fewL, List.mem_cons, List.not_mem_nil, or_false] at hx
    rcases hx with rfl | rfl | rfl | rfl | rfl <;> rfl
  · match i, hr, hx with
    | 0, hr, hx =>
      cases hr
      cases hx
      exact cdR_nil _ _ _ _
    | 1, hr, hx =>
      cases hr
      cases hx
      exact cdR_one _ _ _ _ h.b0 ⟨by omega, by omega⟩
    | 2, hr, hx =>
      cases hr
      cases hx
      exact cdR_one _ _ _ _ h.b1 ⟨by omega, by omega⟩
    | 3, hr, hx =>
      cases hr
      cases hx
      exact cdR_one _ _ _ _ h.b2 ⟨by omega, by omega⟩
    | 4, hr, hx =>
      cases hr
      cases hx
      exact cdR_nil _ _ _ _
theorem lawC : LawC Try.prog where
  few := few2_calls
  new := fun _ _ h => holdk_new (Gr.le h.g) h.cs 5
  put := fun h _ hi _ _ _ _ _ hO => holdk_put h (by omega) (by omega) hO
  take := holdk_take
  of := holdk_of
  dirty := holdk_dirty
  has := fun h _ hi w => has_calls h (by omega) (by omega) w
  ch := fun M F hok hK j => chof_law M F hok hK 5 j
  works := works_calls
end Go.Proofs.Yticgadnmlbfmfaa.cachePlays
/-
  Chapter 25: the law CacheState: the state that is built, the round over the slots.
-/
namespace Go.Proofs.Yticgadnmlbfmfaa.cachePlays
open Go.Shelf Go.RowKit Go.Lib Go.Sort Go.Maps
def st75 (lo lf : Value) : List Value := [zr 0, lo, zr 2, zr 3, zr 4, zr 5, lf, zr 7, zr 8, zr 9, zr 10, zr 11, zr 12, zr 13, zr 14, zr 15, zr 16, zr 17, zr 18, zr 19, zr 20, zr 21, zr 22, zr 23, zr 24]
theorem stS_arr (D : Nat → Sl) (oa : Option Addr) (oc : Nat) (fa : Option Addr) (fc : Nat) : (stS D oa oc fa fc).arr = (st75 (.slice oa (onS D 16).length oc) (.slice fa (onS D 16).length fc)).toArray := by
  unfold stS Sv.arr st75
  simp only [List.length_map]
/-- The state while it is built. -/
structure Bld (W0 : World) (bs : Nat) (lo lf : Value) (l : List (List Value)) (ids : List (List Value)) (W : World) : Prop where
  b : Below W0.heap.size W0 W
  h : bs = W0.heap.size
  c : W.heap[bs]? = some (.cells (st75 lo lf).toArray 75)
  o : W.ownsRow (bs + 1) 30 14 lo l.length l.flatten
  f : W.ownsRow (bs + 1) 3 1 lf ids.length ids.flatten
theorem Bld.lt {W0 : World} {bs : Nat} {lo lf : Value} {l ids : List (List Value)} {W : World} (h : Bld W0 bs lo lf l ids W) : bs < W.heap.size := blk_lt h.c
theorem own_keep {W W' : World} {base e k n : Nat} {v : Value} {xs : List Value} (h : W.ownsRow base e k v n xs) {b : Nat} (g : W.grownBy W' (some b)) (hb : b < base) : W'.ownsRow base e k v n xs := by
  refine h.kept g ?_
  cases hv : v.ownBlock with
  | none => exact .inl rfl
  | some q =>
    refine .inr fun e => ?_
    injection e with e
    have := (h.lt q hv).1
    omega
theorem own_gr {W W' : World} {base e k n : Nat} {v : Value} {xs : List Value} (h : W.ownsRow base e k v n xs) (g : Gr W W') : W'.ownsRow base e k v n xs := h.kept (gr_grown g) (by cases hv : v.ownBlock <;> simp)
theorem Bld.gr {W0 : World} {bs : Nat} {lo lf : Value} {l ids : List (List Value)} {W W' : World} (h : Bld W0 bs lo lf l ids W) (g : Gr W W') : Bld W0 bs lo lf l ids W' :=
  ⟨gr_below h.b (by have := h.h; have := h.lt; omega) g, h.h, blk_gr h.c g, own_gr h.o g, own_gr h.f g⟩
theorem own_other {W : World} {b1 b2 e1 e2 k1 k2 n1 n2 : Nat} {v1 v2 : Value} {x1 x2 : List Value} (h1 : W.ownsRow b1 e1 k1 v1 n1 x1) (h2 : W.ownsRow b2 e2 k2 v2 n2 x2) (he : e1 ≠ e2) : v1.ownBlock = none ∨ v1.ownBlock ≠ v2.ownBlock := by
  rcases h1.2 with ⟨hv, _⟩ | ⟨g, c, cur, hv, _, hg, _⟩
  · left
    rw [hv]
    rfl
  · rcases h2.2 with ⟨hu, _⟩ | ⟨g2, c2, cur2, hu, _, hg2, _⟩
    · right
      rw [hv, hu]
      intro e
      cases e
    · right
      rw [hv, hu]
      intro e
      injection e with e
      subst e
      rw [hg] at hg2
      injection hg2 with e1
      injection e1 with e1 e2
      exact he e2
/-- An object more. -/
theorem Bld.obj {W0 : World} {bs : Nat} {lo lf v' : Value} {l ids : List (List Value)} {W W4 : World} {r : List Value} (h : Bld W0 bs lo lf l ids W) (ho : W4.ownsRow (bs + 1) 30 14 v' (l.length + 1) (l.flatten ++ r)) (g : (W.alloc (.cells r.toArray 30)).grownBy W4 lo.ownBlock) : Bld W0 bs v' lf (l ++ [r]) ids (W4.setCell ⟨bs, 1, none⟩ v') := by
  have h1 := h.gr ((Gr.refl W).alloc (.cells r.toArray 30))
  have hlo : ∀ k, lo.ownBlock = some k → bs < k := fun k hk => by have := (h1.o.lt k hk).1; omega
  have gS : W4.grownBy (W4.setCells bs 1 [v']) (some bs) := grown_sets bs [v'] 1
  have hW0 := h.h
  refine ⟨?_, h.h, ?_, ?_, ?_⟩
  · refine (h1.b.grown g (by have := h1.lt; omega) fun k hk => ?_).setCell (p := ⟨bs, 1, none⟩) (by show W0.heap.size ≤ bs; omega) _
    have := hlo k hk
    omega
  · have hc : W4.heap[bs]? = some (.cells (st75 lo lf).toArray 75) := by
      rw [g.block bs h1.lt (fun e => by have := hlo bs e.symm; omega)]
      exact h1.c
    exact blk_set hc 1 v'
  · have this : (W4.setCell ⟨bs, 1, none⟩ v').ownsRow (bs + 1) 30 14 v' (l.length + 1) (l.flatten ++ r) := own_keep ho gS (Nat.lt_succ_self _)
    rw [List.length_append, List.flatten_append]
    simpa using this
  · exact own_keep (h1.f.kept g (own_other h1.f h1.o (by decide))) gS (Nat.lt_succ_self _)
/-- An id more. -/
theorem Bld.id {W0 : World} {bs : Nat} {lo lf v' : Value} {l ids : List (List Value)} {W W4 : World} {r : List Value} (h : Bld W0 bs lo lf l ids W) (ho : W4.ownsRow (bs + 1) 3 1 v' (ids.length + 1) (ids.flatten ++ r)) (g : (W.alloc (.cells r.toArray 3)).grownBy W4 lf.ownBlock) : Bld W0 bs lo v' l (ids ++ [r]) (W4.setCell ⟨bs, 6, none⟩ v') := by
  have h1 := h.gr ((Gr.refl W).alloc (.cells r.toArray 3))
  have hlo : ∀ k, lf.ownBlock = some k → bs < k := fun k hk => by have := (h1.f.lt k hk).1; omega
  have gS : W4.grownBy (W4.setCells bs 6 [v']) (some bs) := grown_sets bs [v'] 6
  have hW0 := h.h
  refine ⟨?_, h.h, ?_, ?_, ?_⟩
  · refine (h1.b.grown g (by have := h1.lt; omega) fun k hk => ?_).setCell (p := ⟨bs, 6, none⟩) (by show W0.heap.size ≤ bs; omega) _
    have := hlo k hk
    omega
  · have hc : W4.heap[bs]? = some (.cells (st75 lo lf).toArray 75) := by
      rw [g.block bs h1.lt (fun e => by have := hlo bs e.symm; omega)]
      exact h1.c
    exact blk_set hc 6 v'
  · exact own_keep (h1.o.kept g (own_other h1.o h1.f (by decide))) gS (Nat.lt_succ_self _)
  · have this : (W4.setCell ⟨bs, 6, none⟩ v').ownsRow (bs + 1) 3 1 v' (ids.length + 1) (ids.flatten ++ r) := own_keep ho gS (Nat.lt_succ_self _)
    rw [List.length_append, List.flatten_append]
    simpa using this
def rowsO (D : Nat → Sl) (j : Nat) : List (List Value) := (onS D j).map fun k => (D k).o.arr.toList
def rowsI (D : Nat → Sl) (j : Nat) : List (List Value) := (onS D j).map fun k => [.int .i64 (idS k)]
theorem onS_succ (D : Nat → Sl) (j : Nat) : onS D (j + 1) = onS D j ++ if (D j).is = true then [j] else [] := by
  unfold onS
  rw [List.range_succ, List.filter_append]
  congr 1
  cases h : (D j).is <;> simp [h]
theorem rows_in {D : Nat → Sl} {j : Nat} (h : (D j).is = true) : rowsO D (j + 1) = rowsO D j ++ [(D j).o.arr.toList] ∧ rowsI D (j + 1) = rowsI D j ++ [[.int .i64 (idS j)]] := by
  unfold rowsO rowsI
  rw [onS_succ, if_pos h, List.map_append, List.map_append]
  exact ⟨rfl, rfl⟩
theorem rows_out {D : Nat → Sl} {j : Nat} (h : (D j).is = false) : rowsO D (j + 1) = rowsO D j ∧ rowsI D (j + 1) = rowsI D j := by
  unfold rowsO rowsI
  rw [onS_succ, if_neg (by rw [h]; simp), List.append_nil]
  exact ⟨rfl, rfl⟩
theorem rows_le (D : Nat → Sl) {j : Nat} (h : j ≤ 16) : (rowsO D j).length ≤ 16 ∧ (rowsI D j).length ≤ 16 := by
  unfold rowsO rowsI
  rw [List.length_map, List.length_map]
  have := List.length_filter_le (fun k => (D k).is) (List.range j)
  rw [List.length_range] at this
  have : (onS D j).length ≤ j := this
  omega
/-- The state's parts, in blocks of Z. -/
structure StZ (D : Nat → Sl) (oa fa : Option Addr) (Z : Nat → Prop) (W : World) : Prop where
  o : RowsZ Z W oa 14 (rowsO D 16)
  f : RowsZ Z W fa 1 (rowsI D 16)
  e : ∀ k, k < 16 → (D k).is = true → RowsZ Z W (D k).o.ea 4 ((D k).e.map encE)
theorem StZ.keep {D : Nat → Sl} {oa fa : Option Addr} {Z : Nat → Prop} {W W' : World} (h : StZ D oa fa Z W) (g : Kz Z W W') : StZ D oa fa Z W' := ⟨h.o.keep g, h.f.keep g, fun k hk hi => (h.e k hk hi).keep g⟩
theorem StZ.stM {D : Nat → Sl} {oa fa : Option Addr} {Z : Nat → Prop} {W : World} (h : StZ D oa fa Z W) : StM D oa fa W := by
  refine ⟨?_, ?_, fun k hk hi => ?_⟩
  · have := rowsZ_rows h.o
    unfold rowsO at this
    rw [List.map_map] at this ⊢
    exact this
  · have := rowsZ_rows h.f
    unfold rowsI at this
    rw [List.map_map] at this ⊢
    exact this
  · have := rowsZ_rows (h.e k hk hi)
    rw [List.map_map] at this
    exact this
theorem Bld.stZ {w0 W0 : World} {bh bi bt cb : Nat} {D : Nat → Sl} {K : Ca} {T : Int → Int × Int × Int} {Y : Nat → Prop} {bs : Nat} {oa fa : Option Addr} {on fn oc fc : Nat} {W : World} (S : Ls w0 bh bi bt cb D K T Y W0) (h : Bld W0 bs (.slice oa on oc) (.slice fa fn fc) (rowsO D 16) (rowsI D 16) W) : StZ D oa fa (Fre Y bh bi bt) W ∧ on = (onS D 16).length ∧ fn = (onS D 16).length := by
  have l := S.m.lt
  have hb := h.h
  have fr : ∀ b, bs + 1 ≤ b → Fre Y bh bi bt b := fun b hb => ⟨fun hy => by have := S.m.yl b hy; omega, by omega, by omega, by omega⟩
  have len : ∀ {v : Value} {n : Nat} {a : Option Addr} {m c : Nat}, v = .slice a m c → (∃ a c, v = .slice a n c) → m = n := by
    rintro v n a m c rfl ⟨a2, c2, e⟩
    injection e
  have e1 : on = (rowsO D 16).length := len rfl (own_formk h.o)
  have e2 : fn = (rowsI D 16).length := len rfl (own_formk h.f)
  have ho := h.o
  have hf := h.f
  rw [e1] at ho
  rw [e2] at hf
  refine ⟨⟨(own_rowsZ ho fun x hx => ?_).mono fun b hb _ => fr b hb.1, (own_rowsZ hf fun x hx => ?_).mono fun b hb _ => fr b hb.1, fun k hk hi => (S.below h.b).m.e k hk hi⟩, by rw [e1, rowsO, List.length_map], by rw [e2, rowsI, List.length_map]⟩
  · obtain ⟨k, _, rfl⟩ := List.mem_map.1 hx
    rfl
  · obtain ⟨k, _, rfl⟩ := List.mem_map.1 hx
    rfl
/-- Within the round over the slots. -/
structure InJ (w0 W5 : World) (bh bi bt cb : Nat) (D : Nat → Sl) (dt : Int → Bool) (Y0 : Nat → Prop) (j : Nat) (D' : Nat → Sl) (K' : Ca) (Y' : Nat → Prop) (W : World) : Prop where
  s : Ls w0 bh bi bt cb D' K' (tD D') Y' W
  k : ∀ b, b < W5.heap.size → Fre Y0 bh bi bt b → W.heap[b]? = W5.heap[b]?
  y : ∀ b, Y' b → Y0 b ∨ W5.heap.size ≤ b
  z : W5.heap.size ≤ W.heap.size
  d : ∀ q, (D' q).o = (D q).o ∧ (D' q).is = (D q).is ∧ (D' q).e = (D q).e
  t : ∀ q : Nat, j ≤ q → q < 16 → K'.dt q = dt q
section
variable {w0 W5 W : World} {bh bi bt cb : Nat} {D : Nat → Sl} {dt : Int → Bool} {Y0 : Nat → Prop} {j : Nat} {D' : Nat → Sl} {K' : Ca} {Y' : Nat → Prop}
theorem InJ.start {K : Ca} (S : Ls w0 bh bi bt cb D K (tD D) Y0 W5) : InJ w0 W5 bh bi bt cb D K.dt Y0 0 D K Y0 W5 := ⟨S, fun _ _ _ => rfl, fun _ h => .inl h, Nat.le_refl _, fun _ => ⟨rfl, rfl, rfl⟩, fun _ _ _ => rfl⟩
theorem InJ.below (I : InJ w0 W5 bh bi bt cb D dt Y0 j D' K' Y' W) {W' : World} (g : Below W.heap.size W W') : InJ w0 W5 bh bi bt cb D dt Y0 j D' K' Y' W' :=
  ⟨I.s.below g, fun b hb hf => (g.block b (Nat.lt_of_lt_of_le hb I.z)).trans (I.k b hb hf), I.y, Nat.le_trans I.z g.size, I.d, I.t⟩
theorem InJ.gr (I : InJ w0 W5 bh bi bt cb D dt Y0 j D' K' Y' W) {W' : World} (g : Gr W W') : InJ w0 W5 bh bi bt cb D dt Y0 j D' K' Y' W' := I.below (gr_below (.refl _ _) (Nat.le_refl _) g)
theorem InJ.skip (I : InJ w0 W5 bh bi bt cb D dt Y0 j D' K' Y' W) : InJ w0 W5 bh bi bt cb D dt Y0 (j + 1) D' K' Y' W := ⟨I.s, I.k, I.y, I.z, I.d, fun q h1 h2 => I.t q (by omega) h2⟩
theorem InJ.kz (I : InJ w0 W5 bh bi bt cb D dt Y0 j D' K' Y' W) : Kz (Fre Y0 bh bi bt) W5 W := ⟨I.z, fun b hb hl => I.k b hl hb⟩
theorem InJ.on (I : InJ w0 W5 bh bi bt cb D dt Y0 j D' K' Y' W) : onS D' 16 = onS D 16 := by
  unfold onS
  exact List.filter_congr fun q _ => (I.d q).2.1
theorem InJ.stM (I : InJ w0 W5 bh bi bt cb D dt Y0 j D' K' Y' W) {oa fa : Option Addr} (h : StZ D oa fa (Fre Y0 bh bi bt) W5) : StM D' oa fa W := by
  have h1 := h.keep I.kz
  have h2 : StZ D' oa fa (Fre Y0 bh bi bt) W := by
    refine ⟨?_, ?_, fun k hk hi => ?_⟩
    · have := h1.o
      unfold rowsO at this ⊢
      rw [I.on]
      simp only [(I.d _).1]
      exact this
    · have := h1.f
      unfold rowsI at this ⊢
      rw [I.on]
      exact this
    · obtain ⟨d1, d2, d3⟩ := I.d k
      rw [d2] at hi
      rw [d1, d3]
      exact h1.e k hk hi
  exact h2.stM
theorem InJ.check (I : InJ w0 W5 bh bi bt cb D dt Y0 j D' K' Y' W) (hj : j < 16) {v : Int × Int × Int} (hr : OfV K' j (some v)) (hd : dt j = false) : (D' j).t = v := by
  obtain ⟨h1, h2, h3⟩ := hr
  have h4 := I.s.t.a j h1 h2 (by rw [I.t j (Nat.le_refl _) hj]; exact hd)
  obtain ⟨u, hu⟩ := Option.isSome_iff_exists.1 h4
  have h5 := (I.s.t.b j u hu).1
  have h6 := (I.s.h.i j u hu).uniq h3
  unfold tD at h5
  rw [if_pos ⟨by omega, by omega⟩, Int.toNat_natCast] at h5
  rw [h5, h6]
theorem InJ.is (I : InJ w0 W5 bh bi bt cb D dt Y0 j D' K' Y' W) {v : Int × Int × Int} (hr : OfV K' j (some v)) : (D' j).is = true := by
  have h1 := hr.1
  rw [I.s.s] at h1
  unfold slS at h1
  split at h1
  · rename_i h
    simpa using h.2.2
  · cases h1
theorem InJ.next (I : InJ w0 W5 bh bi bt cb D dt Y0 j D' K' Y' W) (hj : j < 16) {W1 W2 : World} {K2 : Ca} {v : Int × Int × Int} (hh : HoldK (YN Y' W W1) K2 cb W1) (ho : OutK Y' W W1) (hs : K2.sl = K'.sl) (hd : ∀ k : Int, k ≠ j → K2.dt k = K'.dt k) (ht : Tld K2 (fun k => if k = (j : Int) then v else tD D' k)) (g : Gr W1 W2) :
    InJ w0 W5 bh bi bt cb D dt Y0 (j + 1) (upS D' j (telS (D' j) v)) K2 (YN Y' W W1) (W2.setCells bt (j * 3) (encV v)) := by
  have S1 : Ls w0 bh bi bt cb D' K2 (fun k => if k = (j : Int) then v else tD D' k) (YN Y' W W1) W1 := ⟨I.s.m.keep ho yn_or, hh, hs.trans I.s.s, ht⟩
  have S2 := ls_told (S1.gr g) hj rfl
  have nY : ∀ b, b < W5.heap.size → Fre Y0 bh bi bt b → ¬ Y' b := fun b hb hf hy => by
    rcases I.y b hy with h | h
    · exact hf.1 h
    · omega
  have z1 := Nat.le_trans I.z ho.size
  have z2 := Nat.le_trans z1 (Gr.le g)
  have gS := grown_sets (w := W2) bt (encV v) (j * 3)
  refine ⟨S2, fun b hb hf => ?_, fun b hb => ?_, Nat.le_trans z2 gS.size, fun q => ?_, fun q h1 h2 => ?_⟩
  · rw [gS.block b (Nat.lt_of_lt_of_le hb z2) (fun e => by injection e with e; exact hf.2.2.2 e), (gr_grown g).block b (Nat.lt_of_lt_of_le hb z1) (by simp), ho.k b (Nat.lt_of_lt_of_le hb I.z) (nY b hb hf)]
    exact I.k b hb hf
  · rcases hb with h | h
    · exact I.y b h
    · exact .inr (Nat.le_trans I.z h.1)
  · by_cases e : q = j
    · subst e
      rw [upS_same]
      exact I.d q
    · rw [upS_ne D' _ e]
      exact I.d q
  · rw [hd q (by omega)]
    exact I.t q (by omega) h2
end
theorem fold_cells2 (y X : List Value) {k m : Nat} (hm : k = m) (hX : X.length = k) : X.zipIdx.foldl (fun (cs : Array Value) (x : Value × Nat) => cs.setIfInBounds x.snd x.fst) (Array.map (fun x => y[x % m]?.getD default) (Array.range k)) = X.toArray := by
  subst hm
  exact fold_cells y X hX
theorem arr_id (o : Ov) : o.arr.toList[0]? = some (.int .i64 o.id) := rfl
theorem held_id {w0 W0 W : World} {bh bi bt : Nat} {D : Nat → Sl} {Y : Nat → Prop} (h : Lw w0 bh bi bt D Y W0) {k30 : Nat} (h30 : k30 = 14) (hW : W.heap[bh]? = some (.cells (flatN (fun k => (D k).o.arr.toList) 16).toArray 63)) {j : Nat} (hj : j < 16) (hi : (D j).is = true) : W.cell? ⟨bh, j * k30, none⟩ = some (.int .i64 (idS j)) := by
  subst h30
  have z := (flat_cell (f := fun k => (D k).o.arr.toList) (k := 14) hW (fun _ _ => rfl) hj (j := 0) (arr_id (D j).o)).1
  rw [(h.ok j hj hi).id] at z
  exact z
/-- The five cards at an address. -/
def FewX (a : Addr) (w w' : World) : Prop := a = ⟨w.heap.size + 3, 0, none⟩ ∧ FewB w w'
theorem FewX.gr {a : Addr} {w w' w2 : World} (h : FewX a w w') (g : Gr w' w2) : FewX a w w2 := ⟨h.1, h.2.gr g⟩
theorem few_x {P : Program} (C : LawC P) (W : World) : Calls P 8 #[] W fun e w' => ∃ a, e = .returned (.slice (some a) 5 5) ∧ FewX a W w' := (C.few W).mono fun _ _ h => ⟨_, h.1, rfl, h.2⟩
/-- What is held ahead of the round over the slots. -/
structure Chk (w0 W5 : World) (bh bi bt cb bs bd : Nat) (D : Nat → Sl) (K : Ca) (Y0 : Nat → Prop) (oa : Option Addr) (oc : Nat) (fa : Option Addr) (fc : Nat) (d0 d1 d2 d3 : Int) : Prop where
  s : Ls w0 bh bi bt cb D K (tD D) Y0 W5
  z : StZ D oa fa (Fre Y0 bh bi bt) W5
  c : W5.heap[bs]? = some (.cells (st75 (.slice oa (onS D 16).length oc) (.slice fa (onS D 16).length fc)).toArray 75)
  fs : Fre Y0 bh bi bt bs
  e : W5.heap[bd]? = some (.cells [Value.int .u64 d0, .int .u64 d1, .int .u64 d2, .int .u64 d3].toArray 53)
  fd : Fre Y0 bh bi bt bd
  b : Bt d0 d1 d2 d3 K.dt
theorem ch_x {P : Program} (C : LawC P) {w0 W5 W Wf : World} {bh bi bt cb : Nat} {D : Nat → Sl} {dt : Int → Bool} {Y0 : Nat → Prop} {j : Nat} {D' : Nat → Sl} {K' : Ca} {Y' : Nat → Prop} (I : InJ w0 W5 bh bi bt cb D dt Y0 j D' K' Y' W) {oa fa : Option Addr} {oc fc : Nat} (z : StZ D oa fa (Fre Y0 bh bi bt) W5) {a : Addr} (F : FewX a Wf W) :
    Calls P 23 #[.slice (some a) 5 5, .agg (st75 (.slice oa (onS D 16).length oc) (.slice fa (onS D 16).length fc)).toArray, .int .i64 (1 + (j : Int))] W (ChOK K' j W) := by
  have h := C.ch (oc := oc) (fc := fc) (I.stM z) F.2 I.s.m.ok I.s.s j
  rw [stS_arr, I.on, show idS j = 1 + (j : Int) from Int.add_comm _ _, ← F.1] at h
  exact h
/-- What is wanted of a slot, in a box. -/
structure Wnt (w0 W5 : World) (bh bi bt cb : Nat) (D : Nat → Sl) (dt : Int → Bool) (Y0 : Nat → Prop) (j : Nat) (D' : Nat → Sl) (K' : Ca) (Y' : Nat → Prop) (v0 v1 v2 : Int) (b : Bool) (bw : Nat) (W : World) : Prop where
  i : InJ w0 W5 bh bi bt cb D dt Y0 j D' K' Y' W
  r : OfV K' j (optR b (v0, v1, v2))
  c : W.heap[bw]? = some (.cells [Value.int .i64 v0, .int .i64 v1, .int .i64 v2].toArray 36)
  f : Fre Y' bh bi bt bw
theorem wnt_of {w0 W5 W X : World} {bh bi bt cb : Nat} {D : Nat → Sl} {dt : Int → Bool} {Y0 : Nat → Prop} {j : Nat} {D' : Nat → Sl} {K' : Ca} {Y' : Nat → Prop} (I : InJ w0 W5 bh bi bt cb D dt Y0 j D' K' Y' W) (hB : Below W.heap.size W X) {bw : Nat} (hbw : W.heap.size ≤ bw) {v0 v1 v2 : Int} {b : Bool} (hr : OfV K' j (optR b (v0, v1, v2))) (hc : X.heap[bw]? = some (.cells [Value.int .i64 v0, .int .i64 v1, .int .i64 v2].toArray 36)) : Aside (Wnt w0 W5 bh bi bt cb D dt Y0 j D' K' Y' v0 v1 v2 b bw X) :=
  have l := I.s.m.lt
  (show Wnt w0 W5 bh bi bt cb D dt Y0 j D' K' Y' v0 v1 v2 b bw X from ⟨I.below hB, hr, hc, ⟨(fun hy => by have := I.s.m.yl _ hy; omega), (by omega), (by omega), (by omega)⟩⟩)
theorem Wnt.gr {w0 W5 W W' : World} {bh bi bt cb : Nat} {D : Nat → Sl} {dt : Int → Bool} {Y0 : Nat → Prop} {j : Nat} {D' : Nat → Sl} {K' : Ca} {Y' : Nat → Prop} {v0 v1 v2 : Int} {b : Bool} {bw : Nat} (h : Wnt w0 W5 bh bi bt cb D dt Y0 j D' K' Y' v0 v1 v2 b bw W) (g : Gr W W') : Wnt w0 W5 bh bi bt cb D dt Y0 j D' K' Y' v0 v1 v2 b bw W' := ⟨h.i.gr g, h.r, blk_gr h.c g, h.f⟩
theorem box3 {W : World} {b : Nat} {v0 v1 v2 : Value} {t : TypeId} (h : W.heap[b]? = some (.cells [v0, v1, v2].toArray t)) : W.cell? ⟨b, 0, none⟩ = some v0 ∧ W.cell? ⟨b, 1, none⟩ = some v1 ∧ W.cell? ⟨b, 2, none⟩ = some v2 ∧ W.frozen? ⟨b, 0, none⟩ = false ∧ W.frozen? ⟨b, 1, none⟩ = false ∧ W.frozen? ⟨b, 2, none⟩ = false :=
  ⟨hold_cell (blk_hold h) (j := 0) rfl, hold_cell (blk_hold h) (j := 1) rfl, hold_cell (blk_hold h) (j := 2) rfl, (blk_hold h 0 (show 0 < 3 by decide)).2, (blk_hold h 1 (show 1 < 3 by decide)).2, (blk_hold h 2 (show 2 < 3 by decide)).2⟩
theorem box4 {W : World} {b : Nat} {v0 v1 v2 v3 : Value} {t : TypeId} (h : W.heap[b]? = some (.cells [v0, v1, v2, v3].toArray t)) : W.cell? ⟨b, 0, none⟩ = some v0 ∧ W.cell? ⟨b, 1, none⟩ = some v1 ∧ W.cell? ⟨b, 2, none⟩ = some v2 ∧ W.cell? ⟨b, 3, none⟩ = some v3 :=
  ⟨hold_cell (blk_hold h) (j := 0) rfl, hold_cell (blk_hold h) (j := 1) rfl, hold_cell (blk_hold h) (j := 2) rfl, hold_cell (blk_hold h) (j := 3) rfl⟩
theorem told_cells {w : World} {bt : Nat} {D : Nat → Sl} (h : ∀ m os, (grow (w.drewN m) os).heap[bt]? = some (.cells (flatN (fun k => encV (D k).t) 16).toArray 65)) {j : Nat} (hj : j < 16) : (∀ m os, (grow (w.drewN m) os).cell? ⟨bt, j * 3, none⟩ = some (.int .i64 (D j).t.1)) ∧ (∀ m os, (grow (w.drewN m) os).cell? ⟨bt, j * 3 + 1, none⟩ = some (.int .i64 (D j).t.2.1)) ∧ (∀ m os, (grow (w.drewN m) os).cell? ⟨bt, j * 3 + 2, none⟩ = some (.int .i64 (D j).t.2.2)) := by
  have k : ∀ m os (q : Nat) v, (encV (D j).t)[q]? = some v → (grow (w.drewN m) os).cell? ⟨bt, j * 3 + q, none⟩ = some v := fun m os q v hv => (flat_cell (f := fun k => encV (D k).t) (k := 3) (h m os) (fun _ _ => rfl) hj (j := q) hv).1
  exact ⟨fun m os => k m os 0 _ rfl, fun m os => k m os 1 _ rfl, fun m os => k m os 2 _ rfl⟩
theorem dirt_cells {w : World} {bd : Nat} {d0 d1 d2 d3 : Int} (h : ∀ m os, (grow (w.drewN m) os).heap[bd]? = some (.cells [Value.int .u64 d0, .int .u64 d1, .int .u64 d2, .int .u64 d3].toArray 53)) : (∀ m os, (grow (w.drewN m) os).cell? ⟨bd, 0, none⟩ = some (.int .u64 d0)) ∧ (∀ m os, (grow (w.drewN m) os).cell? ⟨bd, 1, none⟩ = some (.int .u64 d1)) ∧ (∀ m os, (grow (w.drewN m) os).cell? ⟨bd, 2, none⟩ = some (.int .u64 d2)) ∧ (∀ m os, (grow (w.drewN m) os).cell? ⟨bd, 3, none⟩ = some (.int .u64 d3)) :=
  ⟨fun m os => (box4 (h m os)).1, fun m os => (box4 (h m os)).2.1, fun m os => (box4 (h m os)).2.2.1, fun m os => (box4 (h m os)).2.2.2⟩
theorem encR_form (r : Option (Int × Int × Int)) : ∃ (v0 v1 v2 : Int) (b : Bool), encR r = .tuple #[.agg #[.int .i64 v0, .int .i64 v1, .int .i64 v2], .bool b] ∧ r = optR b (v0, v1, v2) ∧ r.getD (0, 0, 0) = (v0, v1, v2) := by
  match r with
  | none => exact ⟨0, 0, 0, false, rfl, rfl, rfl⟩
  | some (v0, v1, v2) => exact ⟨v0, v1, v2, true, rfl, rfl, rfl⟩
theorem optR_eq {b c : Bool} {v u : Int × Int × Int} (h : optR b v = optR c u) : b = c ∧ (b = true → v = u) := by
  cases b <;> cases c
  · exact ⟨rfl, fun h => by cases h⟩
  · cases h
  · cases h
  · exact ⟨rfl, fun _ => by injection h⟩
section
variable {w0 W5 W W6 : World} {bh bi bt cb : Nat} {D : Nat → Sl} {dt : Int → Bool} {Y0 : Nat → Prop} {j : Nat} {D' : Nat → Sl} {K' : Ca} {Y' : Nat → Prop} {v0 v1 v2 : Int} {b : Bool} {bw : Nat}
/-- Of was asked. -/
structure Nxt (w0 W5 : World) (bh bi bt cb : Nat) (D : Nat → Sl) (dt : Int → Bool) (Y0 : Nat → Prop) (j : Nat) (D' : Nat → Sl) (K' : Ca) (Y' : Nat → Prop) (v0 v1 v2 : Int) (b : Bool) (bw : Nat) (W : World) (K2 : Ca) (g0 g1 g2 : Int) (gb : Bool) (W6 : World) : Prop where
  m : Lw w0 bh bi bt D' (YN Y' W W6) W6
  c : W6.heap[bw]? = some (.cells [Value.int .i64 v0, .int .i64 v1, .int .i64 v2].toArray 36)
  eq : gb = b ∧ (gb = true → (g0, g1, g2) = (v0, v1, v2))
  n : ∀ W7, Gr W6 W7 → InJ w0 W5 bh bi bt cb D dt Y0 (j + 1) (upS D' j (telS (D' j) (g0, g1, g2))) K2 (YN Y' W W6) (W7.setCells bt (j * 3) (encV (g0, g1, g2)))
theorem nxt_of (I : Wnt w0 W5 bh bi bt cb D dt Y0 j D' K' Y' v0 v1 v2 b bw W) (hj : j < 16) {K2 : Ca} {g0 g1 g2 : Int} {gb : Bool} (hr : OfV K' j (optR gb (g0, g1, g2))) (hh : HoldK (YN Y' W W6) K2 cb W6) (ho : OutK Y' W W6) (hs : K2.sl = K'.sl) (hkk : ∀ k : Int, k ≠ j → K2.dt k = K'.dt k ∧ K2.tl k = K'.tl k) (ht : ∀ told, Tld K' told → Tld K2 (fun k => if k = (j : Int) then (optR gb (g0, g1, g2)).getD (0, 0, 0) else told k)) (hg : (optR gb (g0, g1, g2)).getD (0, 0, 0) = (g0, g1, g2)) :
    Aside (Nxt w0 W5 bh bi bt cb D dt Y0 j D' K' Y' v0 v1 v2 b bw W K2 g0 g1 g2 gb W6) :=
  (show Nxt w0 W5 bh bi bt cb D dt Y0 j D' K' Y' v0 v1 v2 b bw W K2 g0 g1 g2 gb W6 from ⟨I.i.s.m.keep ho yn_or, (ho.k bw (blk_lt I.c) I.f.1).trans I.c, optR_eq (hr.uniq I.r), fun W7 g => I.i.next hj hh ho hs (fun k hk => (hkk k hk).1) (by have := ht _ I.i.s.t; rw [hg] at this; exact this) g⟩)
/-- The answer lies in a box. -/
structure Nx2 (w0 W5 : World) (bh bi bt cb : Nat) (D : Nat → Sl) (dt : Int → Bool) (Y0 : Nat → Prop) (j : Nat) (D' : Nat → Sl) (K' : Ca) (Y' : Nat → Prop) (v0 v1 v2 : Int) (b : Bool) (bw : Nat) (W : World) (K2 : Ca) (g0 g1 g2 : Int) (gb : Bool) (W6 : World) (bg : Nat) (W7 : World) : Prop where
  m : Lw w0 bh bi bt D' (YN Y' W W6) W7
  c : W7.heap[bw]? = some (.cells [Value.int .i64 v0, .int .i64 v1, .int .i64 v2].toArray 36)
  g : W7.heap[bg]? = some (.cells [Value.int .i64 g0, .int .i64 g1, .int .i64 g2].toArray 36)
  eq : gb = b ∧ (gb = true → (g0, g1, g2) = (v0, v1, v2))
  n : InJ w0 W5 bh bi bt cb D dt Y0 (j + 1) (upS D' j (telS (D' j) (g0, g1, g2))) K2 (YN Y' W W6) (W7.setCells bt (j * 3) (encV (g0, g1, g2)))
theorem Nxt.gr {K2 : Ca} {g0 g1 g2 : Int} {gb : Bool} (h : Nxt w0 W5 bh bi bt cb D dt Y0 j D' K' Y' v0 v1 v2 b bw W K2 g0 g1 g2 gb W6) {W7 : World} (g : Gr W6 W7) {bg : Nat} (hg : W7.heap[bg]? = some (.cells [Value.int .i64 g0, .int .i64 g1, .int .i64 g2].toArray 36)) : Nx2 w0 W5 bh bi bt cb D dt Y0 j D' K' Y' v0 v1 v2 b bw W K2 g0 g1 g2 gb W6 bg W7 := ⟨h.m.gr g, blk_gr h.c g, hg, h.eq, h.n W7 g⟩
theorem Nx2.is {K2 : Ca} {g0 g1 g2 : Int} {gb : Bool} {bg : Nat} {W7 : World} (h : Nx2 w0 W5 bh bi bt cb D dt Y0 j D' K' Y' v0 v1 v2 b bw W K2 g0 g1 g2 gb W6 bg W7) (hj : j < 16) : W7.cell? ⟨bi, j, none⟩ = some (.bool (D' j).is) := by
  have z := (flat_cell (f := fun k => [Value.bool (D' k).is]) (k := 1) h.m.ci (fun _ _ => rfl) hj (j := 0) (v := .bool (D' j).is) rfl).1
  rw [Nat.mul_one, Nat.add_zero] at z
  exact z
theorem Nx2.told {K2 : Ca} {g0 g1 g2 : Int} {gb : Bool} {bg : Nat} {W7 : World} (h : Nx2 w0 W5 bh bi bt cb D dt Y0 j D' K' Y' v0 v1 v2 b bw W K2 g0 g1 g2 gb W6 bg W7) (hj : j < 16) (q : Nat) (_ : q < 3) (v : Value) (hv : (encV (D' j).t)[q]? = some v) : W7.cell? ⟨bt, j * 3 + q, none⟩ = some v ∧ W7.frozen? ⟨bt, j * 3 + q, none⟩ = false :=
  flat_cell (f := fun k => encV (D' k).t) (k := 3) h.m.ct (fun _ _ => rfl) hj (j := q) hv
end
end Go.Proofs.Yticgadnmlbfmfaa.cachePlays
