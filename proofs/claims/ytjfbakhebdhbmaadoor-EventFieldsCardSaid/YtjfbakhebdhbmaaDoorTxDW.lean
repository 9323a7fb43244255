/-
  The document's digits of a number from ten on: one level, walked.
-/
import Derived.Test.YtjfbakhebdhbmaaDoorProg
import Derived.Tactics
import Derived.Tactics2
import Derived.WalkKit
import Derived.WalkSpells
import Derived.StillTactics
import Derived.Laws.Pointers
import Derived.Laws.BytesArg
import Derived.Deep.RegionWith
import Derived.KernelRfl
import Derived.Below
import Derived.ProofKit
namespace Go.Proofs.YtjfbakhebdhbmaaDoor.event
open Go.RowKit
abbrev oneB (x : Int) : Obj := Obj.cells #[Value.int .u8 x] 5
theorem conv_one {w : World} {b : Nat} {x : Int} (h : w.heap[b]? = some (oneB x)) :
    (convert 71 9 (Value.slice (some { block := b, off := 0 }) 1 1)).run Tryd.prog w = Result.ok (.string ⟨#[UInt8.ofNat x.toNat]⟩) w := by
  refine run_convert_bytes_arg w 71 5 (by kernel_rfl) (by kernel_rfl) b 0 1 1 [x] rfl (fun i hi => ?_) 9 (by kernel_rfl)
  obtain rfl : i = 0 := by omega
  simp [World.cell?, h, oneB]
theorem alloc_self (w : World) (o : Obj) : (w.alloc o).heap[w.heap.size]? = some o := by
  show (w.heap.push o)[w.heap.size]? = _
  rw [Array.getElem?_push, if_pos rfl]
theorem conv_new {w : World} {x : Int} :
    (convert 71 9 (Value.slice (some { block := w.heap.size, off := 0 }) 1 1)).run Tryd.prog (w.alloc (oneB x)) = Result.ok (.string ⟨#[UInt8.ofNat x.toNat]⟩) (w.alloc (oneB x)) :=
  conv_one (alloc_self _ _)
theorem conv_below {V W w' : World} {x : Int} (hb : Below V.heap.size V w') (hv : V.heap = (W.alloc (oneB x)).heap) :
    (convert 71 9 (Value.slice (some { block := W.heap.size, off := 0 }) 1 1)).run Tryd.prog w' = Result.ok (.string ⟨#[UInt8.ofNat x.toNat]⟩) w' :=
  conv_one (by rw [hb.block W.heap.size (by rw [hv]; show _ < (W.heap.push _).size; rw [Array.size_push]; omega), hv]; exact alloc_self _ _)
set_option maxRecDepth 100000 in
theorem dig_step (n : Int) (s : ByteArray) (hsz : s.size ≤ 100) (h10 : 10 ≤ n) (hn : n ≤ 9223372036854775807) (w : World)
    (ih : ∀ w, Calls Tryd.prog 28 #[.int .i64 (IntKind.i64.wrap (n.tdiv 10))] w fun e w' => e = .returned (.string s) ∧ Below w.heap.size w w') :
    Calls Tryd.prog 28 #[.int .i64 n] w fun e w' => e = .returned (.string (s ++ ⟨#[UInt8.ofNat (48 + n.tmod 10).toNat]⟩)) ∧ Below w.heap.size w w' := by
  have h1 : ¬ n < 0 := by omega
  have h2 : ¬ n < 10 := by omega
  have e0 : 0 ≤ n.tmod 10 ∧ n.tmod 10 < 10 := by
    have := Int.tmod_lt_of_pos n (show (0:Int) < 10 by decide)
    have := Int.tmod_nonneg 10 (show 0 ≤ n by omega)
    omega
  have e1 : IntKind.u8.wrap (n.tmod 10) = n.tmod 10 := by
    show n.tmod 10 % 256 = _
    omega
  have e2 : IntKind.u8.wrap (48 + n.tmod 10) = 48 + n.tmod 10 := by
    show (48 + n.tmod 10) % 256 = _
    omega
  have hc : ∀ w : World, (convert 71 9 (Value.slice (some { block := w.heap.size, off := 0 }) 1 1)).run Tryd.prog (w.alloc (Obj.cells #[Value.int .u8 (48 + n.tmod 10)] 5)) = Result.ok (.string ⟨#[UInt8.ofNat (48 + n.tmod 10).toNat]⟩) (w.alloc (Obj.cells #[Value.int .u8 (48 + n.tmod 10)] 5)) := fun w => conv_new
  have hc2 : (convert 71 9 (Value.slice (some { block := w.heap.size, off := 0 }) 1 1)).run Tryd.prog (w.alloc (Obj.cells #[Value.int .u8 (48 + n.tmod 10)] 5)).drew = Result.ok (.string ⟨#[UInt8.ofNat (48 + n.tmod 10).toNat]⟩) (w.alloc (Obj.cells #[Value.int .u8 (48 + n.tmod 10)] 5)).drew := conv_one (alloc_self w (oneB (48 + n.tmod 10)))
  have hc3 : (convert 71 9 (Value.slice (some { block := w.heap.size, off := 0 }) 1 1)).run Tryd.prog (w.drew.alloc (Obj.cells #[Value.int .u8 (48 + n.tmod 10)] 5)) = Result.ok (.string ⟨#[UInt8.ofNat (48 + n.tmod 10).toNat]⟩) (w.drew.alloc (Obj.cells #[Value.int .u8 (48 + n.tmod 10)] 5)) := conv_one (alloc_self w.drew (oneB (48 + n.tmod 10)))
  have hs1 : (s.size + (⟨#[UInt8.ofNat (48 + n.tmod 10).toNat]⟩ : ByteArray).size > 9223372036854775807) = False := by
    rw [show (⟨#[UInt8.ofNat (48 + n.tmod 10).toNat]⟩ : ByteArray).size = 1 from rfl]
    simp only [gt_iff_lt, eq_iff_iff, iff_false]
    omega
  have hs2 : ¬ (9223372036854775807 < s.size + (⟨#[UInt8.ofNat (48 + n.tmod 10).toNat]⟩ : ByteArray).size) := by
    rw [show (⟨#[UInt8.ofNat (48 + n.tmod 10).toNat]⟩ : ByteArray).size = 1 from rfl]
    omega
  have hs3 : ¬ (9223372036854775807 < s.size + 1) := by omega
  go_enter Tryd.func28, Tryd.ntmps28
  go_wp2
  go_region_with (first | (go_at_call 28; refine (ih _).mono ?_; rintro e w' ⟨rfl, hb⟩; (try (have hx := conv_below (W := w) (x := 48 + n.tmod 10) hb rfl))))
  all_goals go_wp2
  · refine bodyPost_ret (results_tmp rfl _ _ _) rfl ⟨rfl, ?_⟩
    exact (((Below.refl w.heap.size w).drew).trans hb).alloc hb.size _
  all_goals
    refine bodyPost_ret (results_tmp rfl _ _ _) rfl ⟨rfl, ?_⟩
    exact (((Below.refl w.heap.size w).alloc (Nat.le_refl _) _).drew).trans (hb.mono (by show _ ≤ (w.heap.push _).size; rw [Array.size_push]; omega))
end Go.Proofs.YtjfbakhebdhbmaaDoor.event
