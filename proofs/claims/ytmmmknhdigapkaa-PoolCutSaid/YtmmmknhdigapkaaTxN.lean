/-
  slices.Clone of cards: its contract.
-/
import Derived.Test.YtmmmknhdigapkaaTxL
import Derived.WalkKit
import Derived.Deep.AppendSrc
namespace Go.Proofs.Ytmmmknhdigapkaa.poolCut
open Go.Ev Go.RowKit Go.Proofs.Ytmmmknhdigapkaa.poolS
set_option linter.unusedVariables false
set_option maxRecDepth 100000 in
theorem c2k(W:World)(a:Addr)(n c:Nat):(binOp .eql 22 (.slice (some a) n c) (.slice none 0 0)).run Try.prog W= .ok (.bool false) W:=by kernel_rfl
set_option maxRecDepth 100000 in
theorem d0I(W:World)(n c:Nat):(binOp .eql 22 (.slice none n c) (.slice none 0 0)).run Try.prog W= .ok (.bool true) W:=by kernel_rfl
theorem d5G(a:Addr)(j:Nat):(a.add j).block=a.block:=by unfold Addr.add;split<;>rfl
set_option maxRecDepth 100000 in
theorem c4U(w:World)(n c:Nat)(a:Addr)(h0:0<n)(h40:n≤40)(f:Nat→Value)(hf: ∀j,j<n*11→w.cell? (a.add j)=some (f j))(ha:a.block<w.heap.size):Calls Try.prog 33 #[.slice (some a) n c] w fun e w'=> ∃B cap arr,e= .returned (.slice (some ⟨B,0,none⟩) n cap)∧w.heap.size≤B∧w'.heap[B]? =some (.cells arr 40)∧(∀j,j<n*11→arr[j]? =some (f j))∧n≤cap∧Below w.heap.size w w':=by
 have h1:=fun W=>c2k W a n c;have h2: ¬(n≤0):=by omega
 have h3: ¬(n=0):=by omega
 have h5: ¬(281474976710656<Builtin.nextslicecap n 0*Try.t40.bytes):=by
  rw[nextslicecap_zero h0];have:decide (40*Try.t40.bytes≤281474976710656)=true:=by kernel_rfl
  have:=of_decide_eq_true this;have:=Nat.mul_le_mul_right Try.t40.bytes h40;omega
 go_enter Try.func33,Try.ntmps33;go_wp2;have hb:Below w.heap.size w ((w.alloc (Obj.cells #[] 40)).drew):=((Below.refl _ w).alloc (Nat.le_refl _) _).drew;have hs:((w.alloc (Obj.cells #[] 40)).drew).heap.size=w.heap.size+1:=World.size_alloc _ _
 rw[run_loadCellsFrom _ a f (n*11) 0 #[] (fun j hj=>by
  rw[Nat.zero_add];have:=hf j hj;unfold World.cell? at this ⊢;rw[show((w.alloc (Obj.cells #[] 40)).drew).heap[(a.add j).block]? =w.heap[(a.add j).block]? from hb.block _ (by rw[d5G];exact ha)]
  exact this)]
 simp only[Result.andThen_ok,Oper.upon_value];apply_assumption;go_wp2;go_ret;refine⟨w.heap.size+1,_,(List.map (fun j=>f j) (List.range (n*11))).toArray++Builtin.zeroCells #[Value.string ⟨#[]⟩,.int .i64 0,.int .i64 0,.int .i64 0,.int .i64 0,.int .i64 0,.int .i64 0,.int .i64 0,.int .i64 0,.int .i64 0,.slice none 0 0] ((Question.appendCap n 0 40).cut (w.tape w.drawn (Question.appendCap n 0 40))-n),rfl,Nat.le_succ _, ?_,fun j hj=> ?_,grownCap_ge w n 0 40, ?_⟩
 ·have:=World.size_alloc w (Obj.cells #[] 40);show((w.alloc (Obj.cells #[] 40)).alloc _).heap[w.heap.size+1]? =_;rw[←this];exact Array.getElem?_push_size
 ·rw[Array.getElem?_append_left (by simpa using hj)];simp[hj]
 ·exact(((Below.refl _ w).alloc (Nat.le_refl _) _).alloc (by rw[World.size_alloc];omega) _).drew
set_option maxRecDepth 100000 in
theorem c4T(w:World)(c:Nat)(a:Addr):Calls Try.prog 33 #[.slice (some a) 0 c] w fun e w'=> ∃B,e= .returned (.slice (some ⟨B,0,none⟩) 0 0)∧Below w.heap.size w w':=by have h1:=fun W=>c2k W a 0 c;go_enter Try.func33,Try.ntmps33;go_wp2;go_ret;exact⟨w.heap.size,rfl,(Below.refl _ w).alloc (Nat.le_refl _) _⟩
set_option maxRecDepth 100000 in
theorem c7q(w:World)(n c:Nat):Calls Try.prog 33 #[.slice none n c] w fun e w'=>e= .returned (.slice none 0 0)∧w'=w:=by have h1:=fun W=>d0I W n c;go_enter Try.func33,Try.ntmps33;go_wp2;go_ret;exact⟨rfl,rfl⟩
end Go.Proofs.Ytmmmknhdigapkaa.poolCut
