/-
  pool.Decode: its deferred closure, NewReader.
-/
import Derived.Test.YtmmmknhdigapkaaTxN
import Derived.Defers
import Derived.Recover
import Derived.OneCell
namespace Go.Proofs.Ytmmmknhdigapkaa.poolCut
open Go.Ev Go.RowKit Go.Proofs.Ytmmmknhdigapkaa.poolS
set_option linter.unusedVariables false
set_option maxRecDepth 100000 in
theorem c6W(w:World)(s:ByteArray):Calls Try.prog 28 #[.string s] w fun e w'=>e= .returned (.pointer (some ⟨w.heap.size,0,none⟩))∧w'=w.alloc (.cells #[.string s,.int .i64 0,.bool false] 88):=by go_enter Try.func28,Try.ntmps28;go_wp2;go_ret;exact⟨rfl,rfl⟩
theorem d7U(p q:Addr)(w:World):
  CallsD Try.prog 27 #[.pointer (some p),.pointer (some q)] .returning w fun e u' w'=>e= .returned (.tuple #[])∧u'= .returning∧w'=w:=by
 refine callsD_of_wpS Try.func27 rfl fun c₀ cs hu=> ?_;simp only[Try.ntmps27,List.size_toArray,List.length_cons,List.length_nil,Nat.reduceAdd,Nat.reduceSub,Array.replicate_succ,Array.replicate_zero,List.push_toArray,List.append_toArray,List.nil_append,List.cons_append];apply wpS_seq;apply wpS_region;simp[wpOpsS,go_sem,recoverD,hu,Exit.thenS];refine wpS_of_wp ?_;have hz: ∀(W:World),(binOp .neq 20 Value.nilIface Value.nilIface).run Try.prog W= .ok (.bool false) W:=fun W=>by kernel_rfl
 go_wp2;refine⟨rfl,.returning, ?_,.tuple ⟨[]⟩,(show _=_ by kernel_rfl),rfl,rfl,rfl⟩;rw[←hu]
theorem one_cell{w:World}{b:Nat}{v:Value}{t:TypeId}(h:w.heap[b]? =some (.cells #[v] t (0,0))):w.cell? ⟨b,0,none⟩=some v:=by unfold World.cell?;simp only[h];rfl
theorem a8F{w:World}{b:Nat}{v:Value}{t:TypeId}(h:w.heap[b]? =some (.cells #[v] t (0,0))):w.frozen? ⟨b,0,none⟩=false:=free_of_one h
theorem a9K{w:World}{b c:Nat}{u:Value}(hc:b≠c):(w.setCell ⟨c,0,none⟩ u).heap[b]? =w.heap[b]? :=Below.heap_setCell w ⟨c,0,none⟩ u b hc
theorem a2P{w:World}{b:Nat}{o:Obj}(h:b<w.heap.size):(w.alloc o).heap[b]? =w.heap[b]? :=by show(w.heap.push o)[b]? =_;rw[Array.getElem?_push,if_neg (by omega)]
set_option maxRecDepth 100000 in
theorem d4n(P Q:Nat)(w:World)(x y:Value)(hP:w.heap[P]? =some (.cells #[x] 22 (0,0)))(hQ:w.heap[Q]? =some (.cells #[y] 24 (0,0)))(hne:Q≠P)(hPl:P<w.heap.size)(hQl:Q<w.heap.size):
  CallsD Try.prog 27 #[.pointer (some ⟨P,0,none⟩),.pointer (some ⟨Q,0,none⟩)] (.panicking (a7N a0X)) w fun e u' w'=>e= .returned (.tuple #[])∧u'= .panicking [{v:=a0X,recovered:=true}]∧w'=((w.setCell ⟨P,0,none⟩ (.slice none 0 0)).setCell ⟨Q,0,none⟩ (.int .i64 4)).alloc (.cells #[] 58):=by
 refine callsD_of_wpS Try.func27 rfl fun c₀ cs hu=> ?_;simp only[Try.ntmps27,List.size_toArray,List.length_cons,List.length_nil,Nat.reduceAdd,Nat.reduceSub,Array.replicate_succ,Array.replicate_zero,List.push_toArray,List.append_toArray,List.nil_append,List.cons_append];apply wpS_seq;apply wpS_region;simp[wpOpsS,go_sem,recoverD,hu,Exit.thenS,a7N];refine wpS_of_wp ?_;have hz: ∀(W:World),(binOp .neq 20 a0X Value.nilIface).run Try.prog W= .ok (.bool true) W:=fun W=>by kernel_rfl
 have hy: ∀(W:World),(eqGuard .neq 20 (.tmp 6) (.const .nilIface) a0X Value.nilIface).run Try.prog W= .ok () W:=fun W=>by kernel_rfl
 have hx: ∀(W:World),(Instr.typeAssert a0X 20 58 true).run Try.prog W= .ok (.tuple #[.agg ⟨[]⟩,.bool true]) W:=fun W=>by kernel_rfl
 have hP1:(w.alloc (.cells #[] 58)).heap[P]? =some (.cells #[x] 22 (0,0)):=by rw[a2P hPl,hP]
 have hQ1:(w.alloc (.cells #[] 58)).heap[Q]? =some (.cells #[y] 24 (0,0)):=by rw[a2P hQl,hQ]
 have c1:=one_cell hP1;have f1:=a8F hP1;have hQ2:((w.setCell ⟨P,0,none⟩ (.slice none 0 0)).alloc (.cells #[] 58)).heap[Q]? =some (.cells #[y] 24 (0,0)):=by rw[a2P (by rw[World.size_setCell];exact hQl),a9K hne,hQ]
 have c2:=one_cell hQ2;have f2:=a8F hQ2;go_wp2;refine⟨rfl,_,rfl,.tuple ⟨[]⟩,(show _=_ by kernel_rfl),rfl,rfl,rfl⟩
end Go.Proofs.Ytmmmknhdigapkaa.poolCut
