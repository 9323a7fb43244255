/-
  PutNum: how many bytes more.
-/
import Derived.Test.YtmmmknhdigapkaaTxE
import Derived.WalkKit
import Derived.Lib.BufferWrite
import Derived.Laws.BytesArg
namespace Go.Proofs.Ytmmmknhdigapkaa.poolS
open Go.RowKit
structure NumK(x k:Int):Prop where
 lo:0≤k
 hi:k≤8
 a1:1≤k↔128≤x
 a2:2≤k↔16384≤x
 a3:3≤k↔2097152≤x
 a4:4≤k↔268435456≤x
 a5:5≤k↔34359738368≤x
 a6:6≤k↔4398046511104≤x
 a7:7≤k↔562949953421312≤x
 a8:8≤k↔72057594037927936≤x
set_option maxRecDepth 100000 in
theorem a7z{x:Int}{w:World}{a:Addr}(h0:0≤x)(h1:x<18446744073709551616)(hc:w.cell? a=some (.int .u64 x)):
  Calls Try.prog 52 #[.pointer (some a)] w fun e w'=> ∃k,e= .returned (.int .i64 k)∧w'=w∧NumK x k:=by
 go_enter Try.func52,Try.ntmps52;go_wp2_with (go_at_call 53;refine(e1S x _ h0 h1).mono ?_;rintro e w' ⟨n,rfl,rfl,hn⟩)
 all_goals
  rename_i hm;have e:wrap64 (n-1)=n-1:=by have:=hn.lo;have:=hn.hi;unfold wrap64;omega
  go_ret;refine⟨_,rfl,rfl, ?_⟩;obtain⟨b0,b1,c1,c2,c3,c4,c5,c6,c7,c8⟩:=hn;rw[e]at h hm
  try rw[e]
  first
   |rw[if_pos h]at hm
   |rw[if_neg (by omega)]at hm
  have z:(0:Int).tdiv 7=0:=rfl;have z0:wrap64 0=0:=by unfold wrap64;omega
  first
   |rw[z,z0]at hm
    try rw[z0]
    clear z z0;constructor<;>omega
   |rw[Int.tdiv_eq_ediv_of_nonneg (by omega)]at hm
    try rw[Int.tdiv_eq_ediv_of_nonneg (by omega)]
    have e2:wrap64 ((n-1)/7)=(n-1)/7:=by unfold wrap64;omega
    rw[e2]at hm
    try rw[e2]
    constructor<;>omega
theorem NumK.uniq{x k n:Int}(h:NumK x k)(g:NumK x n):k=n:=by obtain⟨b0,b1,c1,c2,c3,c4,c5,c6,c7,c8⟩:=h;obtain⟨g0,g1,d1,d2,d3,d4,d5,d6,d7,d8⟩:=g;omega
def z8:Value:=.int .u8 0
def b8(xs:List Int):List Value:=xs.map (Value.int .u8)
theorem a4r(w:World)(o1 o2:Obj):(((w.alloc o1).alloc o2).drew).heap[w.heap.size+1]? =some o2:=by show((w.alloc o1).alloc o2).heap[w.heap.size+1]? =some o2;have h:(w.alloc o1).heap.size=w.heap.size+1:=World.size_alloc _ _;rw[←h];exact Array.getElem?_push_size
theorem at_new(w:World)(o:Obj):(w.alloc o).heap[w.heap.size]? =some o:=Array.getElem?_push_size
theorem a8r(w:World)(o:Obj){k:Nat}{x:Obj}(h:w.heap[k]? =some x):(w.alloc o).heap[k]? =some x:=by have hk:k<w.heap.size:=(Array.getElem?_eq_some_iff.1 h).1;rw[←h];exact Array.getElem?_push_lt hk|>.trans (Array.getElem?_eq_getElem hk).symm
theorem c9h(n:Nat):madeCells z8.cells n=(List.replicate n z8).toArray:=by
 unfold madeCells;apply Array.ext
 ·simp
 ·intro i h1 h2;simp[z8,Value.cells,Nat.mod_one]
theorem a8J{W:World}{n:Int}{m:Nat}(h:n=m)(hm:m≤281474976710656):
  (Instr.makeSlice 69 (.int .i64 n) (.int .i64 n)).run Try.prog W= .ok (.slice (some ⟨W.heap.size,0,none⟩) m m) (W.alloc (.cells (List.replicate m z8).toArray 5)):=by
 obtain⟨i,hi,hz,hb,hs⟩: ∃i,Try.prog.info? 5=some i∧i.zero=some z8∧i.bytes=1∧i.size=1:=by
  have:(match Try.prog.info? 5 with|some i=>(match i.zero with|some (.int .u8 0)=>true|_=>false)&&i.bytes==1&&i.size==1|none=>false)=true:=by kernel_rfl
  revert this;cases Try.prog.info? 5 with
  |none=>intro h;cases h
  |some i=>
   intro h;simp only[Bool.and_eq_true,beq_iff_eq]at h;obtain⟨⟨h1,h2⟩,h3⟩:=h;refine⟨i,rfl, ?_,h2,h3⟩;revert h1;split
   ·intro _;assumption
   ·intro h;cases h
 have hr:=run_make (P:=Try.prog) W 69 5 i z8 Try.underlying69 hi hz .i64 .i64 n n (by omega) (Int.le_refl _) (by rw[hb];omega) (by omega);rw[hr,hs,Nat.mul_one,c9h,show n.toNat=m by omega]
theorem a4p{W:World}{g a b:Nat}{s:ByteArray}{ty:TypeId}(hs:s.size=a)(hg:W.heap[g]? =some (.cells (List.replicate (a+b) z8).toArray 5 (0,0))){n:Nat}(hn:n=a+b):
  (Builtin.copy_ #[69,9] ty #[.slice (some ⟨g,0,none⟩) n n,.string s]).run Try.prog W= .ok (goInt s.size) (W.setRow g (Lib.byteCells s.data.toList++List.replicate b z8).toArray):=by
 have h:=Lib.run_copy_row_string (P:=Try.prog) W 69 9 ty 5 g 0 n n s _ 5 Try.underlying69 (by kernel_rfl) hg (by omega) (by simp;omega);rw[h];refine congrArg (fun l:List Value=>Result.ok (goInt s.size) (W.setRow g l.toArray)) ?_;simp[hs]
theorem a4o{W:World}{g R:Nat}{s:ByteArray}{ty t:TypeId}{xs:List Int}{rest:List Value}{c m:Nat}(hg:W.heap[g]? =some (.cells (Lib.byteCells s.data.toList++List.replicate xs.length z8).toArray 5 (0,0)))(hR:W.heap[R]? =some (.cells (b8 xs++rest).toArray t (0,0)))
  {o b:Nat} (ho:o=s.size) (hb:b=xs.length):
  (Builtin.copy_ #[69,69] ty #[.slice (some ⟨g,o,none⟩) b m,.slice (some ⟨R,0,none⟩) b c]).run Try.prog W= .ok (goInt b) (W.setRow g (Lib.byteCells s.data.toList++b8 xs).toArray):=by
 subst ho hb;have hl:(Lib.byteCells s.data.toList).length=s.size:=by rw[Lib.byteCells_length,←Lib.size_eq]
 have hbl:(b8 xs).length=xs.length:=by simp[b8]
 have h:=run_copy_row (P:=Try.prog) W 69 69 ty 5 g s.size xs.length m ⟨R,0,none⟩ xs.length c _ 5 (b8 xs) Try.underlying69 (by kernel_rfl) hg (by rw[hbl];exact(Nat.min_self _).symm) (fun j v hj=>by
  have e:(⟨R,0,none⟩:Addr).add j=⟨R,j,none⟩:=by
   unfold Addr.add;split
   ·rename_i h0;rw[h0]
   ·simp
  rw[e];have hj':j<(b8 xs).length:=(List.getElem?_eq_some_iff.1 hj).1;simp only[World.cell?,hR]
  simp[List.getElem?_append_left hj',hj]) (by simp[hl,hbl]) (fun v hv=>by
   simp only[b8,List.mem_map]at hv;obtain⟨n,_,rfl⟩:=hv
   rfl)
 rw[h,hbl];refine congrArg (fun l:List Value=>Result.ok (goInt xs.length) (W.setRow g l.toArray)) ?_;have e1:List.take s.size (Lib.byteCells s.data.toList++List.replicate xs.length z8)=Lib.byteCells s.data.toList:=by rw[←hl,List.take_left'];rfl
 have e2:List.drop (s.size+xs.length) (Lib.byteCells s.data.toList++List.replicate xs.length z8)= []:=by apply List.drop_eq_nil_of_le;simp[hl]
 simp[e1,e2]
def numsOf(s:ByteArray):List Int:=s.data.toList.map fun b=>(b.toNat:Int)
theorem c3o(s:ByteArray):Lib.byteCells s.data.toList=b8 (numsOf s):=by simp[Lib.byteCells,b8,numsOf]
theorem c1e(s:ByteArray)(xs:List Int):strOfNums (numsOf s++xs)=s++strOfNums xs:=by
 have e:(s.data.toList.map fun b=>(b.toNat:Int)).map (fun n=>UInt8.ofNat n.toNat)=s.data.toList:=by rw[List.map_map];exact(List.map_congr_left (fun b _=>by simp)).trans (List.map_id _)
 apply ByteArray.ext;apply Array.ext';simp only[strOfNums,numsOf,List.map_append,e,ByteArray.data_append,Array.toList_append]
theorem a8g{W:World}{g:Nat}{s:ByteArray}{xs:List Int}{n m:Nat}(hg:W.heap[g]? =some (.cells (Lib.byteCells s.data.toList++b8 xs).toArray 5 (0,0)))(hn:n=s.size+xs.length):
  (convert 69 9 (.slice (some ⟨g,0,none⟩) n m)).run Try.prog W= .ok (.string (s++strOfNums xs)) W:=by
 rw[←c1e];have hl:(numsOf s).length=s.size:=by simp only[numsOf,List.length_map];exact(Lib.size_eq s).symm
 refine run_convert_bytes_arg (P:=Try.prog) W 69 5 Try.underlying69 Try.underlying5 g 0 n m (numsOf s++xs) (by rw[List.length_append,hl,hn]) (fun i hi=> ?_) 9 Try.underlying9;rw[c3o]at hg;simp only[World.cell?,hg];have hi2:i<(numsOf s++xs).length:=by rw[List.length_append,hl];omega
 have:b8 (numsOf s)++b8 xs=b8 (numsOf s++xs):=by simp[b8]
 rw[this,Nat.zero_add,List.getElem?_toArray,b8,List.getElem?_map,List.getElem?_eq_getElem hi2,List.getD_eq_getElem?_getD,List.getElem?_eq_getElem hi2];rfl
theorem a8A(W:World)(R:Nat){n:Nat}(hn:n≤9){v:Int}(hv:v=n):
  (Instr.sliceAt 95 (.pointer (some ⟨R,0,none⟩)) none (some (.int .i64 v)) none).run Try.prog W= .ok (.slice (some ⟨R,0,none⟩) n 9) W:=by
 obtain⟨i,hi,hs⟩: ∃i,Try.prog.info? 5=some i∧i.size=1:=by
  have:(match Try.prog.info? 5 with|some i=>i.size==1|none=>false)=true:=by kernel_rfl
  revert this;cases Try.prog.info? 5 with
  |none=>intro h;cases h
  |some i=>intro h;exact⟨i,rfl,by simpa using h⟩
 subst hv;have hb:=run_sliceBound (P:=Try.prog) W .i64 (n:Int) 9 .sliceAlen (by omega) (by omega);simp[Instr.sliceAt,run_underlying Try.underlying95,Instr.sureAddr,Instr.sliceBounds,hb,sizeOf,typeInfo,hi];rfl
theorem sz1(n:Int):(strOfNums [n]).size=1:=rfl
end Go.Proofs.Ytmmmknhdigapkaa.poolS
