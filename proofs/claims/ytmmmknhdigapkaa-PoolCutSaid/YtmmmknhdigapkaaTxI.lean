/-
  Numbers as bytes: which lists of bytes are a number's.
-/
import Derived.Test.YtmmmknhdigapkaaTxG
namespace Go.Proofs.Ytmmmknhdigapkaa.poolCut
open Go.RowKit Go.Proofs.Ytmmmknhdigapkaa.poolS
set_option linter.unusedVariables false
def lead(b:Int):Nat:=if b<128 then 0 else if b<192 then 1 else if b<224 then 2 else if b<240 then 3 else if b<248 then 4 else if b<252 then 5 else if b<254 then 6 else if b<255 then 7 else 8
def a4b(b:Int):Int:=if b<128 then b else if b<192 then b-128 else if b<224 then b-192 else if b<240 then b-224 else if b<248 then b-240 else if b<252 then b-248 else if b<254 then b-252 else if b<255 then b-254 else b-255
def a7o(a:Int)(t:List Int):Int:=t.foldl (fun n c=>n*256+c) a
def U64(n:Int):Prop:=0≤n∧n<18446744073709551616
set_option maxHeartbeats 4000000 in
theorem b2K{m:Int}(h:U64 m): ∃b t,a0U m=b::t∧0≤b∧b<256∧lead b=t.length∧m=a7o (a4b b) t∧(∀c∈t,0≤c∧c<256)∧(0<t.length→2^(7*t.length)≤m):=by
 obtain⟨h0,h1⟩:=h;unfold a0U
 repeat' split
 all_goals
  refine⟨_,_,rfl,by omega,by omega, ?_, ?_, ?_, ?_⟩
  ·unfold lead;simp only[List.length_cons,List.length_nil]
   repeat' split
   all_goals first|rfl|(exfalso;omega)
  ·unfold a4b;simp only[a7o,List.foldl_cons,List.foldl_nil]
   repeat' split
   all_goals omega
  ·intro c hc;simp only[List.mem_cons,List.not_mem_nil,or_false]at hc
   all_goals first
    |exact hc.elim
    |(rcases hc with rfl|rfl|rfl|rfl|rfl|rfl|rfl|rfl<;>omega)
    |(rcases hc with rfl|rfl|rfl|rfl|rfl|rfl|rfl<;>omega)
    |(rcases hc with rfl|rfl|rfl|rfl|rfl|rfl<;>omega)
    |(rcases hc with rfl|rfl|rfl|rfl|rfl<;>omega)
    |(rcases hc with rfl|rfl|rfl|rfl<;>omega)
    |(rcases hc with rfl|rfl|rfl<;>omega)
    |(rcases hc with rfl|rfl<;>omega)
    |(subst hc;omega;done)
  ·intro hl;simp only[List.length_cons,List.length_nil]at hl ⊢
   first|(exfalso;omega)|(simp only[Nat.reduceAdd,Nat.reduceMul,Int.reducePow];omega)
theorem b9o: ∀{t:List Int} {a:Int},(∀c∈t,0≤c∧c<256)→0≤a→0≤a7o a t∧a7o a t<(a+1)*256^t.length
 | [],a,_,ha=>by simp[a7o];omega
 |c::t,a,h,ha=>by obtain⟨c0,c1⟩:=h c List.mem_cons_self;obtain⟨h1,h2⟩:=b9o (t:=t) (a:=a*256+c) (fun x hx=>h x (List.mem_cons_of_mem _ hx)) (by omega);have e:a7o a (c::t)=a7o (a*256+c) t:=rfl;rw[e];refine⟨h1,Int.lt_of_lt_of_le h2 ?_⟩;rw[List.length_cons,Int.pow_succ,Int.mul_comm (256^t.length) 256,←Int.mul_assoc];exact Int.mul_le_mul_of_nonneg_right (by omega) (Int.pow_nonneg (by decide))
set_option maxHeartbeats 4000000 in
theorem c6R{b:Int}{t:List Int}(h0:0≤b)(h1:b<256)(hl:lead b=t.length)(ht: ∀c∈t,0≤c∧c<256)(hc:0<t.length→2^(7*t.length)≤a7o (a4b b) t):a0U (a7o (a4b b) t)=b::t∧U64 (a7o (a4b b) t):=by
 have hk:lead b≤8:=by
  unfold lead
  repeat' split
  all_goals omega
 match t,hl,ht,hc with
 | [],hl,ht,hc=>
  have hb:b<128:=by
   unfold lead at hl
   repeat' split at hl
   all_goals first|omega|(cases hl;done)
  simp only[a7o,List.foldl_nil,a4b,if_pos hb];refine⟨?_,by omega,by omega⟩;unfold a0U;rw[if_pos hb]
  simp
 | [c1],hl,ht,hc=>
  have hb:128≤b∧b<192:=by
   unfold lead at hl;simp only[List.length_cons,List.length_nil]at hl
   repeat' split at hl
   all_goals first|omega|(exfalso;omega)
  have el:a4b b=b-128:=by
   unfold a4b
   repeat' split
   all_goals omega
  simp only[List.mem_cons,List.not_mem_nil,or_false,forall_eq]at ht;simp only[List.length_cons,List.length_nil,Nat.reduceAdd,Nat.reduceMul,Int.reducePow,a7o,List.foldl_cons,List.foldl_nil]at hc ⊢;rw[el]at hc ⊢;have hc:=hc (by decide);obtain⟨t1a,t1b⟩:=ht;refine⟨?_,by omega,by omega⟩;unfold a0U;rw[if_neg (by omega)];rw[if_pos (by omega)];simp only[List.cons.injEq,and_true];refine⟨?_, ?_⟩<;>omega
 | [c1,c2],hl,ht,hc=>
  have hb:192≤b∧b<224:=by
   unfold lead at hl;simp only[List.length_cons,List.length_nil]at hl
   repeat' split at hl
   all_goals first|omega|(exfalso;omega)
  have el:a4b b=b-192:=by
   unfold a4b
   repeat' split
   all_goals omega
  simp only[List.mem_cons,List.not_mem_nil,or_false,forall_eq_or_imp,forall_eq]at ht;simp only[List.length_cons,List.length_nil,Nat.reduceAdd,Nat.reduceMul,Int.reducePow,a7o,List.foldl_cons,List.foldl_nil]at hc ⊢;rw[el]at hc ⊢;have hc:=hc (by decide);obtain⟨⟨t1a,t1b⟩,⟨t2a,t2b⟩⟩:=ht;refine⟨?_,by omega,by omega⟩;unfold a0U;rw[if_neg (by omega)];rw[if_neg (by omega)];rw[if_pos (by omega)];simp only[List.cons.injEq,and_true];refine⟨?_, ?_, ?_⟩<;>omega
 | [c1,c2,c3],hl,ht,hc=>
  have hb:224≤b∧b<240:=by
   unfold lead at hl;simp only[List.length_cons,List.length_nil]at hl
   repeat' split at hl
   all_goals first|omega|(exfalso;omega)
  have el:a4b b=b-224:=by
   unfold a4b
   repeat' split
   all_goals omega
  simp only[List.mem_cons,List.not_mem_nil,or_false,forall_eq_or_imp,forall_eq]at ht;simp only[List.length_cons,List.length_nil,Nat.reduceAdd,Nat.reduceMul,Int.reducePow,a7o,List.foldl_cons,List.foldl_nil]at hc ⊢;rw[el]at hc ⊢;have hc:=hc (by decide);obtain⟨⟨t1a,t1b⟩,⟨t2a,t2b⟩,⟨t3a,t3b⟩⟩:=ht;refine⟨?_,by omega,by omega⟩;unfold a0U;rw[if_neg (by omega)];rw[if_neg (by omega)];rw[if_neg (by omega)];rw[if_pos (by omega)];simp only[List.cons.injEq,and_true];refine⟨?_, ?_, ?_, ?_⟩<;>omega
 | [c1,c2,c3,c4],hl,ht,hc=>
  have hb:240≤b∧b<248:=by
   unfold lead at hl;simp only[List.length_cons,List.length_nil]at hl
   repeat' split at hl
   all_goals first|omega|(exfalso;omega)
  have el:a4b b=b-240:=by
   unfold a4b
   repeat' split
   all_goals omega
  simp only[List.mem_cons,List.not_mem_nil,or_false,forall_eq_or_imp,forall_eq]at ht;simp only[List.length_cons,List.length_nil,Nat.reduceAdd,Nat.reduceMul,Int.reducePow,a7o,List.foldl_cons,List.foldl_nil]at hc ⊢;rw[el]at hc ⊢;have hc:=hc (by decide);obtain⟨⟨t1a,t1b⟩,⟨t2a,t2b⟩,⟨t3a,t3b⟩,⟨t4a,t4b⟩⟩:=ht;refine⟨?_,by omega,by omega⟩;unfold a0U;rw[if_neg (by omega)];rw[if_neg (by omega)];rw[if_neg (by omega)];rw[if_neg (by omega)];rw[if_pos (by omega)];simp only[List.cons.injEq,and_true];refine⟨?_, ?_, ?_, ?_, ?_⟩<;>omega
 | [c1,c2,c3,c4,c5],hl,ht,hc=>
  have hb:248≤b∧b<252:=by
   unfold lead at hl;simp only[List.length_cons,List.length_nil]at hl
   repeat' split at hl
   all_goals first|omega|(exfalso;omega)
  have el:a4b b=b-248:=by
   unfold a4b
   repeat' split
   all_goals omega
  simp only[List.mem_cons,List.not_mem_nil,or_false,forall_eq_or_imp,forall_eq]at ht;simp only[List.length_cons,List.length_nil,Nat.reduceAdd,Nat.reduceMul,Int.reducePow,a7o,List.foldl_cons,List.foldl_nil]at hc ⊢;rw[el]at hc ⊢;have hc:=hc (by decide);obtain⟨⟨t1a,t1b⟩,⟨t2a,t2b⟩,⟨t3a,t3b⟩,⟨t4a,t4b⟩,⟨t5a,t5b⟩⟩:=ht;refine⟨?_,by omega,by omega⟩;unfold a0U;rw[if_neg (by omega)];rw[if_neg (by omega)];rw[if_neg (by omega)];rw[if_neg (by omega)];rw[if_neg (by omega)];rw[if_pos (by omega)];simp only[List.cons.injEq,and_true];refine⟨?_, ?_, ?_, ?_, ?_, ?_⟩<;>omega
 | [c1,c2,c3,c4,c5,c6],hl,ht,hc=>
  have hb:252≤b∧b<254:=by
   unfold lead at hl;simp only[List.length_cons,List.length_nil]at hl
   repeat' split at hl
   all_goals first|omega|(exfalso;omega)
  have el:a4b b=b-252:=by
   unfold a4b
   repeat' split
   all_goals omega
  simp only[List.mem_cons,List.not_mem_nil,or_false,forall_eq_or_imp,forall_eq]at ht;simp only[List.length_cons,List.length_nil,Nat.reduceAdd,Nat.reduceMul,Int.reducePow,a7o,List.foldl_cons,List.foldl_nil]at hc ⊢;rw[el]at hc ⊢;have hc:=hc (by decide);obtain⟨⟨t1a,t1b⟩,⟨t2a,t2b⟩,⟨t3a,t3b⟩,⟨t4a,t4b⟩,⟨t5a,t5b⟩,⟨t6a,t6b⟩⟩:=ht;refine⟨?_,by omega,by omega⟩;unfold a0U;rw[if_neg (by omega)];rw[if_neg (by omega)];rw[if_neg (by omega)];rw[if_neg (by omega)];rw[if_neg (by omega)];rw[if_neg (by omega)];rw[if_pos (by omega)];simp only[List.cons.injEq,and_true];refine⟨?_, ?_, ?_, ?_, ?_, ?_, ?_⟩<;>omega
 | [c1,c2,c3,c4,c5,c6,c7],hl,ht,hc=>
  have hb:254≤b∧b<255:=by
   unfold lead at hl;simp only[List.length_cons,List.length_nil]at hl
   repeat' split at hl
   all_goals first|omega|(exfalso;omega)
  have el:a4b b=b-254:=by
   unfold a4b
   repeat' split
   all_goals omega
  simp only[List.mem_cons,List.not_mem_nil,or_false,forall_eq_or_imp,forall_eq]at ht;simp only[List.length_cons,List.length_nil,Nat.reduceAdd,Nat.reduceMul,Int.reducePow,a7o,List.foldl_cons,List.foldl_nil]at hc ⊢;rw[el]at hc ⊢;have hc:=hc (by decide);obtain⟨⟨t1a,t1b⟩,⟨t2a,t2b⟩,⟨t3a,t3b⟩,⟨t4a,t4b⟩,⟨t5a,t5b⟩,⟨t6a,t6b⟩,⟨t7a,t7b⟩⟩:=ht;refine⟨?_,by omega,by omega⟩;unfold a0U;rw[if_neg (by omega)];rw[if_neg (by omega)];rw[if_neg (by omega)];rw[if_neg (by omega)];rw[if_neg (by omega)];rw[if_neg (by omega)];rw[if_neg (by omega)];rw[if_pos (by omega)];simp only[List.cons.injEq,and_true];refine⟨?_, ?_, ?_, ?_, ?_, ?_, ?_, ?_⟩<;>omega
 | [c1,c2,c3,c4,c5,c6,c7,c8],hl,ht,hc=>
  have hb:255≤b∧b<256:=by
   unfold lead at hl;simp only[List.length_cons,List.length_nil]at hl
   repeat' split at hl
   all_goals first|omega|(exfalso;omega)
  have el:a4b b=b-255:=by
   unfold a4b
   repeat' split
   all_goals omega
  simp only[List.mem_cons,List.not_mem_nil,or_false,forall_eq_or_imp,forall_eq]at ht;simp only[List.length_cons,List.length_nil,Nat.reduceAdd,Nat.reduceMul,Int.reducePow,a7o,List.foldl_cons,List.foldl_nil]at hc ⊢;rw[el]at hc ⊢;have hc:=hc (by decide);obtain⟨⟨t1a,t1b⟩,⟨t2a,t2b⟩,⟨t3a,t3b⟩,⟨t4a,t4b⟩,⟨t5a,t5b⟩,⟨t6a,t6b⟩,⟨t7a,t7b⟩,⟨t8a,t8b⟩⟩:=ht;refine⟨?_,by omega,by omega⟩;unfold a0U;rw[if_neg (by omega)];rw[if_neg (by omega)];rw[if_neg (by omega)];rw[if_neg (by omega)];rw[if_neg (by omega)];rw[if_neg (by omega)];rw[if_neg (by omega)];rw[if_neg (by omega)];simp only[List.cons.injEq,and_true];refine⟨?_, ?_, ?_, ?_, ?_, ?_, ?_, ?_, ?_⟩<;>omega
 |_::_::_::_::_::_::_::_::_::_,hl,_,_=>rw[hl]at hk;simp only[List.length_cons]at hk;omega
end Go.Proofs.Ytmmmknhdigapkaa.poolCut
