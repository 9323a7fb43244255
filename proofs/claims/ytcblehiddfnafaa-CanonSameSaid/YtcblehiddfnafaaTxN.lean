/-
  Chapter 28: maps from numbers to numbers.
-/
import Derived.Test.YtcblehiddfnafaaTxG
import Derived.MapKept
namespace Go.Proofs.Ytcblehiddfnafaa.canonSame
open Go.Shelf Go.RowKit Go.Lib Go.Sort
def MapF(W:World)(b n:Nat)(F:Int→Option Int):Prop:= ∃es clock,W.heap[b]? =some (.map es clock)∧es.size=n∧(∀x∈es.toList,∃k v,x.key= .int .i64 k∧x.val= .int .i64 v∧F k=some v)∧(∀k v,F k=some v→ ∃x∈es.toList,x.key= .int .i64 k)∧(es.toList.map (·.key)).Nodup
theorem MapF.lt{W:World}{b n:Nat}{F:Int→Option Int}(h:MapF W b n F):b<W.heap.size:=by
 obtain⟨es,clock,hb,_⟩:=h
 exact a0L hb
theorem MapF.keep{W W':World}{b n:Nat}{F:Int→Option Int}(h:MapF W b n F)(e:W'.heap[b]? =W.heap[b]?):MapF W' b n F:=by
 obtain⟨es,clock,hb,r⟩:=h
 exact⟨es,clock,e.trans hb,r⟩
theorem MapF.below{W W':World}{b n N:Nat}{F:Int→Option Int}(h:MapF W b n F)(hb:Below N W W')(hn:b<N):MapF W' b n F:=h.keep (hb.block b hn)
theorem MapF.gr{W W':World}{b n:Nat}{F:Int→Option Int}(h:MapF W b n F)(g:Gr W W'):MapF W' b n F:=h.keep ((a0i g).block b h.lt (by simp))
theorem MapF.made(W:World):MapF (W.alloc (.map #[] 0)) W.heap.size 0 fun _=>none:=⟨#[],0,a0T _ _,rfl,(fun x hx=>by simp at hx),(fun k v h=>by cases h),by simp⟩
section
variable{P:Program}{t:TypeId}(ht:P.underlying t=some (.map 3 3))(h3:P.underlying 3=some (.int .i64))(hz: ∀w,(zeroValue 3).run P w= .ok (.int .i64 0) w)
include ht h3 hz
theorem MapF.look_ok{W:World}{b n:Nat}{F:Int→Option Int}(h:MapF W b n F)(k:Int):(Instr.lookup t (.map (some b)) (.int .i64 k) true).run P W= .ok (.tuple #[.int .i64 ((F k).getD 0),.bool (F k).isSome]) W:=by
 obtain⟨es,clock,hb,hs,h1,h2,h4⟩:=h
 have hk:MapKept.IsKey (.int .i64) (.int .i64 k):=rfl
 have hks: ∀x∈es.toList,MapKept.IsKey (.int .i64) x.key:=fun x hx=>by
  obtain⟨k',_,e,_⟩:=h1 x hx
  rw[e]
  rfl
 rcases MapKept.findNow_spec hk es.toList 0 hks with⟨f1,f2⟩|⟨j,e0,f1,f2,f3⟩
 ·have hn:F k=none:=by
   cases hf:F k with
   |none=>rfl
   |some v=>
    obtain⟨x,hx,hxk⟩:=h2 k v hf
    exact absurd hxk (f2 x hx)
  rw[hn]
  simp[Instr.lookup,run_underlying ht,MapKept.run_getObj_map hb,MapKept.run_checkKey h3 hk,MapKept.run_findKey h3 f1,hz,Result.andThen]
 ·have he:e0∈es.toList:=List.mem_of_getElem? f2
  obtain⟨k',v,e1,e2,e3⟩:=h1 e0 he
  rw[f3]at e1
  injection e1 with _ e1
  subst e1
  rw[e3]
  simp[Instr.lookup,run_underlying ht,MapKept.run_getObj_map hb,MapKept.run_checkKey h3 hk,MapKept.run_findKey h3 f1,Result.andThen,e2]
theorem MapF.look{W:World}{b n:Nat}{F:Int→Option Int}(h:MapF W b n F)(k:Int):(Instr.lookup t (.map (some b)) (.int .i64 k) false).run P W= .ok (.int .i64 ((F k).getD 0)) W:=by
 obtain⟨es,clock,hb,hs,h1,h2,h4⟩:=h
 have hk:MapKept.IsKey (.int .i64) (.int .i64 k):=rfl
 have hks: ∀x∈es.toList,MapKept.IsKey (.int .i64) x.key:=fun x hx=>by
  obtain⟨k',_,e,_⟩:=h1 x hx
  rw[e]
  rfl
 rcases MapKept.findNow_spec hk es.toList 0 hks with⟨f1,f2⟩|⟨j,e0,f1,f2,f3⟩
 ·have hn:F k=none:=by
   cases hf:F k with
   |none=>rfl
   |some v=>
    obtain⟨x,hx,hxk⟩:=h2 k v hf
    exact absurd hxk (f2 x hx)
  rw[hn]
  simp[Instr.lookup,run_underlying ht,MapKept.run_getObj_map hb,MapKept.run_checkKey h3 hk,MapKept.run_findKey h3 f1,hz,Result.andThen]
 ·have he:e0∈es.toList:=List.mem_of_getElem? f2
  obtain⟨k',v,e1,e2,e3⟩:=h1 e0 he
  rw[f3]at e1
  injection e1 with _ e1
  subst e1
  rw[e3]
  simp[Instr.lookup,run_underlying ht,MapKept.run_getObj_map hb,MapKept.run_checkKey h3 hk,MapKept.run_findKey h3 f1,Result.andThen,e2]
omit hz in
theorem MapF.put{W:World}{b n:Nat}{F:Int→Option Int}(h:MapF W b n F)(_hn:n<maxLen)(k v:Int): ∃W',(Instr.mapUpdate t (.map (some b)) (.int .i64 k) (.int .i64 v)).run P W= .ok () W'∧MapF W' b (if(F k).isSome then n else n+1) (fun j=>if j=k then some v else F j)∧W.grownBy W' (some b):=by
 obtain⟨es,clock,hb,hs,h1,h2,h4⟩:=h
 have hk:MapKept.IsKey (.int .i64) (.int .i64 k):=rfl
 have hks: ∀x∈es.toList,MapKept.IsKey (.int .i64) x.key:=fun x hx=>by
  obtain⟨k',_,e,_⟩:=h1 x hx
  rw[e]
  rfl
 rcases MapKept.findNow_spec hk es.toList 0 hks with⟨f1,f2⟩|⟨j,e0,f1,f2,f3⟩
 ·have hno:F k=none:=by
   cases hf:F k with
   |none=>rfl
   |some v=>
    obtain⟨x,hx,hxk⟩:=h2 k v hf
    exact absurd hxk (f2 x hx)
  refine⟨{W with heap:=W.heap.setIfInBounds b (.map (es.push ⟨.int .i64 k,.int .i64 v,clock⟩) (clock+1))}, ?_,⟨_,_,(MapKept.heap_set hb).1, ?_, ?_, ?_, ?_⟩,⟨rfl,rfl,rfl,by simp,fun i _ hi=>(MapKept.heap_set hb).2 i (fun e=>hi (by rw[e]))⟩⟩
  ·simp[Instr.mapUpdate,run_underlying ht,MapKept.run_getObj_map hb,MapKept.run_checkKey h3 hk,MapKept.run_findKey h3 f1,MapKept.run_setObj_map _ hb,Result.andThen]
  ·rw[hno]
   simp[hs]
  ·intro x hx
   simp only[Array.toList_push,List.mem_append,List.mem_singleton]at hx
   rcases hx with hx|rfl
   ·obtain⟨k',v',e1,e2,e3⟩:=h1 x hx
    refine⟨k',v',e1,e2, ?_⟩
    have:k'≠k:=fun e=>f2 x hx (by rw[e1,e])
    simp only[if_neg this,e3]
   ·exact⟨k,v,rfl,rfl,by simp⟩
  ·intro k' v' hf
   have hf:(if k'=k then some v else F k')=some v':=hf
   simp only[Array.toList_push,List.mem_append,List.mem_singleton]
   by_cases hkk:k'=k
   ·subst hkk
    exact⟨_,.inr rfl,rfl⟩
   ·rw[if_neg hkk]at hf
    obtain⟨x,hx,e⟩:=h2 k' v' hf
    exact⟨x,.inl hx,e⟩
  ·simp only[Array.toList_push,List.map_append,List.map_singleton]
   rw[List.nodup_append]
   refine⟨h4,List.nodup_cons.2 ⟨by simp,.nil⟩,fun a ha b hb2 e=> ?_⟩
   obtain⟨x,hx,rfl⟩:=List.mem_map.1 ha
   rw[List.mem_singleton.1 hb2]at e
   exact f2 x hx e
 ·have he:e0∈es.toList:=List.mem_of_getElem? f2
  obtain⟨k',v',e1,e2,e3⟩:=h1 e0 he
  rw[f3]at e1
  injection e1 with _ e1
  subst e1
  have hj:es[j]? =some e0:=by simpa using f2
  refine⟨{W with heap:=W.heap.setIfInBounds b (.map (es.modify j fun e'=>{e' with key:=.int .i64 k,val:=.int .i64 v}) clock)}, ?_,⟨_,_,(MapKept.heap_set hb).1, ?_, ?_, ?_, ?_⟩,⟨rfl,rfl,rfl,by simp,fun i _ hi=>(MapKept.heap_set hb).2 i (fun e=>hi (by rw[e]))⟩⟩
  ·simp[Instr.mapUpdate,run_underlying ht,MapKept.run_getObj_map hb,MapKept.run_checkKey h3 hk,MapKept.run_findKey h3 f1,hj,f3,MapKept.run_keyThatStays hk,MapKept.run_setObj_map _ hb,Result.andThen]
  ·rw[e3]
   simp[hs]
  ·intro x hx
   obtain⟨i,hi,rfl⟩:=List.getElem_of_mem hx
   simp only[Array.getElem_toList,Array.getElem_modify]
   have hi':i<es.size:=by simpa using hi
   split
   ·exact⟨k,v,rfl,rfl,by simp⟩
   ·rename_i hne
    obtain⟨k',v2,a1,a2,a3⟩:=h1 es[i] (by simp)
    refine⟨k',v2,a1,a2, ?_⟩
    by_cases hkk:k'=k
    ·exfalso
     subst hkk
     have hjs:j<es.size:=(Array.getElem?_eq_some_iff.1 hj).1
     have ej:es[j]=e0:=(Array.getElem?_eq_some_iff.1 hj).2
     refine hne ((List.getElem_inj (h₀:=by simpa using hjs) (h₁:=by simpa using hi') h4).1 ?_)
     simp only[List.getElem_map,Array.getElem_toList]
     rw[ej,f3,a1]
    ·simp only[if_neg hkk,a3]
  ·intro k' v2 hf
   have hf:(if k'=k then some v else F k')=some v2:=hf
   have hks2:=MapKept.modify_keys (es:=es) j (fun e':MapEntry=>{e' with key:=.int .i64 k,val:=.int .i64 v}) (fun e' he'=>by rw[hj]at he';cases he';exact f3.symm)
   have hmem:Value.int .i64 k'∈es.toList.map (·.key):=by
    by_cases hkk:k'=k
    ·subst hkk
     exact List.mem_map.2 ⟨e0,he,f3⟩
    ·rw[if_neg hkk]at hf
     obtain⟨x,hx,e⟩:=h2 k' v2 hf
     exact List.mem_map.2 ⟨x,hx,e⟩
   rw[←hks2]at hmem
   obtain⟨x,hx,e⟩:=List.mem_map.1 hmem
   exact⟨x,hx,e⟩
  ·rw[MapKept.modify_keys (es:=es) j (fun e':MapEntry=>{e' with key:=.int .i64 k,val:=.int .i64 v}) (fun e' he'=>by rw[hj]at he';cases he';exact f3.symm)]
   exact h4
omit h3 hz in
theorem MapF.len{W:World}{b n:Nat}{F:Int→Option Int}(h:MapF W b n F)(ty:TypeId):(Builtin.len_ #[t] ty #[.map (some b)]).run P W= .ok (.int .i64 n) W:=by
 obtain⟨es,clock,hb,hs,_⟩:=h
 simp[Builtin.len_,run_underlying ht,MapKept.run_getObj_map hb,Result.andThen,hs,goInt]
end
end Go.Proofs.Ytcblehiddfnafaa.canonSame
namespace Go.Proofs.Ytcblehiddfnafaa.canonSame
open Go.Shelf Go.RowKit Go.Lib Go.Sort
def nmF(F:Int→Option Int)(k:Int):Int:=match F k with
 |some v=>v
 |none=>if k=0 then 0 else -1
structure Nmr(w:World)(bn bm n:Nat)(F:Int→Option Int):Prop where
 c:w.heap[bn]? =some (.cells [Value.map (some bm)].toArray 54)
 m:MapF w bm n F
theorem Nmr.gr{w w':World}{bn bm n:Nat}{F:Int→Option Int}(h:Nmr w bn bm n F)(g:Gr w w'):Nmr w' bn bm n F:=⟨a0M h.c g,h.m.gr g⟩
theorem Nmr.keep{w w':World}{bn bm n:Nat}{F:Int→Option Int}(h:Nmr w bn bm n F)(e1:w'.heap[bn]? =w.heap[bn]?)(e2:w'.heap[bm]? =w.heap[bm]?):Nmr w' bn bm n F:=⟨e1.trans h.c,h.m.keep e2⟩
set_option maxHeartbeats 4000000 in
set_option maxRecDepth 100000 in
theorem a5h{bn bm n:Nat}{F:Int→Option Int}(k:Int)(w:World)(h:Nmr w bn bm n F):
  Calls Try.prog 34 #[.pointer (some ⟨bn,0,none⟩),.int .i64 k] w fun e w'=>e= .returned (.int .i64 (nmF F k))∧w'=w:=by
 have hp:=a0B (a0A h.c) (j:=0) (v:=.map (some bm)) rfl
 have hl:=h.m.look_ok Try.underlying34 Try.underlying3 Try.zeroValue3 k
 cases hf:F k with
 |some v=>
  rw[hf]at hl
  have hl':Sem.run Try.prog (Instr.lookup 34 (.map (some bm)) (.int .i64 k) true) w= .ok (.tuple #[.int .i64 v,.bool true]) w:=hl
  have HR:Hid (nmF F k=v):=(show nmF F k=v by unfold nmF;rw[hf])
  clear h hl hf
  go_enter Try.func34,Try.ntmps34
  go_wp2
  go_returns
  exact⟨by rw[HR.out];rfl,rfl⟩
 |none=>
  rw[hf]at hl
  have hl':Sem.run Try.prog (Instr.lookup 34 (.map (some bm)) (.int .i64 k) true) w= .ok (.tuple #[.int .i64 0,.bool false]) w:=hl
  have hr:nmF F k=if k=0 then 0 else -1:=by unfold nmF;rw[hf]
  clear h hl hf
  cases hk:(k==0)with
  |true=>
   rw[if_pos (by simpa using hk)]at hr
   have HR:Hid _:=hr
   clear hr
   go_enter Try.func34,Try.ntmps34
   go_wp2
   go_returns
   exact⟨by rw[HR.out];rfl,rfl⟩
  |false=>
   rw[if_neg (by simpa using hk)]at hr
   have HR:Hid _:=hr
   clear hr
   go_enter Try.func34,Try.ntmps34
   go_wp2
   go_returns
   exact⟨by rw[HR.out];rfl,rfl⟩
structure Ip(w:World)(base e k:Nat)(v:Value)(n:Nat)(X:List Value)(W:World):Prop where
 o:W.ownsRow base e k v n X
 g:w.grownBy W v.ownBlock
theorem Ip.store{w:World}{base e k g n cap:Nat}{X:List Value}{W:World}(h:Ip w base e k (.slice (some ⟨g,0,none⟩) n cap) n X W)(j:Nat)(u:Value):Ip w base e k (.slice (some ⟨g,0,none⟩) n cap) n (X.set j u) (W.setCell ⟨g,j,none⟩ u):=by
 obtain⟨a,b⟩:=h.o.stored j u
 refine⟨a,⟨b.os.trans h.g.os,b.tape.trans h.g.tape,b.output.trans h.g.output,Nat.le_trans h.g.size b.size,fun k hk hn=> ?_⟩⟩
 rw[b.block k (Nat.lt_of_lt_of_le hk h.g.size) hn]
 exact h.g.block k hk hn
theorem Ip.nmr{w:World}{base e k n bn bm m:Nat}{v:Value}{X:List Value}{W:World}{F:Int→Option Int}(h:Ip w base e k v n X W)(hN:Nmr w bn bm m F)(h1:bn<base)(h2:bm<base):Nmr W bn bm m F:=by
 have ne: ∀b,b<base→b<w.heap.size→W.heap[b]? =w.heap[b]? :=fun b hb hs=>h.g.block b hs fun e=>by
  have:=(h.o.lt b e.symm).1
  omega
 exact hN.keep (ne _ h1 (a0L hN.c)) (ne _ h2 hN.m.lt)
theorem a5A(w:World)(r:Option Nat):w.grownBy w r:=⟨rfl,rfl,rfl,Nat.le_refl _,fun _ _ _=>rfl⟩
theorem a1m{W:World}{base e k n c:Nat}{a:Option Addr}{X:List Value}(h:W.ownsRow base e k (.slice a n c) n X)(hn:0<n): ∃g,a=some ⟨g,0,none⟩:=by
 rcases h.2 with⟨_,h0⟩|⟨g,cap,cur,h,_⟩
 ·omega
 ·injection h with h _ _
  exact⟨g,h⟩
theorem set_mid{α:Type}(l m:List α)(x y:α):(l++x::m).set l.length y=l++y::m:=by
 rw[List.set_append_right _ _ (Nat.le_refl _),Nat.sub_self]
 rfl
set_option maxHeartbeats 4000000 in
set_option maxRecDepth 100000 in
theorem a7R{bn bm m base:Nat}{F:Int→Option Int}(v:Value)(l:List Int)(w:World)(hN:Nmr w bn bm m F)(h1:bn<base)(h2:bm<base)(ho:w.ownsRow base 3 1 v l.length (a0J l))(hn:l.length≤900):
  Calls Try.prog 37 #[.pointer (some ⟨bn,0,none⟩),v] w fun e w'=>e= .returned (.tuple #[])∧Aside (Ip w base 3 1 v l.length (a0J (l.map (nmF F))) w'):=by
 obtain⟨a,c,rfl⟩:=a0o ho
 have e34:=enters_of Try.func34 (by kernel_rfl) rfl
 have I0:Aside (Ip w base 3 1 (.slice a l.length c) l.length (a0J ((l.take 0).map (nmF F)++l.drop 0)) w):=⟨ho,a5A _ _⟩
 have HN:Aside _:=hN
 have H1:Aside _:=h1
 have H2:Aside _:=h2
 clear hN h1 h2 ho
 go_enter Try.func37,Try.ntmps37
 go_wp2
 go_loopg [7] l.length (fun kx s7 wr=> ∃i:Nat,s7= .int .i64 i∧i≤l.length∧l.length-i≤kx∧Aside (Ip w base 3 1 (.slice a l.length c) l.length (a0J ((l.take i).map (nmF F)++l.drop i)) wr))
 case atStart=>exact⟨0,rfl,Nat.zero_le _,Nat.le_refl _,I0⟩
 case round=>
  clear I0
  obtain⟨i,rfl,hi,hkx,I1⟩:=hrel
  have wj:IntKind.i64.wrap ((i:Int)+1)=(i:Int)+1:=by rw[IntKind.wrap_i64];omega
  by_cases hlt:i<l.length
  ·have hltz:(i:Int)<(l.length:Int):=by omega
   obtain⟨g,rfl⟩:=a1m I1.out.o (by omega)
   have hdr:l.drop i=l[i]::l.drop (i+1):=List.drop_eq_getElem_cons hlt
   have htk:l.take (i+1)=l.take i++ [l[i]]:=List.take_succ_eq_append_getElem hlt
   have hlen:(a0J ((l.take i).map (nmF F))).length=i:=by simp[a0J];omega
   have hsp:a0J ((l.take i).map (nmF F)++l.drop i)=a0J ((l.take i).map (nmF F))++ .int .i64 l[i]::a0J (l.drop (i+1)):=by rw[hdr];unfold a0J;rw[List.map_append,List.map_cons]
   have hsq: ∀y,a0J ((l.take i).map (nmF F))++Value.int .i64 (nmF F l[i])::a0J (l.drop (i+1))=y→a0J ((l.take (i+1)).map (nmF F)++l.drop (i+1))=y:=by
    rintro y rfl
    simp only[a0J,htk,List.map_append,List.map_cons,List.map_nil,List.append_assoc,List.cons_append,List.nil_append]
   have c0:=(I1.out.o.cellAt i (by omega)).trans (show _=some (Value.int .i64 l[i])by rw[hsp,List.getElem?_append_right (by omega),hlen,Nat.sub_self];rfl)
   have f0:=I1.out.o.frozenAt i
   have hcall:=a5h l[i] wr (I1.out.nmr HN.out H1.out H2.out)
   have I2:=I1.out.store i (.int .i64 (nmF F l[i]))
   rw[hsp]at I2
   have hset:(a0J ((l.take i).map (nmF F))++Value.int .i64 l[i]::a0J (l.drop (i+1))).set i (.int .i64 (nmF F l[i]))=a0J ((l.take (i+1)).map (nmF F)++l.drop (i+1)):=by
    have:=set_mid (a0J ((l.take i).map (nmF F))) (a0J (l.drop (i+1))) (Value.int .i64 l[i]) (.int .i64 (nmF F l[i]))
    rw[hlen]at this
    rw[this]
    exact(hsq _ rfl).symm
   rw[hset]at I2
   have I3:Aside (Ip w base 3 1 (.slice (some ⟨g,0,none⟩) l.length c) l.length (a0J ((l.take (i+1)).map (nmF F)++l.drop (i+1))) (wr.setCell ⟨g,i,none⟩ (.int .i64 (nmF F l[i])))):=I2
   generalize nmF F l[i]=y at hcall I3
   generalize l[i]=x at c0 hcall
   clear hdr htk hlen hsp hsq I2 hset I1
   go_wp2_with (go_at_call 34;refine hcall.mono ?_;rintro e w2 ⟨rfl,hw⟩;obtain rfl:=hw.symm)
   go_roundg (l.length-(i+1))
   case measure=>omega
   case rel=>exact⟨i+1,by first|rfl|go_num,by omega,Nat.le_refl _,I3⟩
  ·have hltz: ¬(i:Int)<(l.length:Int):=by omega
   obtain rfl:i=l.length:=by omega
   have I2:Aside (Ip w base 3 1 (.slice a l.length c) l.length (a0J (l.map (nmF F))) wr):=by have:=I1.out;rw[List.take_length,List.drop_length,List.append_nil]at this;exact this
   clear I1
   go_wp2
   go_returns
   exact⟨rfl,I2⟩
end Go.Proofs.Ytcblehiddfnafaa.canonSame
namespace Go.Proofs.Ytcblehiddfnafaa.canonSame
open Go.Shelf Go.RowKit Go.Lib Go.Sort
theorem a7l(l m:List (Int×Int)):a3F (l++m)=a3F l++a3F m:=by
 unfold a3F
 rw[List.flatMap_append]
theorem a5g(l:List (Int×Int)):(a3F l).length=l.length*2:=a1W (f:=fun p:Int×Int=>[Value.int .i64 p.1,.int .i64 p.2]) (fun _=>rfl) l
theorem a6K(p:Int×Int)(l:List (Int×Int)):a3F (p::l)= .int .i64 p.1:: .int .i64 p.2::a3F l:=rfl
theorem b5i(A:List (Int×Int))(p:Int×Int)(B:List (Int×Int)):(a3F (A++p::B))[A.length*2+1]? =some (.int .i64 p.2):=by
 rw[a7l,List.getElem?_append_right (by rw[a5g];omega),a5g,a6K,show A.length*2+1-A.length*2=1 by omega]
 rfl
theorem b5h(A:List (Int×Int))(p:Int×Int)(B:List (Int×Int))(y:Int):(a3F (A++p::B)).set (A.length*2+1) (.int .i64 y)=a3F (A++(p.1,y)::B):=by
 rw[a7l,a7l,List.set_append_right _ _ (by rw[a5g];omega),a5g,a6K,a6K,show A.length*2+1-A.length*2=1 by omega]
 rfl
set_option maxHeartbeats 4000000 in
set_option maxRecDepth 100000 in
theorem a3p{bn bm m base:Nat}{F:Int→Option Int}(v:Value)(l:List (Int×Int))(w:World)(hN:Nmr w bn bm m F)(h1:bn<base)(h2:bm<base)(ho:w.ownsRow base 45 2 v l.length (a3F l))(hn:l.length≤900):
  Calls Try.prog 39 #[.pointer (some ⟨bn,0,none⟩),v] w fun e w'=>e= .returned (.tuple #[])∧Aside (Ip w base 45 2 v l.length (a3F (l.map fun p=>(p.1,nmF F p.2))) w'):=by
 obtain⟨a,c,rfl⟩:=a0o ho
 have e34:=enters_of Try.func34 (by kernel_rfl) rfl
 have I0:Aside (Ip w base 45 2 (.slice a l.length c) l.length (a3F ((l.take 0).map (fun p=>(p.1,nmF F p.2))++l.drop 0)) w):=⟨ho,a5A _ _⟩
 have HN:Aside _:=hN
 have H1:Aside _:=h1
 have H2:Aside _:=h2
 clear hN h1 h2 ho
 go_enter Try.func39,Try.ntmps39
 go_wp2
 go_loopg [7] l.length (fun kx s7 wr=> ∃i:Nat,s7= .int .i64 i∧i≤l.length∧l.length-i≤kx∧Aside (Ip w base 45 2 (.slice a l.length c) l.length (a3F ((l.take i).map (fun p=>(p.1,nmF F p.2))++l.drop i)) wr))
 case atStart=>exact⟨0,rfl,Nat.zero_le _,Nat.le_refl _,I0⟩
 case round=>
  clear I0
  obtain⟨i,rfl,hi,hkx,I1⟩:=hrel
  have wj:IntKind.i64.wrap ((i:Int)+1)=(i:Int)+1:=by rw[IntKind.wrap_i64];omega
  by_cases hlt:i<l.length
  ·have hltz:(i:Int)<(l.length:Int):=by omega
   obtain⟨g,rfl⟩:=a1m I1.out.o (by omega)
   have hdr:l.drop i=l[i]::l.drop (i+1):=List.drop_eq_getElem_cons hlt
   have htk:l.take (i+1)=l.take i++ [l[i]]:=List.take_succ_eq_append_getElem hlt
   have hlen:((l.take i).map fun p=>(p.1,nmF F p.2)).length=i:=by rw[List.length_map,List.length_take];omega
   have hg:=b5i ((l.take i).map fun p=>(p.1,nmF F p.2)) l[i] (l.drop (i+1))
   have hs:=b5h ((l.take i).map fun p=>(p.1,nmF F p.2)) l[i] (l.drop (i+1)) (nmF F l[i].2)
   rw[hlen,←hdr]at hg hs
   have hs2:(l.take i).map (fun p=>(p.1,nmF F p.2))++(l[i].1,nmF F l[i].2)::l.drop (i+1)=(l.take (i+1)).map (fun p=>(p.1,nmF F p.2))++l.drop (i+1):=by
    rw[htk,List.map_append,List.append_assoc]
    rfl
   rw[hs2]at hs
   have c0:=(I1.out.o.cellAt (i*2+1) (by omega)).trans hg
   have f0:=I1.out.o.frozenAt (i*2+1)
   have hcall:=a5h l[i].2 wr (I1.out.nmr HN.out H1.out H2.out)
   have I2:=I1.out.store (i*2+1) (.int .i64 (nmF F l[i].2))
   rw[hs]at I2
   have I3:Aside (Ip w base 45 2 (.slice (some ⟨g,0,none⟩) l.length c) l.length (a3F ((l.take (i+1)).map (fun p=>(p.1,nmF F p.2))++l.drop (i+1))) (wr.setCell ⟨g,i*2+1,none⟩ (.int .i64 (nmF F l[i].2)))):=I2
   generalize nmF F l[i].2=y at hcall I3
   generalize l[i].2=x at c0 hcall
   clear hdr htk hlen hg hs hs2 I2 I1
   go_wp2_with (go_at_call 34;refine hcall.mono ?_;rintro e w2 ⟨rfl,hw⟩;obtain rfl:=hw.symm)
   go_roundg (l.length-(i+1))
   case measure=>omega
   case rel=>exact⟨i+1,by first|rfl|go_num,by omega,Nat.le_refl _,I3⟩
  ·have hltz: ¬(i:Int)<(l.length:Int):=by omega
   obtain rfl:i=l.length:=by omega
   have I2:Aside (Ip w base 45 2 (.slice a l.length c) l.length (a3F (l.map fun p=>(p.1,nmF F p.2))) wr):=by have:=I1.out;rw[List.take_length,List.drop_length,List.append_nil]at this;exact this
   clear I1
   go_wp2
   go_returns
   exact⟨rfl,I2⟩
end Go.Proofs.Ytcblehiddfnafaa.canonSame
