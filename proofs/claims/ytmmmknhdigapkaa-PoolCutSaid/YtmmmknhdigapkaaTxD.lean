/-
  A map of names: what a store does; how many there are. Operations by hand.
-/
import Derived.Test.YtmmmknhdigapkaaTxC
import Derived.WideLaws
import Derived.MapKept
namespace Go.Proofs.Ytmmmknhdigapkaa.plq
open Go.Ev Go.RowKit
set_option linter.unusedVariables false
noncomputable section
theorem e0g{P:Program}{all:List Oper}{Q:Exit→Act→World→Prop}{i:Nat}{rest:List Nat}{o:Oper}{act:Act}{w w':World}(ho:all[i]? =some o)(hg:o.guard=none)(hr:(execOp act.eval o).run P w= .ok .skip w')(hq:wpOpsIn (Fr none) 0 P ⟨all⟩ Q rest (act.put o.dst undef) w'):wpOpsIn (Fr none) 0 P ⟨all⟩ Q (i::rest) act w:=by
 have hget:(⟨all⟩:Array Oper)[i]? =some o:=by simpa using ho
 simp only[wpOpsIn,hget];rw[if_pos (by simp[Region.wanted,hg])];refine⟨fun _ _=>trivial, ?_⟩;show o.uponIn (Fr none) 0 P act _ Q ((o.semAt none act.eval).run P w);rw[Oper.semAt_none,hr];exact hq
theorem e3h{P:Program}{all:List Oper}{Q:Exit→Act→World→Prop}{i:Nat}{rest:List Nat}{o:Oper}{act:Act}{w w':World}{v:Value}(ho:all[i]? =some o)(hg:o.guard=none)(hr:(execOp act.eval o).run P w= .ok (.value v) w')(hq:wpOpsIn (Fr none) 0 P ⟨all⟩ Q rest (act.put o.dst v) w'):wpOpsIn (Fr none) 0 P ⟨all⟩ Q (i::rest) act w:=by
 have hget:(⟨all⟩:Array Oper)[i]? =some o:=by simpa using ho
 simp only[wpOpsIn,hget];rw[if_pos (by simp[Region.wanted,hg])];refine⟨fun _ _=>trivial, ?_⟩;show o.uponIn (Fr none) 0 P act _ Q ((o.semAt none act.eval).run P w);rw[Oper.semAt_none,hr];exact hq
def c8f(ks:List ByteArray)(es:List MapEntry):Prop:=es.map (·.key)=ks.map Value.string
def b9E(ks:List ByteArray)(s:ByteArray):List ByteArray:=if ks.any (fun k=>s==k)=true then ks else ks++ [s]
theorem b4H{s:ByteArray}: ∀{ks:List ByteArray} {es:List MapEntry} (i:Nat),c8f ks es→(ks.any (fun k=>s==k)=false∧Instr.findNow .string (.string s) es i=some none)∨ ∃p e,es[p]? =some e∧e.key= .string s∧ks.any (fun k=>s==k)=true∧Instr.findNow .string (.string s) es i=some (some (i+p,e.val))
 | [],[],i,_=>.inl ⟨rfl,rfl⟩
 | [],e::es,i,h=>by simp[c8f]at h
 |k::ks,[],i,h=>by simp[c8f]at h
 |k::ks,e::es,i,h=>by
  have h1:e.key= .string k:=by have:=congrArg List.head? h;simpa using this
  have h2:c8f ks es:=by have:=congrArg List.tail h;simpa[c8f]using this
  cases hk:s==k with
  |true=>right;have e0:s=k:=(MapKept.bytes_beq s k).1 hk;exact⟨0,e,rfl,by rw[h1,e0],by simp[hk],by simp[Instr.findNow,Instr.sameNow,h1,hk]⟩
  |false=>
   have step:Instr.findNow .string (.string s) (e::es) i=Instr.findNow .string (.string s) es (i+1):=by simp[Instr.findNow,Instr.sameNow,h1,hk]
   rw[step];rcases b4H (i+1) h2 with⟨g1,g2⟩|⟨p,e',g1,g2,g3,g4⟩
   ·left;exact⟨by simp[hk]at g1 ⊢;exact g1,g2⟩
   ·right;exact⟨p+1,e',g1,g2,by simp[hk]at g3 ⊢;exact g3,by rw[g4];congr 3;omega⟩
theorem d6X(s:ByteArray)(n:Nat):Instr.sameBits n (.string s) (.string s)=true:=by cases n<;>exact(MapKept.bytes_beq s s).2 rfl
theorem d7q{P:Program}{w:World}{kt:TypeId}(hk:P.underlying kt=some .string)(e:Bool)(s:ByteArray)(n:Nat):(Instr.checkKey e (n+1) kt (.string s)).run P w= .ok () w:=by simp[Instr.checkKey,run_underlying hk]
theorem d3b{P:Program}{w:World}{t kt et:TypeId}{mb:Nat}{ks:List ByteArray}{es:List MapEntry}{c:Nat}(hu:P.underlying t=some (.map kt et))(hk:P.underlying kt=some .string)(hw:w.heap[mb]? =some (.map ⟨es⟩ c))(hm:c8f ks es)(s:ByteArray)(v:Value):
  ∃w' es' c',(do Instr.mapUpdate t (.map (some mb)) (.string s) v;pure Next.skip:Sem Next).run P w= .ok .skip w'∧Upd w w' mb (.map ⟨es'⟩ c')∧c8f (b9E ks s) es':=by
 have hck: ∀e:Bool,(Instr.checkKey e 10000 kt (.string s)).run P w= .ok () w:=fun e=>d7q hk e s 9999;rcases b4H (s:=s) 0 hm with⟨g1,g2⟩|⟨p,e,g1,g2,g3,g4⟩
 ·have hfk:(Instr.findKey kt (.string s) es).run P w= .ok none w:=by simp[Instr.findKey,run_underlying hk,g2]
  obtain⟨s1,s2⟩:=a2E (P:=P) (o₁:=.map ((⟨es⟩:Array MapEntry).push {key:=.string s,val:=v,born:=c}) (c+1)) hw (by simp);refine⟨{w with heap:=w.heap.setIfInBounds mb (.map ((⟨es⟩:Array MapEntry).push {key:=.string s,val:=v,born:=c}) (c+1))},es++ [{key:=.string s,val:=v,born:=c}],c+1, ?_, ?_, ?_⟩
  ·simp only[Instr.mapUpdate,Sem.run_bind,run_underlying hu,Result.andThen_ok,Go.Ev.run_getObj_map hw,hck,hfk,s1,Sem.run_pure]
  ·have:((⟨es⟩:Array MapEntry).push {key:=.string s,val:=v,born:=c})=⟨es++ [{key:=.string s,val:=v,born:=c}]⟩:=by simp
   rw[←this];exact s2
  ·unfold b9E;rw[if_neg (by rw[g1];simp)];unfold c8f at hm ⊢;simp[hm]
 ·have hfk:(Instr.findKey kt (.string s) es).run P w= .ok (some (p,e.val)) w:=by simp[Instr.findKey,run_underlying hk,g4]
  have hlt:p<es.length:=(List.getElem?_eq_some_iff.1 g1).1;obtain⟨s1,s2⟩:=a2E (P:=P) (o₁:=.map ((⟨es⟩:Array MapEntry).modify p fun e=>{e with key:=.string s,val:=v}) c) hw (by simp);refine⟨{w with heap:=w.heap.setIfInBounds mb (.map ((⟨es⟩:Array MapEntry).modify p fun e=>{e with key:=.string s,val:=v}) c)},es.set p {e with key:=.string s,val:=v},c, ?_, ?_, ?_⟩
  ·have hks:(Instr.keyThatStays (((⟨es⟩:Array MapEntry)[p]?).map (·.key)|>.getD (.string s)) (.string s)).run P w= .ok (.string s) w:=by
    simp[Instr.keyThatStays,g1,g2,d6X s 10000]
   simp only[Instr.mapUpdate,Sem.run_bind,run_underlying hu,Result.andThen_ok,Go.Ev.run_getObj_map hw,hck,hfk,hks,s1,Sem.run_pure]
  ·have:((⟨es⟩:Array MapEntry).modify p fun e=>{e with key:=.string s,val:=v})=⟨es.set p {e with key:=.string s,val:=v}⟩:=by
    apply Array.ext';simp only[Array.toList_modify];apply List.ext_getElem?;intro q;rw[List.getElem?_modify,List.getElem?_set]
    by_cases hq:p=q
    ·subst hq;rw[g1];simp[hlt]
    ·simp[hq]
   rw[←this];exact s2
  ·unfold b9E;rw[if_pos g3];unfold c8f at hm ⊢;rw[←hm];apply List.ext_getElem?;intro q;rw[List.getElem?_map,List.getElem?_map,List.getElem?_set]
   by_cases hq:p=q
   ·subst hq;rw[g1];simp[hlt,g2]
   ·simp[hq]
theorem d0f(ks:List ByteArray)(s:ByteArray):(b9E ks s).length≤ks.length+1:=by
 unfold b9E;split
 ·omega
 ·simp
theorem b5S: ∀(L ks:List ByteArray),(L.foldl b9E ks).length≤ks.length+L.length
 | [],ks=>by simp
 |x::L,ks=>by have h1:=b5S L (b9E ks x);have h2:=d0f ks x;simp only[List.foldl_cons,List.length_cons];omega
theorem c1N{ks:List ByteArray}{s:ByteArray}:ks.any (fun k=>s==k)=true↔s∈ks:=by rw[List.any_eq_true];exact⟨fun⟨k,h1,h2⟩=>by rw[(MapKept.bytes_beq s k).1 h2];exact h1,fun h=>⟨s,h,(MapKept.bytes_beq s s).2 rfl⟩⟩
theorem b4F: ∀(L ks:List ByteArray),(ks++L).Nodup→L.foldl b9E ks=ks++L
 | [],ks,_=>by simp
 |x::L,ks,h=>by
  have e:ks++x::L=(ks++ [x])++L:=by simp
  have hx:x∉ks:=fun hm=>by rw[List.nodup_append]at h;exact h.2.2 x hm x List.mem_cons_self rfl
  have ha:b9E ks x=ks++ [x]:=by unfold b9E;rw[if_neg (fun hh=>hx (c1N.1 hh))]
  rw[e]at h;rw[List.foldl_cons,ha,b4F L _ h,e]
theorem c2b: ∀(L ks:List ByteArray),ks.Nodup→ ¬(ks++L).Nodup→(L.foldl b9E ks).length<ks.length+L.length
 | [],ks,h,hn=>by simp at hn;exact absurd h hn
 |x::L,ks,h,hn=>by
  by_cases hx:x∈ks
  ·have ha:b9E ks x=ks:=by
    unfold b9E;rw[if_pos (c1N.2 hx)]
   have:=b5S L ks;rw[List.foldl_cons,ha,List.length_cons];omega
  ·have ha:b9E ks x=ks++ [x]:=by
    unfold b9E;rw[if_neg (fun hh=>hx (c1N.1 hh))]
   have e:ks++x::L=(ks++ [x])++L:=by simp
   rw[e]at hn
   have hd:(ks++ [x]).Nodup:=by
    rw[List.nodup_append]
    exact⟨h,by simp,fun a hm b hb=>by
     simp only[List.mem_singleton]at hb;subst hb
     exact fun e=>hx (e▸hm)⟩
   have:=c2b L (ks++ [x]) hd hn;rw[List.foldl_cons,ha,List.length_cons];simp only[List.length_append,List.length_singleton]at this;omega
def PL.names(p:PL):List ByteArray:=p.cs.map (·.name)
def PL.keys(p:PL)(i:Nat):List ByteArray:=(p.names.take i).foldl b9E []
theorem c9u(p:PL)(i:Nat):(p.keys i).length≤i:=by
 have:=b5S (p.names.take i) [];unfold PL.keys;have h2:(p.names.take i).length≤i:=by simp;omega
 simp only[List.length_nil]at this;omega
theorem c7D{p:PL}{i:Nat}(hi:i<p.cs.length):p.keys (i+1)=b9E (p.keys i) (p.at i).name:=by
 unfold PL.keys;have hl:i<p.names.length:=by simpa[PL.names]using hi
 rw[List.take_add_one,List.getElem?_eq_getElem hl,Option.toList_some,List.foldl_append]
 have:p.names[i]=(p.at i).name:=by simp only[PL.names,List.getElem_map,PL.at];rw[List.getD_eq_getElem?_getD,List.getElem?_eq_getElem hi];rfl
 rw[this];rfl
theorem c2T(p:PL):(p.keys p.cs.length).length<p.cs.length↔p.dup:=by
 have hl:p.names.length=p.cs.length:=by simp[PL.names]
 have ht:p.names.take p.cs.length=p.names:=by rw[←hl];exact List.take_length
 have nm: ∀i (h:i<p.names.length),p.names[i]=(p.at i).name:=fun i h=>by simp only[PL.names,List.getElem_map,PL.at];rw[List.getD_eq_getElem?_getD,List.getElem?_eq_getElem (by omega)];rfl
 have key:p.names.Nodup↔ ¬p.dup:=by
  rw[List.nodup_iff_pairwise_ne,List.pairwise_iff_getElem];refine⟨fun h ⟨i,k,h1,h2,h3⟩=> ?_,fun h i j hi hj hij he=>h ⟨j,i,hij,by omega, ?_⟩⟩
  ·refine h k i (by omega) (by omega) h1 ?_;rw[nm k (by omega),nm i (by omega)];rw[ByteArray.toList_eq,ByteArray.toList_eq]at h3;exact(WideShapes.bytes_inj h3).symm
  ·rw[nm i hi,nm j hj]at he;rw[he]
 by_cases hd:p.names.Nodup
 ·have:=b4F p.names [] (by simpa using hd);unfold PL.keys;rw[ht,this];simp only[List.nil_append];exact⟨fun h=>by omega,fun h=>absurd h (key.1 hd)⟩
 ·have:=c2b p.names [] (by simp) (by simpa using hd);unfold PL.keys;rw[ht];simp only[List.length_nil]at this
  exact⟨fun _=>by
   classical
   exact Decidable.not_not.1 (fun h=>hd (key.2 h)),fun _=>by omega⟩
def sq1:Code→Code
 |.seq a _=>a|c=>c
def sq2:Code→Code
 |.seq _ b=>b|c=>c
def e2r:Code→List Oper
 |.region _ ops _=>ops.toList|_=>[]
def rid:Code→Nat
 |.region id _ _=>id|_=>0
def inb:Code→Code
 |.block _ c=>c|c=>c
noncomputable def a4v:Code:=match Try.f10.body with|some c=>c|none=>.skip
theorem c0G:Try.f10.body=some a4v:=rfl
theorem b3I:Try.f10.ntmps≤top:=Nat.le_of_ble_eq_true (by kernel_rfl)
def pkc:Code:=match ctx 0 a4v 0 []with|some (c,_)=>c|none=>.skip
def c0H:Code:=sq2 (sq2 (sq2 (sq2 a4v)))
def pk7:Code:=sq1 pkc
def b2E:Code:=sq1 (sq2 pkc)
def d2u:Code:=inb (sq1 (sq2 (sq2 pkc)))
def c8Y:Code:=sq2 (sq2 (sq2 pkc))
def pk8:Code:=sq1 d2u
def pk9:Code:=sq1 (sq2 d2u)
def c8Z:Code:=sq2 (sq2 d2u)
def o11:List Oper:=e2r c8Z
def d9T:Code:=sq1 (sq1 c0H)
def d6c:Code:=sq2 (sq1 c0H)
def d5O:Code:=sq2 c0H
def o13:List Oper:=e2r d9T
theorem e0s:ctx 0 a4v 0 []=some (pkc,[.bk 1,.sq c0H 1]):=by kernel_rfl
theorem c5u:pkc= .seq pk7 (.seq b2E (.seq (.block 2 (.seq pk8 (.seq pk9 c8Z))) c8Y)):=by kernel_rfl
theorem c9P:c0H= .seq (.seq d9T d6c) d5O:=by kernel_rfl
theorem d3C:c8Z= .region (rid c8Z) ⟨o11⟩ false:=by kernel_rfl
theorem d3B:d9T= .region (rid d9T) ⟨o13⟩ false:=by kernel_rfl
abbrev d4D(K:List KE):FE:=(evN Try.prog (a3a Try.prog) (knA K []) 20000).2
theorem evN_fe[Ext]{P:Program}(hng:a6U P)(hm:P.follows .mixedOrders=true){kn:KN}(hK:c4o P kn)(n:Nat):FEok P (evN P (a3a P) kn n).2:=(a8c hng (fun _ h=>a3K hng hm h) hK n).2.2
theorem b5V{K:List KE}: @FEok (a0i Try.prog K []) Try.prog (d4D K):=by
 letI:Ext:=a0i Try.prog K []
 exact evN_fe hng mixed c7C 20000
abbrev b6E(K:List KE)(c:Code)(a:VT)(H:VH):Option (VX×VT×VH):=d9J Try.prog K [] Try.f10.ntmps c a H
def pkT(i:VV):List (Nat×VV):=[(0,.sym 0),(3,.sym 5),(15,.sym 0),(16,si 0),(17,i)]
abbrev c9L(iv:Ivs):Option SegO:=d6W Try.prog [] [] Try.f10.ntmps [0] a4v [.sym 0] (c4P iv [rkL] [])
def b4q:List ResultVar:=Try.f10.results.toList
def e0v:Bool:=d1D Try.prog b4q (i8 2) (c9L [(0,0)])
def e0u:Bool:=d1D Try.prog b4q (i8 3) (c9L [(41,9223372036854775807)])
noncomputable def d9S:Bool:=match c9L [(1,40)]with
 |some (.cut 0 a H)=>match a8R a [(0,.sym 0),(3,.map (some (.loc 0))),(15,.sym 0),(16,si 0),(17,i8 0)],H.locs.get 0 with
  |true,some (.map [] _)=>true|_,_=>false
 |_=>false
def pkE(b:Bool):Env:=c4P [] [rkL,.bin .lss (si 1) (si 0) (.bool true),rkA,.bin .neq (si 6) (i8 0) (.bool b)] [(0,cdV)]
def d9L:List KE:=[⟨23,[.agg cdV,si 0],[],si 6⟩]
def c9O(b:Bool):List KE:=[⟨23,[.agg cdV,si 0],[],si 6⟩,⟨24,[.sym 0,.agg cdV],[],.bool b⟩]
noncomputable def pkA(K:List KE)(E:Env):Option (VX×VT×VH):=match b6E K pk7 (mkT Try.f10.ntmps (pkT (si 1))) ⟨E,.lf,0⟩with
 |some (.normal,a,H)=>match b6E K b2E a H with
  |some (.normal,a,H)=>match b6E K pk8 a H with
   |some (.normal,a,H)=>b6E K pk9 a H|_=>none
  |_=>none
 |_=>none
noncomputable def b3s(K:List KE)(E:Env):Bool:=match pkA K E with
 |some (.ret,a,H)=>match a8E Try.prog a H b4q with
  |some [v]=>a1E v (i8 10)|_=>false
 |_=>false
noncomputable def c9R(K:List KE)(E:Env):Bool:=match pkA K E with
 |some (.normal,a,H)=>match a2F Try.prog (d4D K) Try.f10.ntmps o11 (o11.take 3) a H with
  |some (a,H)=>a8R a (pkT (si 1)++ [(31,.sym 5),(33,.sym 1)])|none=>false
 |_=>false
theorem e1I:(o11[3]?).map (fun o=>(o.dst,o.guard,o.op))=some (none,none,Op.mapUpdate 53 (.tmp 31) (.tmp 33) (.const (.bool true))):=by kernel_rfl
theorem e1H:(o13[1]?).map (fun o=>(o.dst,o.guard,o.op))=some (some 36,none,Op.call {callee:=.builtin .len,args:= #[.tmp 35],argTypes:= #[53]}):=by kernel_rfl
def d9Q:Env:=c4P [] [.bin .add (si 1) (i8 1) (si 2)] []
noncomputable def d9R:Bool:=match b6E [] c8Y (mkT Try.f10.ntmps (pkT (si 1))) ⟨d9Q,.lf,0⟩with
 |some (.normal,a,H)=>a8R a (pkT (si 2))|_=>false
def d9O:Env:=c4P [] [.bin .lss (si 1) (si 0) (.bool false)] []
noncomputable def d9P:Bool:=match b6E [] pk7 (mkT Try.f10.ntmps (pkT (si 1))) ⟨d9O,.lf,0⟩with
 |some (.normal,a,H)=>match b6E [] b2E a H with
  |some (.exit e,a,H)=>match Nat.beq e 1,a2F Try.prog (d4D []) Try.f10.ntmps o13 (o13.take 1) a H with
   |true,some (a,H)=>a8R a [(0,.sym 0),(35,.sym 5)]|_,_=>false
  |_=>false
 |_=>false
def e0t(b:Bool):Env:=c4P [] [rkL,.bin .lss (si 7) (si 0) (.bool b)] []
noncomputable def pkD(b:Bool):Option (VX×VT×VH):=match a2F Try.prog (d4D []) Try.f10.ntmps o13 (o13.drop 2) (mkT Try.f10.ntmps [(0,.sym 0),(36,si 7)]) ⟨e0t b,.lf,0⟩with
 |some (a,H)=>b6E [] d6c a H|none=>none
noncomputable def d9M:Bool:=match pkD true with
 |some (.ret,a,H)=>match a8E Try.prog a H b4q with
  |some [v]=>a1E v (i8 11)|_=>false
 |_=>false
noncomputable def d9N:Bool:=match pkD false with
 |some (.normal,a,H)=>match b6E [] d5O a H with
  |some (.ret,a,H)=>match a8E Try.prog a H b4q with
   |some [v]=>a1E v (i8 0)|_=>false
  |_=>false
 |_=>false
theorem e4I:([e0v,e0u,d9S,b3s d9L (pkE true),b3s (c9O true) (pkE false),c9R (c9O false) (pkE false),d9R,d9P,d9M,d9N].all id)=true:=by kernel_rfl
theorem b3P{b:Bool}(h:b∈ [e0v,e0u,d9S,b3s d9L (pkE true),b3s (c9O true) (pkE false),c9R (c9O false) (pkE false),d9R,d9P,d9M,d9N]):b=true:=by have:=e4I;rw[List.all_eq_true]at this;exact this b h
theorem d6d{K:List KE}{E:Env}{r:VX×VT×VH}(h:pkA K E=some r): ∃a1 H1 a2 H2 a3 H3,b6E K pk7 (mkT Try.f10.ntmps (pkT (si 1))) ⟨E,.lf,0⟩=some (.normal,a1,H1)∧b6E K b2E a1 H1=some (.normal,a2,H2)∧b6E K pk8 a2 H2=some (.normal,a3,H3)∧b6E K pk9 a3 H3=some r:=by
 unfold pkA at h;split at h
 ·rename_i a1 H1 h1;split at h
  ·rename_i a2 H2 h2;split at h
   ·rename_i a3 H3 h3;exact⟨a1,H1,a2,H2,a3,H3,h1,h2,h3,h⟩
   ·cases h
  ·cases h
 ·cases h
theorem b6w{K:List KE}{E:Env}(h:b3s K E=true): ∃a H,pkA K E=some (.ret,a,H)∧a8E Try.prog a H b4q=some [i8 10]:=by
 unfold b3s at h;split at h
 ·rename_i a H h1;split at h
  ·rename_i h2;rw[a0f _ _ h]at h2;exact⟨a,H,h1,h2⟩
  ·cases h
 ·cases h
theorem c9Q{K:List KE}{E:Env}(h:c9R K E=true): ∃a H a' H',pkA K E=some (.normal,a,H)∧a2F Try.prog (d4D K) Try.f10.ntmps o11 (o11.take 3) a H=some (a',H')∧a8R a' (pkT (si 1)++ [(31,.sym 5),(33,.sym 1)])=true:=by
 unfold c9R at h;split at h
 ·rename_i a H h1;split at h
  ·rename_i a' H' h2;exact⟨a,H,a',H',h1,h2,h⟩
  ·cases h
 ·cases h
theorem d2z: ∃a H,b6E [] c8Y (mkT Try.f10.ntmps (pkT (si 1))) ⟨d9Q,.lf,0⟩=some (.normal,a,H)∧a8R a (pkT (si 2))=true:=by
 have h:d9R=true:=b3P (by simp);unfold d9R at h;split at h
 ·rename_i a H h1;exact⟨a,H,h1,h⟩
 ·cases h
theorem d2y: ∃a1 H1 a2 H2 a3 H3,b6E [] pk7 (mkT Try.f10.ntmps (pkT (si 1))) ⟨d9O,.lf,0⟩=some (.normal,a1,H1)∧b6E [] b2E a1 H1=some (.exit 1,a2,H2)∧a2F Try.prog (d4D []) Try.f10.ntmps o13 (o13.take 1) a2 H2=some (a3,H3)∧a8R a3 [(0,.sym 0),(35,.sym 5)]=true:=by
 have h:d9P=true:=b3P (by simp);unfold d9P at h;split at h
 ·rename_i a1 H1 h1;split at h
  ·rename_i e a2 H2 h2;split at h
   ·rename_i a3 H3 he h3;rw[Nat.eq_of_beq_eq_true he]at h2;exact⟨a1,H1,a2,H2,a3,H3,h1,h2,h3,h⟩
   ·cases h
  ·cases h
 ·cases h
theorem d1G{b:Bool}{r:VX×VT×VH}(h:pkD b=some r): ∃a H,a2F Try.prog (d4D []) Try.f10.ntmps o13 (o13.drop 2) (mkT Try.f10.ntmps [(0,.sym 0),(36,si 7)]) ⟨e0t b,.lf,0⟩=some (a,H)∧b6E [] d6c a H=some r:=by
 unfold pkD at h;split at h
 ·rename_i a H h1;exact⟨a,H,h1,h⟩
 ·cases h
theorem d2w: ∃a H,pkD true=some (.ret,a,H)∧a8E Try.prog a H b4q=some [i8 11]:=by
 have h:d9M=true:=b3P (by simp);unfold d9M at h;split at h
 ·rename_i a H h1;split at h
  ·rename_i h2;rw[a0f _ _ h]at h2;exact⟨a,H,h1,h2⟩
  ·cases h
 ·cases h
theorem d2x: ∃a H a' H',pkD false=some (.normal,a,H)∧b6E [] d5O a H=some (.ret,a',H')∧a8E Try.prog a' H' b4q=some [i8 0]:=by
 have h:d9N=true:=b3P (by simp);unfold d9N at h;split at h
 ·rename_i a H h1;split at h
  ·rename_i a' H' h2;split at h
   ·rename_i h3;rw[a0f _ _ h]at h3;exact⟨a,H,a',H',h1,h2,h3⟩
   ·cases h
  ·cases h
 ·cases h
theorem d3A: ∃a H c,c9L [(1,40)]=some (.cut 0 a H)∧a8R a [(0,.sym 0),(3,.map (some (.loc 0))),(15,.sym 0),(16,si 0),(17,i8 0)]=true∧H.locs.get 0=some (.map [] c):=by
 have h:d9S=true:=b3P (by simp);unfold d9S at h;split at h
 ·rename_i a H h1;split at h
  ·rename_i c h2 h3;exact⟨a,H,c,h1,h2,h3⟩
  ·cases h
 ·cases h
def d2v(p:PL)(mb i:Nat):List (Nat×Value):=[(0,p.v),(3,.map (some mb)),(15,p.v),(16,n64 (p.cs.length:Int)),(17,n64 (i:Int))]
def b9e(p:PL)(mb i:Nat):Sy where
 ints:=[(p.cs.length:Int),(i:Int),((i+1:Nat):Int),0,0,((p.at i).abs.length:Int),(p.at i).spec (p.cs.length:Int),((p.keys i).length:Int),0,0,(p.at i).kind,(p.at i).c0,(p.at i).c1,(p.at i).c2,(p.at i).c3,(p.at i).color,(p.at i).power,(p.at i).tough,(p.at i).keys]
 vals:=[p.v,.string (p.at i).name,.slice (p.at i).oa (p.at i).abs.length (p.at i).cap,.bool false,.bool false,.map (some mb)]
 bl:=[(p.pB,p.pO+i*11)]
structure PkI(p:PL)(w0:World)(mb i:Nat)(act:Act)(w:World):Prop where
 hd:d9q Try.f10.ntmps (d2v p mb i) act
 an:Anc w0 w
 ge:w0.heap.size≤mb
 mp: ∃es c,w.heap[mb]? =some (.map ⟨es⟩ c)∧c8f (p.keys i) es
 gd: ∀j,j<i→okD p.cs (p.at j)=true
 le:i≤p.cs.length
abbrev pkQ(p:PL)(w0:World):Exit→Act→World→Prop:=plQ Try.prog Try.f10 (n64 p.chk) w0
section
variable{p:PL}{w0 w:World}{mb i:Nat}
theorem c9M(h:p.OK w)(hi:i≤42):IvL [] (b9e p mb i).ints:=by have hn:=h.n;have ha:=d8W h i;have f:=(d8V h i).ints;have hk:=c9u p i;exact⟨nI (by omega),nI (by omega),nI (by omega),a2d,a2d,nI (by omega),c9C,nI (by omega),a2d,a2d,f _ (by simp),f _ (by simp),f _ (by simp),f _ (by simp),f _ (by simp),f _ (by simp),f _ (by simp),f _ (by simp),f _ (by simp),trivial⟩
theorem c5y{φ:Phi}(hφ:φ.ρ=(b9e p mb i).rho):OutV φ cdV (p.at i).cells11:=⟨a2t hφ rfl,b0y hφ rfl,b0y hφ rfl,b0y hφ rfl,b0y hφ rfl,b0y hφ rfl,b0y hφ rfl,b0y hφ rfl,b0y hφ rfl,b0y hφ rfl,a2t hφ rfl,trivial⟩
theorem d6e:VRs ⟨fun _=>none,(b9e p mb i).rho⟩ cdV (p.at i).cells11:=a0I (a5A rfl) (a0I (b1I rfl) (a0I (b1I rfl) (a0I (b1I rfl) (a0I (b1I rfl) (a0I (b1I rfl) (a0I (b1I rfl) (a0I (b1I rfl) (a0I (b1I rfl) (a0I (b1I rfl) (a0I (a5A rfl) b2L))))))))))
theorem c0F(h:p.OK w):c4j Try.prog (b9e p mb i).rho w ⟨23,[.agg cdV,si 0],[],si 6⟩:=fun φ vs w' hφ hs ho hv _=>by have e:vs= [(p.at i).val,n64 (p.cs.length:Int)]:=OutV.eq (l:=[.agg cdV,si 0]) ⟨d6q (c5y hφ),b0y hφ rfl,trivial⟩ hv;rw[e];refine(d7s ((d8V h i).later hs fun k hk=>ho k hk (fun x=>x)) (nI (by have:=h.n;omega))).mono ?_;rintro en w'' ⟨rfl,hb⟩;refine⟨_,rfl, ?_,hb⟩;simp only[si,VR,hφ];rfl
theorem c5v(h:p.OK w)(hi:i<p.cs.length)(hs0:(p.at i).spec (p.cs.length:Int)=0){b:Bool}(hb:c8c p.cs (p.at i)=b):c4j Try.prog (b9e p mb i).rho w ⟨24,[.sym 0,.agg cdV],[],.bool b⟩:=fun φ vs w' hφ hs ho hv _=>by have e:vs= [p.v,(p.at i).val]:=OutV.eq (l:=[.sym 0,.agg cdV]) ⟨a2t hφ rfl,d6q (c5y hφ),trivial⟩ hv;rw[e];refine(c0U (h.later hs fun k hk=>ho k hk (fun x=>x)) (at_mem hi) (d6I h _ (at_mem hi) hs0)).mono ?_;rintro en w'' ⟨rfl,hbl⟩;refine⟨_,rfl, ?_,hbl⟩;rw[hb];simp only[VR]
theorem c5w:InL ⟨fun _=>none,(b9e p mb i).rho⟩ (pkT (si 1)) (d2v p mb i):=⟨⟨rfl,by show 0<top;decide,a5A rfl⟩,⟨rfl,by show 3<top;decide,a5A rfl⟩,⟨rfl,by show 15<top;decide,a5A rfl⟩,⟨rfl,by show 16<top;decide,b1I rfl⟩,⟨rfl,by show 17<top;decide,b1I rfl⟩,trivial⟩
theorem c5x{K:List KE}(h:p.OK w)(hi:i<p.cs.length)(hK: ∀e∈K,c4j Try.prog (b9e p mb i).rho w e){b:Bool}(hb:decide ((p.at i).spec (p.cs.length:Int)≠0)=b): @EnvOK (a0i Try.prog K []) (pkE b) ⟨fun _=>none,(b9e p mb i).rho⟩ w:=
 a2g (e4b hK) rfl (c9M h (by have:=h.n;omega)) (a0P (a3Y rfl rfl) (a0P (e1g rfl rfl (decide_eq_true (show(i:Int)<(p.cs.length:Int)by omega))) (a0P (b1W (n:=i) rfl (h.cell i _ (d1q hi)).1 rfl hi rfl rfl) (a0P (b8I (k:=.i64) (a:=(p.at i).spec (p.cs.length:Int)) (b:=0) rfl rfl hb) a1L)))) fun q hq=>by simp only[List.mem_singleton]at hq;subst hq;exact⟨_,(h.cell i _ (d1q hi)).2,d6e⟩
theorem RSN.anc0{K:List KE}{ρ:Rho}{sz:Nat}{a:VT}{H:VH}{act:Act}{w1:World}(k: @RSN (a0i Try.prog K []) w (· =ρ) sz a H act w1):Anc w w1:= @RSN.anc (a0i Try.prog K []) _ _ _ _ _ _ _ k (fun k h=>h)
theorem b4r{K:List KE}{b:Bool}{Q:Exit→Act→World→Prop}{act:Act}{r:VX×VT×VH}(hr:pkA K (pkE b)=some r)(henv: @EnvOK (a0i Try.prog K []) (pkE b) ⟨fun _=>none,(b9e p mb i).rho⟩ w)(hd:d9q Try.f10.ntmps (d2v p mb i) act)
  (hQ: ∀act' w', @RSN (a0i Try.prog K []) w (· =(b9e p mb i).rho) Try.f10.ntmps r.2.1 r.2.2 act' w'→Exit.then (c8Z.wpIn (Fr none) 0 Try.prog (Exit.inBlock 2 (Exit.then (c8Y.wpIn (Fr none) 0 Try.prog Q) Q))) (Exit.inBlock 2 (Exit.then (c8Y.wpIn (Fr none) 0 Try.prog Q) Q)) r.1.real act' w'):pkc.wpIn (Fr none) 0 Try.prog Q act w:=by
 obtain⟨a1,H1,a2,H2,a3,H3,h1,h2,h3,h4⟩:=d6d hr;have k0: @RSN (a0i Try.prog K []) w (· =(b9e p mb i).rho) Try.f10.ntmps (mkT Try.f10.ntmps (pkT (si 1))) ⟨pkE b,.lf,0⟩ act w:= @RSN.here (a0i Try.prog K []) _ _ _ _ _ _ hd.1 b3I hd.2.1 (c5w.rel hd.2.2) henv (fun r=>rfl) (fun k h=>h);rw[c5u];refine wpIn_seq (@a1C (a0i Try.prog K []) _ _ (a9Q hng mixed) _ _ _ _ b3I (Nat.le_refl _) _ _ _ _ _ _ h1 _ _ k0 _ fun act1 w1 _ k1=> ?_);show(Code.seq b2E (.seq (.block 2 (.seq pk8 (.seq pk9 c8Z))) c8Y)).wpIn (Fr none) 0 Try.prog Q act1 w1;refine wpIn_seq (@a1C (a0i Try.prog K []) _ _ (a9Q hng mixed) _ _ _ _ b3I (Nat.le_refl _) _ _ _ _ _ _ h2 _ _ k1 _ fun act2 w2 _ k2=> ?_);show(Code.seq (.block 2 (.seq pk8 (.seq pk9 c8Z))) c8Y).wpIn (Fr none) 0 Try.prog Q act2 w2;refine wpIn_seq (wpIn_block ?_);refine wpIn_seq (@a1C (a0i Try.prog K []) _ _ (a9Q hng mixed) _ _ _ _ b3I (Nat.le_refl _) _ _ _ _ _ _ h3 _ _ k2 _ fun act3 w3 _ k3=> ?_);show(Code.seq pk9 c8Z).wpIn (Fr none) 0 Try.prog (Exit.inBlock 2 (Exit.then (c8Y.wpIn (Fr none) 0 Try.prog Q) Q)) act3 w3;exact wpIn_seq (@a1C (a0i Try.prog K []) _ _ (a9Q hng mixed) _ _ _ _ b3I (Nat.le_refl _) _ _ _ _ _ _ h4 _ _ k3 _ fun act4 w4 _ k4=>hQ act4 w4 k4)
end
theorem d2Y:Try.prog.underlying 53=some (.map 9 4):=by kernel_rfl
theorem d6F:Try.prog.underlying 9=some .string:=by kernel_rfl
def pkH(p:PL)(w0:World)(k t:Nat)(act:Act)(w:World):Prop:= ∃mb i,t=0∧k=p.cs.length-i∧PkI p w0 mb i act w
section
variable{p:PL}{w0 w:World}{mb i:Nat}
theorem c1t{K:List KE}{sy:Sy}{a:VT}{H:VH}{n:Int}{act:Act}{w1:World}(hr:a8E Try.prog a H b4q=some [i8 n])(k: @RSN (a0i Try.prog K []) w (· =sy.rho) Try.f10.ntmps a H act w1)(an:Anc w0 w)(hc:p.chk=n):pkQ p w0 .ret act w1:=by
 letI:Ext:=a0i Try.prog K []
 have an1:=RSN.anc0 k;obtain⟨φ,_,ht,hs,_,_,hd⟩:=k;obtain⟨v',r1,r2⟩:=a1j (P:=Try.prog) ht hs (fn:=Try.f10) hr;exact⟨.inl rfl,hd,v',r1,by rw[d5Q v' r2,hc],b6B (an.trans an1)⟩
theorem d6l{x:Option Oper}{d:Option Tmp}{g:Option (Nat×Bool)}{y:Op}(h:x.map (fun o=>(o.dst,o.guard,o.op))=some (d,g,y)): ∃o,x=some o∧o.dst=d∧o.guard=g∧o.op=y:=by
 cases x with
 |none=>cases h
 |some o=>simp only[Option.map_some,Option.some.injEq,Prod.mk.injEq]at h;exact⟨o,rfl,h.1,h.2.1,h.2.2⟩
theorem c7t(h0:p.cs.length≠0)(h40:p.cs.length≤40)(hi:i<p.cs.length)(hb:okD p.cs (p.at i)=false):p.chk=10:=by unfold PL.chk;rw[if_neg h0,if_neg (by omega),if_neg (d3U (d:=Cx.dflt) hi hb)]
theorem d0Q(h0:p.cs.length≠0)(h40:p.cs.length≤40)(hg: ∀j,j<p.cs.length→okD p.cs (p.at j)=true):(p.dup→p.chk=11)∧(¬p.dup→p.chk=0):=by unfold PL.chk;rw[if_neg h0,if_neg (by omega),if_pos (d8Y (d:=Cx.dflt) hg)];exact⟨fun h=>if_pos h,fun h=>if_neg h⟩
set_option maxRecDepth 8000 in
theorem c9N(h:p.OK w0)(h0:p.cs.length≠0)(h40:p.cs.length≤40): ∀k t act w,pkH p w0 k t act w→ ∀c K,ctx t a4v 0 []=some (c,K)→At1 a4v (.loop c) t K→KOK a4v K→ ∀HD:Nat→Act→World→Prop,(∀t' act' w',(∃j,j<k∧pkH p w0 j t' act' w')→HD t' act' w'∧ ∀c' K',ctx t' a4v 0 []=some (c',K')→(Code.loop c').wpIn (Fr none) 0 Try.prog (a0S Try.prog HD (pkQ p w0) K') act' w')→
   c.wpIn (Fr none) 0 Try.prog (a0S Try.prog HD (pkQ p w0) (.lp c t::K)) act w:=by
 rintro k t act w ⟨mb,i,rfl,rfl,hI⟩ c K hc hat hko HD hHD;rw[e0s]at hc;cases hc;have h':=h.anc hI.an;have hle:=hI.le;obtain⟨es,cl,hmap,hkeys⟩:=hI.mp;have hmb:mb<w.heap.size:=(Array.getElem?_eq_some_iff.1 hmap).1
 by_cases hlt:i<p.cs.length
 ·by_cases hs0:(p.at i).spec (p.cs.length:Int)=0
  ·cases hbad:c8c p.cs (p.at i)with
   |true=>
    obtain⟨a,H,hA,hres⟩:=b6w (K:=c9O true) (E:=pkE false) (b3P (by simp));refine b4r hA (c5x h' hlt ?_ (decide_eq_false (fun hn=>hn hs0))) hI.hd fun act' w' k'=> ?_
    ·intro e he;simp only[c9O,List.mem_cons,List.not_mem_nil,or_false]at he;rcases he with rfl|rfl
     ·exact c0F h'
     ·exact c5v h' hlt hs0 hbad
    ·show pkQ p w0 .ret act' w';refine c1t hres k' hI.an (c7t h0 h40 hlt ?_);unfold okD;rw[hbad]
     simp
   |false=>
    obtain⟨a,H,a',H',hA,hops,hkeep⟩:=c9Q (K:=c9O false) (E:=pkE false) (b3P (by simp));refine b4r hA (c5x h' hlt ?_ (decide_eq_false (fun hn=>hn hs0))) hI.hd fun act4 w4 k4=> ?_
    ·intro e he;simp only[c9O,List.mem_cons,List.not_mem_nil,or_false]at he;rcases he with rfl|rfl
     ·exact c0F h'
     ·exact c5v h' hlt hs0 hbad
    ·show c8Z.wpIn (Fr none) 0 Try.prog _ act4 w4;rw[d3C];refine wpIn_region ?_;rw[show List.range (⟨o11⟩:Array Oper).size=List.range' ([]:List Oper).length (o11.take 3).length++ [3]by kernel_rfl];refine @a6g (a0i Try.prog (c9O false) []) _ hng _ b5V _ _ _ _ b3I (Nat.le_refl _) _ [] (o11.take 3) (o11.drop 3) (List.take_append_drop 3 o11).symm _ _ _ _ hops _ _ k4 _ _ fun act5 w5 _ k5=> ?_;have an5:=RSN.anc0 k5;obtain⟨φ,hφ,ht,_,_,hz,hdf⟩:=k5;have hq:=a4c ht hkeep;have t0:=a2t hφ rfl _ (hq (0,.sym 0) (by simp[pkT]));have t3:=a2t hφ rfl _ (hq (3,.sym 5) (by simp[pkT]));have t15:=a2t hφ rfl _ (hq (15,.sym 0) (by simp[pkT]));have t16:=b0y hφ rfl _ (hq (16,si 0) (by simp[pkT]));have t17:=b0y hφ rfl _ (hq (17,si 1) (by simp[pkT]));have t31:=a2t hφ rfl _ (hq (31,.sym 5) (by simp[pkT]));have t33:=a2t hφ rfl _ (hq (33,.sym 1) (by simp[pkT]));have hm5:w5.heap[mb]? =some (.map ⟨es⟩ cl):=by rw[an5.old _ hmb];exact hmap
     obtain⟨w6,es',c',r1,r2,r3⟩:=d3b (P:=Try.prog) (t:=53) d2Y d6F hm5 hkeys (p.at i).name (.bool true);obtain⟨o,ho,hod,hog,hop⟩:=d6l e1I;refine e0g ho hog (w':=w6) ?_ ?_
     ·unfold execOp;rw[hop];show(do Instr.mapUpdate 53 (act5.tmps.getD 31 undef) (act5.tmps.getD 33 undef) (.bool true);pure Next.skip:Sem Next).run Try.prog w5=_;rw[t31,t33];exact r1
     ·rw[hod];show c8Y.wpIn (Fr none) 0 Try.prog (a0S Try.prog HD (pkQ p w0) _) act5 w6;obtain⟨a7,H7,h7,hk7⟩:=d2z
      have hd5:d9q Try.f10.ntmps (d2v p mb i) act5:=⟨hz,hdf,fun q hq=>by
       simp only[d2v,List.mem_cons,List.not_mem_nil,or_false]at hq;rcases hq with rfl|rfl|rfl|rfl|rfl
       ·exact t0
       ·exact t3
       ·exact t15
       ·exact t16
       ·exact t17⟩
      have env7: @EnvOK (a0i Try.prog [] []) d9Q ⟨fun _=>none,(b9e p mb i).rho⟩ w6:=a2g noK rfl (c9M h' (by omega)) (a0P (e1h (n:=i) rfl rfl (by omega)) a1L) (fun q hq=>by cases hq);have k6: @RSN (a0i Try.prog [] []) w6 (· =(b9e p mb i).rho) Try.f10.ntmps (mkT Try.f10.ntmps (pkT (si 1))) ⟨d9Q,.lf,0⟩ act5 w6:= @RSN.here (a0i Try.prog [] []) _ _ _ _ _ _ hz b3I hdf (c5w.rel hd5.2.2) env7 (fun r=>rfl) (fun k h=>h);refine @a1C (a0i Try.prog [] []) _ _ (a9Q hng mixed) _ _ _ _ b3I (Nat.le_refl _) _ _ _ _ _ _ h7 _ _ k6 _ fun act7 w7 _ k7=> ?_;have an7:=RSN.anc0 k7;obtain⟨φ7,hφ7,ht7,_,_,hz7,hd7⟩:=k7;have hq7:=a4c ht7 hk7;have s0:=a2t hφ7 rfl _ (hq7 (0,.sym 0) (by simp[pkT]));have s3:=a2t hφ7 rfl _ (hq7 (3,.sym 5) (by simp[pkT]));have s15:=a2t hφ7 rfl _ (hq7 (15,.sym 0) (by simp[pkT]));have s16:=b0y hφ7 rfl _ (hq7 (16,si 0) (by simp[pkT]));have s17:=b0y hφ7 rfl _ (hq7 (17,si 2) (by simp[pkT]));have m6:mb<w6.heap.size:=by rw[r2.size];exact Nat.lt_of_lt_of_le hmb an5.wk.size
      refine(hHD 0 act7 w7 ⟨p.cs.length-(i+1),by omega,mb,i+1,rfl,rfl,⟨⟨hz7,hd7,fun q hq=> ?_⟩,⟨hI.an.wk.trans (an5.wk.trans (r2.wk.trans an7.wk)),fun k hk=> ?_⟩,hI.ge,⟨es',c',by rw[an7.old _ m6];exact r2.here,by rw[c7D hlt];exact r3⟩,fun j hj=> ?_,hlt⟩⟩).1
      ·simp only[d2v,List.mem_cons,List.not_mem_nil,or_false]at hq;rcases hq with rfl|rfl|rfl|rfl|rfl
       ·exact s0
       ·exact s3
       ·exact s15
       ·exact s16
       ·exact s17
      ·have k1:=hI.an.wk.size;have k2:=an5.wk.size;have k3:=hI.ge;rw[an7.old k (by rw[r2.size];omega),r2.there k (by omega),an5.old k (by omega),hI.an.old k hk]
      ·by_cases e:j=i
       ·rw[e];exact(d6o hlt).2 ⟨hs0,hbad⟩
       ·exact hI.gd j (by omega)
  ·obtain⟨a,H,hA,hres⟩:=b6w (K:=d9L) (E:=pkE true) (b3P (by simp));refine b4r hA (c5x h' hlt ?_ (decide_eq_true hs0)) hI.hd fun act' w' k'=> ?_
   ·intro e he;simp only[d9L,List.mem_singleton]at he;subst he;exact c0F h'
   ·show pkQ p w0 .ret act' w';refine c1t hres k' hI.an (c7t h0 h40 hlt ?_);unfold okD;rw[decide_eq_false hs0,Bool.false_and]
 ·obtain rfl:i=p.cs.length:=by omega
  have good:=d0Q h0 h40 hI.gd;obtain⟨a1,H1,a2,H2,a3,H3,h1,h2,h3,h4⟩:=d2y;have env: @EnvOK (a0i Try.prog [] []) d9O ⟨fun _=>none,(b9e p mb p.cs.length).rho⟩ w:=a2g noK rfl (c9M h' (by omega)) (a0P (e1g rfl rfl (decide_eq_false (show¬(p.cs.length:Int)<(p.cs.length:Int)by omega))) a1L) (fun q hq=>by cases hq);have k0: @RSN (a0i Try.prog [] []) w (· =(b9e p mb p.cs.length).rho) Try.f10.ntmps (mkT Try.f10.ntmps (pkT (si 1))) ⟨d9O,.lf,0⟩ act w:= @RSN.here (a0i Try.prog [] []) _ _ _ _ _ _ hI.hd.1 b3I hI.hd.2.1 (c5w.rel hI.hd.2.2) env (fun r=>rfl) (fun k h=>h);generalize hQ:a0S Try.prog HD (pkQ p w0) [.lp pkc 0,.bk 1,.sq c0H 1]=Q;rw[c5u];refine wpIn_seq (@a1C (a0i Try.prog [] []) _ _ (a9Q hng mixed) _ _ _ _ b3I (Nat.le_refl _) _ _ _ _ _ _ h1 _ _ k0 _ fun act1 w1 _ k1=> ?_);show(Code.seq b2E (.seq (.block 2 (.seq pk8 (.seq pk9 c8Z))) c8Y)).wpIn (Fr none) 0 Try.prog Q act1 w1;refine wpIn_seq (@a1C (a0i Try.prog [] []) _ _ (a9Q hng mixed) _ _ _ _ b3I (Nat.le_refl _) _ _ _ _ _ _ h2 _ _ k1 _ fun act2 w2 _ k2=> ?_);subst hQ;show c0H.wpIn (Fr none) 0 Try.prog (pkQ p w0) act2 w2;rw[c9P];refine wpIn_seq (wpIn_seq ?_);rw[d3B];refine wpIn_region ?_;rw[show List.range (⟨o13⟩:Array Oper).size=List.range' ([]:List Oper).length (o13.take 1).length++(1::[2,3,4])by kernel_rfl];refine @a6g (a0i Try.prog [] []) _ hng _ b5V _ _ _ _ b3I (Nat.le_refl _) _ [] (o13.take 1) (o13.drop 1) (List.take_append_drop 1 o13).symm _ _ _ _ h3 _ _ k2 _ _ fun act3 w3 _ k3=> ?_;have an3:=RSN.anc0 k3;obtain⟨φ,hφ,ht,_,_,hz,hdf⟩:=k3;have hq:=a4c ht h4;have t0:=a2t hφ rfl _ (hq (0,.sym 0) (by simp));have t35:=a2t hφ rfl _ (hq (35,.sym 5) (by simp));have hm3:w3.heap[mb]? =some (.map ⟨es⟩ cl):=by rw[an3.old _ hmb];exact hmap
  obtain⟨o,ho,hod,hog,hop⟩:=d6l e1H
  have hlen:es.length=(p.keys p.cs.length).length:=by have:=congrArg List.length hkeys;simpa using this
  refine e3h ho hog (w':=w3) (v:=goInt es.length) ?_ ?_
  ·unfold execOp;rw[hop];have:=run_len_map (P:=Try.prog) (w:=w3) 53 o.type mb ⟨es⟩ cl (by kernel_rfl) hm3
   have e:(#[Operand.tmp 35].map act3.eval)= #[Value.map (some mb)]:=by rw[show(#[Operand.tmp 35]:Array Operand).map act3.eval= #[act3.eval (.tmp 35)]by simp];show #[act3.tmps.getD 35 undef]=_;rw[t35];rfl
   show(do pure (Next.value (←Builtin.len_ #[53] o.type (#[Operand.tmp 35].map act3.eval))):Sem Next).run Try.prog w3=_;rw[e];simp only[Sem.run_bind,this,Result.andThen_ok,Sem.run_pure];rfl
  ·rw[hod];have sz:(act3.put (some 36) (goInt es.length)).tmps.size=Try.f10.ntmps:=by rw[b6p];exact hz
   have dd:(act3.put (some 36) (goInt es.length)).defers= []:=by rw[b1z];exact hdf
   have u0:(act3.put (some 36) (goInt es.length)).tmps.getD 0 undef=p.v:=by rw[b3q (by decide)];exact t0
   have u36:(act3.put (some 36) (goInt es.length)).tmps.getD 36 undef=n64 ((p.keys p.cs.length).length:Int):=by rw[b6q (by rw[hz];exact Nat.le_of_ble_eq_true (by kernel_rfl)),hlen];rfl
   generalize act3.put (some 36) (goInt es.length)=act4 at sz dd u0 u36 ⊢;have an3':Anc w0 w3:=hI.an.trans an3;have h3':=h.anc an3'
   have kd: ∀{b:Bool},decide (((p.keys p.cs.length).length:Int)<(p.cs.length:Int))=b→ @RSN (a0i Try.prog [] []) w3 (· =(b9e p mb p.cs.length).rho) Try.f10.ntmps (mkT Try.f10.ntmps [(0,.sym 0),(36,si 7)]) ⟨e0t b,.lf,0⟩ act4 w3:=fun{b} hb=>by
    refine @RSN.here (a0i Try.prog [] []) _ _ _ _ _ _ sz b3I dd ?_ (a2g noK rfl (c9M h3' (by omega)) (a0P (a3Y rfl rfl) (a0P (e1g rfl rfl hb) a1L)) (fun q hq=>by cases hq)) (fun r=>rfl) (fun k h=>h);intro q hq;simp only[List.mem_cons,List.not_mem_nil,or_false]at hq;rcases hq with rfl|rfl
    ·exact⟨show 0<top by decide,by rw[u0];exact a5A rfl⟩
    ·exact⟨show 36<top by decide,by rw[u36];exact b1I rfl⟩
   rw[show([2,3,4]:List Nat)=List.range' (o13.take 2).length (o13.drop 2).length++ []by kernel_rfl];cases hb:decide (((p.keys p.cs.length).length:Int)<(p.cs.length:Int))with
   |true=>obtain⟨a,H,hD,hres⟩:=d2w;obtain⟨a5,H5,g1,g2⟩:=d1G hD;refine @a6g (a0i Try.prog [] []) _ hng _ b5V _ _ _ _ b3I (Nat.le_refl _) _ (o13.take 2) (o13.drop 2) [] (by rw[List.append_nil];exact(List.take_append_drop 2 o13).symm) _ _ _ _ g1 _ _ (kd hb) _ _ fun act5 w5 _ k5=> ?_;show d6c.wpIn (Fr none) 0 Try.prog (Exit.then (d5O.wpIn (Fr none) 0 Try.prog (pkQ p w0)) (pkQ p w0)) act5 w5;refine @a1C (a0i Try.prog [] []) _ _ (a9Q hng mixed) _ _ _ _ b3I (Nat.le_refl _) _ _ _ _ _ _ g2 _ _ k5 _ fun act6 w6 _ k6=> ?_;show pkQ p w0 .ret act6 w6;exact c1t hres k6 an3' (good.1 ((c2T p).1 (by have:=of_decide_eq_true hb;omega)))
   |false=>obtain⟨a,H,a',H',hD,hD2,hres⟩:=d2x;obtain⟨a5,H5,g1,g2⟩:=d1G hD;refine @a6g (a0i Try.prog [] []) _ hng _ b5V _ _ _ _ b3I (Nat.le_refl _) _ (o13.take 2) (o13.drop 2) [] (by rw[List.append_nil];exact(List.take_append_drop 2 o13).symm) _ _ _ _ g1 _ _ (kd hb) _ _ fun act5 w5 _ k5=> ?_;show d6c.wpIn (Fr none) 0 Try.prog (Exit.then (d5O.wpIn (Fr none) 0 Try.prog (pkQ p w0)) (pkQ p w0)) act5 w5;refine @a1C (a0i Try.prog [] []) _ _ (a9Q hng mixed) _ _ _ _ b3I (Nat.le_refl _) _ _ _ _ _ _ g2 _ _ k5 _ fun act6 w6 _ k6=> ?_;show d5O.wpIn (Fr none) 0 Try.prog (pkQ p w0) act6 w6;refine @a1C (a0i Try.prog [] []) _ _ (a9Q hng mixed) _ _ _ _ b3I (Nat.le_refl _) _ _ _ _ _ _ hD2 _ _ k6 _ fun act7 w7 _ k7=> ?_;show pkQ p w0 .ret act7 w7;exact c1t hres k7 an3' (good.2 fun hd=>by have:=(c2T p).2 hd;have:=of_decide_eq_false hb;omega)
theorem b6t(h:p.OK w0):Calls Try.prog 10 ⟨[p.v]⟩ w0 fun e w'=>e= .returned (n64 p.chk)∧Below w0.heap.size w0 w':=by
 have hn:=h.n;have one:1≤Try.f10.ntmps:=Nat.le_of_ble_eq_true (by kernel_rfl);have arg: ∀{iv:List Int},VRs ⟨fun _=>none,(⟨iv,[p.v],[]⟩:Sy).rho⟩ [.sym 0] [p.v]:=a0I (a5A rfl) b2L
 by_cases h0:p.cs.length=0
 ·refine b6u Try.func10 c0G b3I (c1k (sy:=⟨[(p.cs.length:Int)],[p.v],[]⟩) (b3P (b:=e0v) (by simp)) arg one (a2g noK rfl ⟨⟨by omega,by omega⟩,trivial⟩ (a0P (a3Y rfl rfl) a1L) (fun q hq=>by cases hq)) (fun r=>rfl) fun φ hφ u hu=> ?_);rw[d5Q u hu];unfold PL.chk;rw[if_pos h0]
 by_cases h40:40<p.cs.length
 ·refine b6u Try.func10 c0G b3I (c1k (sy:=⟨[(p.cs.length:Int)],[p.v],[]⟩) (b3P (b:=e0u) (by simp)) arg one (a2g noK rfl ⟨⟨by omega,by omega⟩,trivial⟩ (a0P (a3Y rfl rfl) a1L) (fun q hq=>by cases hq)) (fun r=>rfl) fun φ hφ u hu=> ?_);rw[d5Q u hu];unfold PL.chk;rw[if_neg h0,if_pos h40]
 have h40:p.cs.length≤40:=by omega
 letI:Ext:=a0i Try.prog [] []
 refine a8n Try.func10 c0G ?_;obtain⟨a,H,cl,hrun,hkeep,hmap⟩:=d3A
 let sy:Sy:=⟨[(p.cs.length:Int)],[p.v],[]⟩
 have ht:=c1S (φ:=⟨fun _=>none,sy.rho⟩) (arg (iv:=[(p.cs.length:Int)])) one b3I;generalize hact:({tmps:=(⟨[p.v]⟩:Array Value)++Array.replicate (Try.f10.ntmps-(⟨[p.v]⟩:Array Value).size) undef,defers:=[]}:Act)=act0
 have hsz:act0.tmps.size=Try.f10.ntmps:=by subst hact;simp only[Array.size_append,Array.size_replicate,List.size_toArray,List.length_singleton];omega
 have hd:act0.defers= []:=by subst hact;rfl
 have ht:TR ⟨fun _=>none,sy.rho⟩ (a5E [.sym 0] 0 .lf) act0.tmps:=by subst hact;exact ht
 show a4v.wpIn (Fr none) 0 Try.prog (pkQ p w0) act0 w0;have env: @EnvOK (a0i Try.prog [] []) (c4P [(1,40)] [rkL] []) ⟨fun _=>none,sy.rho⟩ w0:=a2g noK rfl ⟨⟨by omega,by omega⟩,trivial⟩ (a0P (a3Y rfl rfl) a1L) (fun q hq=>by cases hq);have hat:At1 a4v a4v 0 []:=fun t _ _=>rfl;have key:=a9F (X:=a0i Try.prog [] []) (ρ:=sy.rho) (HD:=fun t act w=> ∃j,j≤100∧pkH p w0 j t act w) (Q:=pkQ p w0) (a9Q hng mixed) b3I hat (K:=[]) trivial hrun ht env (fun r=>rfl) hsz hd (fun k h=>h) ?_
 ·exact key
 ·intro act' w' φ b;have hq:=a4c b.tr hkeep;have t0:=a2t b.rho rfl _ (hq (0,.sym 0) (by simp));have t15:=a2t b.rho rfl _ (hq (15,.sym 0) (by simp));have t16:=b0y b.rho rfl _ (hq (16,si 0) (by simp));have t17:=d5Q _ (hq (17,i8 0) (by simp));have t3:=hq (3,.map (some (.loc 0))) (by simp);simp only[VR,BR]at t3;obtain⟨r,⟨inf,hf,rfl⟩,t3⟩:=t3;obtain⟨inf',o',hf',hw',⟨es,rfl,hes⟩,_⟩:=b.sim.live 0 _ hmap;rw[hf]at hf';cases hf';simp only[ERs]at hes;subst hes;have hge:w0.heap.size≤inf.blk:=(b.own 0 inf hf).elim (fun h=>h.elim) id
  have hI:pkH p w0 p.cs.length 0 act' w':=⟨inf.blk,0,rfl,by omega,⟨⟨b.sz,b.df,fun q hq=>by
   simp only[d2v,List.mem_cons,List.not_mem_nil,or_false]at hq;rcases hq with rfl|rfl|rfl|rfl|rfl
   ·exact t0
   ·exact t3
   ·exact t15
   ·exact t16
   ·exact t17⟩,Beh.anc b,hge,⟨[],cl,hw',rfl⟩,fun j hj=>by omega,Nat.zero_le _⟩⟩
  refine⟨⟨_,by omega,hI⟩,fun c' K' hc'=> ?_⟩;exact b5O (c9N h h0 h40) 100 0 c' K' hc' 100 (Nat.le_refl _) act' w' ⟨_,by omega,hI⟩
end
end
end Go.Proofs.Ytmmmknhdigapkaa.plq
