/-
  Chapter 28: the program's give, walked.
-/
import Derived.Test.YtcblehiddfnafaaTxO
import Derived.StillTailTactics
namespace Go.Proofs.Ytcblehiddfnafaa.canonSame
open Go.Shelf Go.RowKit Go.Lib Go.Sort
def nmO(o:List Int)(k:Int):Option Int:=if plc k o<o.length then some ((plc k o:Int)+1)else none
theorem b5p(o:List Int)(k:Int):nmF (nmO o) k=nam o k:=by
 unfold nmF nmO nam
 split
 ·rename_i v h
  split at h
  ·rename_i hp
   injection h with h
   rw[if_pos hp,h]
  ·cases h
 ·rename_i h
  split at h
  ·cases h
  ·rename_i hp
   rw[if_neg hp]
theorem b5k{k:Int}{o m:List Int}:plc k (o++m)=if plc k o<o.length then plc k o else o.length+plc k m:=by
 unfold plc
 rw[List.findIdx_append]
 split<;>omega
theorem b4P{o:List Int}{k:Int}(h: ¬plc k o<o.length):(fun j=>if j=k then some ((o.length:Int)+1)else nmO o j)=nmO (o++ [k]):=by
 funext j
 unfold nmO
 rw[b5k,List.length_append,List.length_singleton]
 by_cases hj:j=k
 ·subst hj
  rw[if_pos rfl,if_neg h]
  have:plc j [j]=0:=by simp[plc,List.findIdx_cons]
  rw[this,if_pos (by omega)]
  rfl
 ·rw[if_neg hj]
  by_cases hp:plc j o<o.length
  ·rw[if_pos hp,if_pos hp,if_pos (by omega)]
  ·rw[if_neg hp,if_neg hp]
   have:plc j [k]=1:=by
    have hkj:(k==j)=false:=by simpa using fun e:k=j=>hj e.symm
    simp[plc,List.findIdx_cons,hkj]
   rw[this,if_neg (by omega)]
def giv(may:Int→Bool)(o ids:List Int):List Int:=ids.foldl (fun o n=>if may n=true∧ ¬plc n o<o.length then o++ [n]else o) o
theorem a8C(may:Int→Bool)(o ids:List Int)(n:Int):giv may o (ids++ [n])=if may n=true∧ ¬plc n (giv may o ids)<(giv may o ids).length then giv may o ids++ [n]else giv may o ids:=by
 unfold giv
 rw[List.foldl_append]
 rfl
theorem a8D(may:Int→Bool): ∀(ids o:List Int),(giv may o ids).length≤o.length+ids.length
 | [],o=>by simp[giv]
 |n::ids,o=>by
  have e:giv may o (n::ids)=giv may (if may n=true∧ ¬plc n o<o.length then o++ [n]else o) ids:=rfl
  rw[e]
  refine Nat.le_trans (a8D may ids _) ?_
  split<;>simp<;>omega
theorem a5i(o:List Int)(k:Int):(nmO o k).isSome=decide (plc k o<o.length):=by
 unfold nmO
 split<;>simp_all
theorem a5v{P:Program}{ops:Array Oper}{w:World}{Q:Act→Prop}{rest:List Oper}{o:Oper}{a:Act}{x:Operand}{t:TypeId}{b n:Nat}(ho:o.op= .call {callee:=.builtin .len,args:= #[x],argTypes:= #[t]})(hg:o.guard=none)(hx:a.eval x= .map (some b))(hr:(Builtin.len_ #[t] o.type #[.map (some b)]).run P w= .ok (.int .i64 n) w)(h:wpStill P ops w Q rest (a.put o.dst (.int .i64 n))):wpStill P ops w Q (o::rest) a:=by
 refine wpStill_step fun K hK=> ?_
 rw[if_pos (by simp only[Region.wanted,hg])]
 unfold Oper.still execOp
 simp only[ho,resolve,invoke,builtin,Sem.run_bind,Sem.run_pure,Result.andThen_ok,List.map_toArray,List.map_cons,List.map_nil,hx,hr]
 exact⟨rfl,hK _ h⟩
structure Gv(w:World)(bn bm:Nat)(o:List Int)(W:World):Prop where
 c:W.heap[bn]? =some (.cells [Value.map (some bm)].toArray 54)
 m:MapF W bm o.length (nmO o)
 g:w.grownBy W (some bm)
theorem Gv.gr{w:World}{bn bm:Nat}{o:List Int}{W W':World}(h:Gv w bn bm o W)(g:Gr W W'):Gv w bn bm o W':=by
 have gg:=a0i g
 exact⟨a0M h.c g,h.m.gr g,⟨gg.os.trans h.g.os,gg.tape.trans h.g.tape,gg.output.trans h.g.output,Nat.le_trans h.g.size gg.size,fun k hk hn=>(gg.block k (Nat.lt_of_lt_of_le hk h.g.size) (by simp)).trans (h.g.block k hk hn)⟩⟩
theorem Gv.put{w:World}{bn bm:Nat}{o:List Int}{W:World}(h:Gv w bn bm o W)(hne:bn≠bm)(ho:o.length≤2000)(k:Int)(hk: ¬plc k o<o.length): ∃W',(Instr.mapUpdate 34 (.map (some bm)) (.int .i64 k) (.int .i64 ((o.length:Int)+1))).run Try.prog W= .ok () W'∧Gv w bn bm (o++ [k]) W':=by
 obtain⟨W',h1,h2,h3⟩:=h.m.put Try.underlying34 Try.underlying3 (by unfold maxLen;omega) k ((o.length:Int)+1)
 rw[a5i,decide_eq_false hk,b4P hk]at h2
 refine⟨W',h1,(h3.block bn (a0L h.c) (by simp;exact hne)).trans h.c,by rw[List.length_append];exact h2,⟨h3.os.trans h.g.os,h3.tape.trans h.g.tape,h3.output.trans h.g.output,Nat.le_trans h.g.size h3.size,fun j hj hn=>(h3.block j (Nat.lt_of_lt_of_le hj h.g.size) hn).trans (h.g.block j hj hn)⟩⟩
set_option maxHeartbeats 8000000 in
set_option maxRecDepth 100000 in
theorem a3I{bn bm bz:Nat}(may:Int→Bool)(o ids:List Int)(ia:Option Addr)(ic:Nat)(w:World)(hne:bn≠bm)(hc:w.heap[bn]? =some (.cells [Value.map (some bm)].toArray 54))(hm:MapF w bm o.length (nmO o))(ho:o.length+ids.length≤2000)
  (hI: ∀i (hi:i<ids.length),∃B O,ia=some ⟨B,O,none⟩∧ ∀W,w.grownBy W (some bm)→W.cell? ⟨B,O+i,none⟩=some (.int .i64 ids[i]))
  (hmay: ∀(k:Int) W,w.grownBy W (some bm)→Calls Try.prog 22 #[.int .i64 k,.pointer (some ⟨bz,0,none⟩)] W fun e w'=>e= .returned (.bool (may k))∧w'=W):
  Calls Try.prog 23 #[.pointer (some ⟨bn,0,none⟩),.func (.func 22) #[] #[.pointer (some ⟨bz,0,none⟩)],.slice ia ids.length ic] w fun e w'=>e= .returned (.tuple #[])∧Aside (Gv w bn bm (giv may o ids) w'):=by
 have mixed:=a1L.mixed
 have G0:Aside (Gv w bn bm (giv may o (ids.take 0)) w):=⟨hc,hm,a5A _ _⟩
 have HI:Aside _:=hI
 have HM:Aside _:=hmay
 have hn9:ids.length≤2000:=by omega
 have HO:Aside _:=ho
 have HNE:Aside _:=hne
 clear hI hmay hc hm ho hne
 go_enter Try.func23,Try.ntmps23
 go_wp2
 go_loopg [12] ids.length (fun kx s12 wr=> ∃i:Nat,s12= .int .i64 i∧i≤ids.length∧ids.length-i≤kx∧Aside (Gv w bn bm (giv may o (ids.take i)) wr))
 case atStart=>exact⟨0,rfl,Nat.zero_le _,Nat.le_refl _,G0⟩
 case round=>
  clear G0
  obtain⟨i,rfl,hi,hkx,G1⟩:=hrel
  have wj:IntKind.i64.wrap ((i:Int)+1)=(i:Int)+1:=by rw[IntKind.wrap_i64];omega
  by_cases hlt:i<ids.length
  ·have hltz:(i:Int)<(ids.length:Int):=by omega
   obtain⟨B,O,rfl,hcl⟩:=HI.out i hlt
   have hT:=a8C may o (ids.take i) ids[i]
   rw[←List.take_succ_eq_append_getElem hlt]at hT
   have hlen:=a8D may (ids.take i) o
   rw[List.length_take]at hlen
   have c0:=hcl wr G1.out.g
   generalize ids[i]=k at c0 hT
   generalize giv may o (ids.take i)=q at hT hlen G1
   have HT:Hid _:=hT
   have HL:Aside (q.length≤2000):=(by have:=HO.out;show q.length≤2000;omega)
   have cp:=a0B (a0A G1.out.c) (j:=0) (v:=.map (some bm)) rfl
   have hl:=G1.out.m.look_ok Try.underlying34 Try.underlying3 Try.zeroValue3 k
   rw[a5i]at hl
   clear hT hcl hlen
   by_cases hp:plc k q<q.length
   ·rw[decide_eq_true hp]at hl
    have G2:Aside (Gv w bn bm (giv may o (ids.take (i+1))) wr):=by rw[HT.out,if_neg (fun h=>h.2 hp)];exact G1.out
    clear hp G1
    generalize (nmO q k).getD 0=d at hl
    go_wp2
    go_roundg (ids.length-(i+1))
    case measure=>omega
    case rel=>exact⟨i+1,by first|rfl|go_num,by omega,Nat.le_refl _,G2⟩
   ·rw[decide_eq_false hp]at hl
    have hmk:=HM.out k wr G1.out.g
    have HP:Aside _:=hp
    clear hp
    generalize (nmO q k).getD 0=d at hl
    cases hb:may k with
    |false=>
     rw[hb]at hmk
     have G2:Aside (Gv w bn bm (giv may o (ids.take (i+1))) wr):=by rw[HT.out,if_neg (fun h=>by rw[hb]at h;cases h.1)];exact G1.out
     clear hb G1
     go_wp2_with (go_at_call 22;refine hmk.mono ?_;rintro e w2 ⟨rfl,hw⟩;obtain rfl:=hw.symm)
     go_roundg (ids.length-(i+1))
     case measure=>omega
     case rel=>exact⟨i+1,by first|rfl|go_num,by omega,Nat.le_refl _,G2⟩
    |true=>
     rw[hb]at hmk
     obtain⟨W',hput,hG⟩:=(G1.out.gr ((Gr.refl wr).drew)).put HNE.out HL.out k HP.out
     have G2:Aside (Gv w bn bm (giv may o (ids.take (i+1))) W'):=by rw[HT.out,if_pos ⟨hb,HP.out⟩];exact hG
     have hlm:=(G1.out.gr ((Gr.refl wr).drew)).m.len Try.underlying34 3
     have HLM:Aside _:=hlm
     have hq2:q.length≤2000:=HL.out
     have wq:IntKind.i64.wrap ((q.length:Int)+1)=(q.length:Int)+1:=by rw[IntKind.wrap_i64];omega
     clear hb G1 hG hq2 hlm
     go_upto_region 5 with(go_at_call 22;refine hmk.mono ?_;rintro e w2 ⟨rfl,hw⟩;obtain rfl:=hw.symm)
     clear hmk hl c0
     go_still_tail 11,mixed
     refine a5v rfl rfl rfl HLM.out ?_
     repeat still_step
     refine wpStill_nil ?_
     change wpList _ _ _ _ _ wr.drew
     go_wp2
     go_roundg (ids.length-(i+1))
     case measure=>omega
     case rel=>exact⟨i+1,by first|rfl|go_num,by omega,Nat.le_refl _,G2⟩
  ·have hltz: ¬(i:Int)<(ids.length:Int):=by omega
   obtain rfl:i=ids.length:=by omega
   have G2:Aside (Gv w bn bm (giv may o ids) wr):=by have:=G1.out;rw[List.take_length]at this;exact this
   clear G1
   go_wp2
   go_returns
   exact⟨rfl,G2⟩
set_option maxHeartbeats 8000000 in
set_option maxRecDepth 100000 in
theorem a9O{bn bm bo bz:Nat}(may:Int→Bool)(o ids:List Int)(ia:Option Addr)(ic:Nat)(w:World)(hne:bn≠bm)(hc:w.heap[bn]? =some (.cells [Value.map (some bm)].toArray 54))(hm:MapF w bm o.length (nmO o))(ho:o.length+ids.length≤2000)
  (hI: ∀i (hi:i<ids.length),∃B O,ia=some ⟨B,O,none⟩∧ ∀W,w.grownBy W (some bm)→W.cell? ⟨B,O+i,none⟩=some (.int .i64 ids[i]))
  (hmay: ∀(k:Int) W,w.grownBy W (some bm)→Calls Try.prog 25 #[.int .i64 k,.pointer (some ⟨bo,0,none⟩),.pointer (some ⟨bz,0,none⟩)] W fun e w'=>e= .returned (.bool (may k))∧w'=W):
  Calls Try.prog 23 #[.pointer (some ⟨bn,0,none⟩),.func (.func 25) #[] #[.pointer (some ⟨bo,0,none⟩),.pointer (some ⟨bz,0,none⟩)],.slice ia ids.length ic] w fun e w'=>e= .returned (.tuple #[])∧Aside (Gv w bn bm (giv may o ids) w'):=by
 have mixed:=a1L.mixed
 have G0:Aside (Gv w bn bm (giv may o (ids.take 0)) w):=⟨hc,hm,a5A _ _⟩
 have HI:Aside _:=hI
 have HM:Aside _:=hmay
 have hn9:ids.length≤2000:=by omega
 have HO:Aside _:=ho
 have HNE:Aside _:=hne
 clear hI hmay hc hm ho hne
 go_enter Try.func23,Try.ntmps23
 go_wp2
 go_loopg [12] ids.length (fun kx s12 wr=> ∃i:Nat,s12= .int .i64 i∧i≤ids.length∧ids.length-i≤kx∧Aside (Gv w bn bm (giv may o (ids.take i)) wr))
 case atStart=>exact⟨0,rfl,Nat.zero_le _,Nat.le_refl _,G0⟩
 case round=>
  clear G0
  obtain⟨i,rfl,hi,hkx,G1⟩:=hrel
  have wj:IntKind.i64.wrap ((i:Int)+1)=(i:Int)+1:=by rw[IntKind.wrap_i64];omega
  by_cases hlt:i<ids.length
  ·have hltz:(i:Int)<(ids.length:Int):=by omega
   obtain⟨B,O,rfl,hcl⟩:=HI.out i hlt
   have hT:=a8C may o (ids.take i) ids[i]
   rw[←List.take_succ_eq_append_getElem hlt]at hT
   have hlen:=a8D may (ids.take i) o
   rw[List.length_take]at hlen
   have c0:=hcl wr G1.out.g
   generalize ids[i]=k at c0 hT
   generalize giv may o (ids.take i)=q at hT hlen G1
   have HT:Hid _:=hT
   have HL:Aside (q.length≤2000):=(by have:=HO.out;show q.length≤2000;omega)
   have cp:=a0B (a0A G1.out.c) (j:=0) (v:=.map (some bm)) rfl
   have hl:=G1.out.m.look_ok Try.underlying34 Try.underlying3 Try.zeroValue3 k
   rw[a5i]at hl
   clear hT hcl hlen
   by_cases hp:plc k q<q.length
   ·rw[decide_eq_true hp]at hl
    have G2:Aside (Gv w bn bm (giv may o (ids.take (i+1))) wr):=by rw[HT.out,if_neg (fun h=>h.2 hp)];exact G1.out
    clear hp G1
    generalize (nmO q k).getD 0=d at hl
    go_wp2
    go_roundg (ids.length-(i+1))
    case measure=>omega
    case rel=>exact⟨i+1,by first|rfl|go_num,by omega,Nat.le_refl _,G2⟩
   ·rw[decide_eq_false hp]at hl
    have hmk:=HM.out k wr G1.out.g
    have HP:Aside _:=hp
    clear hp
    generalize (nmO q k).getD 0=d at hl
    cases hb:may k with
    |false=>
     rw[hb]at hmk
     have G2:Aside (Gv w bn bm (giv may o (ids.take (i+1))) wr):=by rw[HT.out,if_neg (fun h=>by rw[hb]at h;cases h.1)];exact G1.out
     clear hb G1
     go_wp2_with (go_at_call 25;refine hmk.mono ?_;rintro e w2 ⟨rfl,hw⟩;obtain rfl:=hw.symm)
     go_roundg (ids.length-(i+1))
     case measure=>omega
     case rel=>exact⟨i+1,by first|rfl|go_num,by omega,Nat.le_refl _,G2⟩
    |true=>
     rw[hb]at hmk
     obtain⟨W',hput,hG⟩:=(G1.out.gr ((Gr.refl wr).drew)).put HNE.out HL.out k HP.out
     have G2:Aside (Gv w bn bm (giv may o (ids.take (i+1))) W'):=by rw[HT.out,if_pos ⟨hb,HP.out⟩];exact hG
     have hlm:=(G1.out.gr ((Gr.refl wr).drew)).m.len Try.underlying34 3
     have HLM:Aside _:=hlm
     have hq2:q.length≤2000:=HL.out
     have wq:IntKind.i64.wrap ((q.length:Int)+1)=(q.length:Int)+1:=by rw[IntKind.wrap_i64];omega
     clear hb G1 hG hq2 hlm
     go_upto_region 5 with(go_at_call 25;refine hmk.mono ?_;rintro e w2 ⟨rfl,hw⟩;obtain rfl:=hw.symm)
     clear hmk hl c0
     go_still_tail 11,mixed
     refine a5v rfl rfl rfl HLM.out ?_
     repeat still_step
     refine wpStill_nil ?_
     change wpList _ _ _ _ _ wr.drew
     go_wp2
     go_roundg (ids.length-(i+1))
     case measure=>omega
     case rel=>exact⟨i+1,by first|rfl|go_num,by omega,Nat.le_refl _,G2⟩
  ·have hltz: ¬(i:Int)<(ids.length:Int):=by omega
   obtain rfl:i=ids.length:=by omega
   have G2:Aside (Gv w bn bm (giv may o ids) wr):=by have:=G1.out;rw[List.take_length]at this;exact this
   clear G1
   go_wp2
   go_returns
   exact⟨rfl,G2⟩
set_option maxHeartbeats 8000000 in
set_option maxRecDepth 100000 in
theorem a9N{bn bm:Nat}(may:Int→Bool)(o ids:List Int)(ia:Option Addr)(ic:Nat)(w:World)(hne:bn≠bm)(hc:w.heap[bn]? =some (.cells [Value.map (some bm)].toArray 54))(hm:MapF w bm o.length (nmO o))(ho:o.length+ids.length≤2000)
  (hI: ∀i (hi:i<ids.length),∃B O,ia=some ⟨B,O,none⟩∧ ∀W,w.grownBy W (some bm)→W.cell? ⟨B,O+i,none⟩=some (.int .i64 ids[i]))
  (hmay: ∀(k:Int) W,w.grownBy W (some bm)→Calls Try.prog 27 #[.int .i64 k] W fun e w'=>e= .returned (.bool (may k))∧w'=W):
  Calls Try.prog 23 #[.pointer (some ⟨bn,0,none⟩),.func (.func 27) #[] #[],.slice ia ids.length ic] w fun e w'=>e= .returned (.tuple #[])∧Aside (Gv w bn bm (giv may o ids) w'):=by
 have mixed:=a1L.mixed
 have G0:Aside (Gv w bn bm (giv may o (ids.take 0)) w):=⟨hc,hm,a5A _ _⟩
 have HI:Aside _:=hI
 have HM:Aside _:=hmay
 have hn9:ids.length≤2000:=by omega
 have HO:Aside _:=ho
 have HNE:Aside _:=hne
 clear hI hmay hc hm ho hne
 go_enter Try.func23,Try.ntmps23
 go_wp2
 go_loopg [12] ids.length (fun kx s12 wr=> ∃i:Nat,s12= .int .i64 i∧i≤ids.length∧ids.length-i≤kx∧Aside (Gv w bn bm (giv may o (ids.take i)) wr))
 case atStart=>exact⟨0,rfl,Nat.zero_le _,Nat.le_refl _,G0⟩
 case round=>
  clear G0
  obtain⟨i,rfl,hi,hkx,G1⟩:=hrel
  have wj:IntKind.i64.wrap ((i:Int)+1)=(i:Int)+1:=by rw[IntKind.wrap_i64];omega
  by_cases hlt:i<ids.length
  ·have hltz:(i:Int)<(ids.length:Int):=by omega
   obtain⟨B,O,rfl,hcl⟩:=HI.out i hlt
   have hT:=a8C may o (ids.take i) ids[i]
   rw[←List.take_succ_eq_append_getElem hlt]at hT
   have hlen:=a8D may (ids.take i) o
   rw[List.length_take]at hlen
   have c0:=hcl wr G1.out.g
   generalize ids[i]=k at c0 hT
   generalize giv may o (ids.take i)=q at hT hlen G1
   have HT:Hid _:=hT
   have HL:Aside (q.length≤2000):=(by have:=HO.out;show q.length≤2000;omega)
   have cp:=a0B (a0A G1.out.c) (j:=0) (v:=.map (some bm)) rfl
   have hl:=G1.out.m.look_ok Try.underlying34 Try.underlying3 Try.zeroValue3 k
   rw[a5i]at hl
   clear hT hcl hlen
   by_cases hp:plc k q<q.length
   ·rw[decide_eq_true hp]at hl
    have G2:Aside (Gv w bn bm (giv may o (ids.take (i+1))) wr):=by rw[HT.out,if_neg (fun h=>h.2 hp)];exact G1.out
    clear hp G1
    generalize (nmO q k).getD 0=d at hl
    go_wp2
    go_roundg (ids.length-(i+1))
    case measure=>omega
    case rel=>exact⟨i+1,by first|rfl|go_num,by omega,Nat.le_refl _,G2⟩
   ·rw[decide_eq_false hp]at hl
    have hmk:=HM.out k wr G1.out.g
    have HP:Aside _:=hp
    clear hp
    generalize (nmO q k).getD 0=d at hl
    cases hb:may k with
    |false=>
     rw[hb]at hmk
     have G2:Aside (Gv w bn bm (giv may o (ids.take (i+1))) wr):=by rw[HT.out,if_neg (fun h=>by rw[hb]at h;cases h.1)];exact G1.out
     clear hb G1
     go_wp2_with (go_at_call 27;refine hmk.mono ?_;rintro e w2 ⟨rfl,hw⟩;obtain rfl:=hw.symm)
     go_roundg (ids.length-(i+1))
     case measure=>omega
     case rel=>exact⟨i+1,by first|rfl|go_num,by omega,Nat.le_refl _,G2⟩
    |true=>
     rw[hb]at hmk
     obtain⟨W',hput,hG⟩:=(G1.out.gr ((Gr.refl wr).drew)).put HNE.out HL.out k HP.out
     have G2:Aside (Gv w bn bm (giv may o (ids.take (i+1))) W'):=by rw[HT.out,if_pos ⟨hb,HP.out⟩];exact hG
     have hlm:=(G1.out.gr ((Gr.refl wr).drew)).m.len Try.underlying34 3
     have HLM:Aside _:=hlm
     have hq2:q.length≤2000:=HL.out
     have wq:IntKind.i64.wrap ((q.length:Int)+1)=(q.length:Int)+1:=by rw[IntKind.wrap_i64];omega
     clear hb G1 hG hq2 hlm
     go_upto_region 5 with(go_at_call 27;refine hmk.mono ?_;rintro e w2 ⟨rfl,hw⟩;obtain rfl:=hw.symm)
     clear hmk hl c0
     go_still_tail 11,mixed
     refine a5v rfl rfl rfl HLM.out ?_
     repeat still_step
     refine wpStill_nil ?_
     change wpList _ _ _ _ _ wr.drew
     go_wp2
     go_roundg (ids.length-(i+1))
     case measure=>omega
     case rel=>exact⟨i+1,by first|rfl|go_num,by omega,Nat.le_refl _,G2⟩
  ·have hltz: ¬(i:Int)<(ids.length:Int):=by omega
   obtain rfl:i=ids.length:=by omega
   have G2:Aside (Gv w bn bm (giv may o ids) wr):=by have:=G1.out;rw[List.take_length]at this;exact this
   clear G1
   go_wp2
   go_returns
   exact⟨rfl,G2⟩
end Go.Proofs.Ytcblehiddfnafaa.canonSame
namespace Go.Proofs.Ytcblehiddfnafaa.canonSame
open Go.Shelf Go.RowKit Go.Lib Go.Sort
structure Zn(w:World)(bz bm n:Nat)(Z:Int→Option Int):Prop where
 c:w.heap[bz]? =some (.cells [Value.map (some bm)].toArray 34)
 m:MapF w bm n Z
set_option maxHeartbeats 4000000 in
set_option maxRecDepth 100000 in
theorem a8w{bz bm n:Nat}{Z:Int→Option Int}(k:Int)(w:World)(h:Zn w bz bm n Z):
  Calls Try.prog 22 #[.int .i64 k,.pointer (some ⟨bz,0,none⟩)] w fun e w'=>e= .returned (.bool (Z k).isSome)∧w'=w:=by
 have cp:=a0B (a0A h.c) (j:=0) (v:=.map (some bm)) rfl
 have hl:=h.m.look_ok Try.underlying34 Try.underlying3 Try.zeroValue3 k
 generalize (Z k).getD 0=d at hl
 generalize (Z k).isSome=b at hl
 clear h
 go_enter Try.func22,Try.ntmps22
 go_wp2
 go_returns
 exact⟨rfl,rfl⟩
set_option maxHeartbeats 4000000 in
set_option maxRecDepth 100000 in
theorem b2Q{bo bz bm n:Nat}{Z:Int→Option Int}(k:Int)(w:World)(h:Zn w bz bm n Z)(hb:w.heap[bo]? =some (.cells [Value.func (.func 22) #[] #[.pointer (some ⟨bz,0,none⟩)]].toArray 59)):
  Calls Try.prog 25 #[.int .i64 k,.pointer (some ⟨bo,0,none⟩),.pointer (some ⟨bz,0,none⟩)] w fun e w'=>e= .returned (.bool ((Z k).isSome&&(Z k).getD 0==5))∧w'=w:=by
 have cp:=a0B (a0A h.c) (j:=0) (v:=.map (some bm)) rfl
 have co:=a0B (a0A hb) (j:=0) (v:=.func (.func 22) #[] #[.pointer (some ⟨bz,0,none⟩)]) rfl
 have hl:=h.m.look Try.underlying34 Try.underlying3 Try.zeroValue3 k
 have hcall:=a8w k w h
 generalize (Z k).getD 0=d at hl
 generalize (Z k).isSome=b at hcall
 clear h hb
 cases b with
 |true=>
  go_enter Try.func25,Try.ntmps25
  go_wp2_with (go_at_call 22;refine hcall.mono ?_;rintro e w2 ⟨rfl,hw⟩;obtain rfl:=hw.symm)
  go_returns
  exact⟨rfl,rfl⟩
 |false=>
  go_enter Try.func25,Try.ntmps25
  go_wp2_with (go_at_call 22;refine hcall.mono ?_;rintro e w2 ⟨rfl,hw⟩;obtain rfl:=hw.symm)
  go_returns
  exact⟨rfl,rfl⟩
set_option maxHeartbeats 4000000 in
theorem b3e(k:Int)(w:World):Calls Try.prog 27 #[.int .i64 k] w fun e w'=>e= .returned (.bool true)∧w'=w:=by
 go_enter Try.func27,Try.ntmps27
 go_wp2
 go_returns
 exact⟨rfl,rfl⟩
set_option maxHeartbeats 4000000 in
set_option maxRecDepth 100000 in
theorem b6T(A:Loc)(ls:List (List Int))(p:Nat)(w:World){lo hh:Nat}(h:LstI lo hh w A ls):
  Calls Try.prog 24 #[.slice A.a ls.length A.c,.int .i64 p] w fun e w'=>e= .returned (.slice (atA A ls p) (atL ls p).length (atC A ls p))∧w'=w:=by
 by_cases hp:p<ls.length
 ·have hd:decide ((p:Int)<(ls.length:Int))=true:=decide_eq_true (by omega)
  have hz:(p:Int)<(ls.length:Int):=by omega
  obtain⟨B,O,hB,hc⟩:=h.rd hp
  have c0:=hc w (Kp.refl _ _ _)
  have hat:ls[p]=atL ls p:=by rw[atL,if_pos hp,getElem!_pos ls p hp]
  have ha:A.ad p=atA A ls p:=by rw[atA,if_pos hp]
  have hcc:A.cp p=atC A ls p:=by rw[atC,if_pos hp]
  rw[hat,ha,hcc]at c0
  rw[hB]
  clear h hc hat hB ha hcc
  go_enter Try.func24,Try.ntmps24
  go_wp2
  go_returns
  exact⟨rfl,rfl⟩
 ·have hd:decide ((p:Int)<(ls.length:Int))=false:=decide_eq_false (by omega)
  have hz: ¬(p:Int)<(ls.length:Int):=by omega
  have hat:atL ls p= []:=by rw[atL,if_neg hp]
  have ha:atA A ls p=none:=by rw[atA,if_neg hp]
  have hcc:atC A ls p=0:=by rw[atC,if_neg hp]
  rw[hat,ha,hcc]
  clear h hat ha hcc
  go_enter Try.func24,Try.ntmps24
  go_wp2
  go_returns
  exact⟨rfl,rfl⟩
end Go.Proofs.Ytcblehiddfnafaa.canonSame
namespace Go.Proofs.Ytcblehiddfnafaa.canonSame
open Go.Shelf Go.RowKit Go.Lib Go.Sort
def Obr:Type:={p:Value×Obd//(-5000≤p.2.id∧p.2.id≤5000)∧p.1.oneCell'=true}
instance:Inhabited Obr:=⟨⟨(.slice none 0 0,{(default:Obd)with id:=0}),by refine⟨⟨?_, ?_⟩,rfl⟩<;>decide⟩⟩
def encR(x:Obr):List Value:=obV x.1.2 x.1.1
def a6v(x y:Obr):Int:=x.1.2.id-y.1.2.id
theorem a8V(x:Obr):(encR x).length=14:=rfl
theorem b4m(x:Obr): ∀v∈encR x,v.oneCell'=true:=by
 intro v hv
 simp only[encR,obV,List.mem_cons,List.not_mem_nil,or_false]at hv
 rcases hv with rfl|rfl|rfl|rfl|rfl|rfl|rfl|rfl|rfl|rfl|rfl|rfl|rfl|rfl<;>first|rfl|exact x.2.2
set_option maxHeartbeats 8000000 in
set_option maxRecDepth 100000 in
theorem a9k{P:Program}{k29 k31 k41 k43 k45 k66 k97:Nat}{y29 y31 y41 y43 y45 y66 y97:List Value}(L:LayS P k29 k31 k41 k43 k45 k66 k97 y29 y31 y41 y43 y45 y66 y97)(f36:P.funcs[36]? =some Try.f36)(rv:Value)(x y:Obr)(w:World):
  Calls P 36 #[rv,.agg (encR x).toArray,.agg (encR y).toArray] w fun e w'=>e= .returned (.int .i64 (a6v x y))∧Gr w w':=by
 have mixed:=L.mixed;have t3:=L.t3;have a3:=L.a3;have z3:=L.z3;have v3:=L.v3;have qu3:=run_underlying L.t3
 have qu41:=run_underlying L.t41;have a41:=L.a41;have z41:=L.z41;have v41:=L.v41
 obtain⟨g,b4,b5⟩:=a0W w (encR x) (encR y) 41 41
 have c0:=a0B (a0A b4) (j:=0) (v:=.int .i64 x.1.2.id) rfl
 have c1:=a0B (a0A b5) (j:=0) (v:=.int .i64 y.1.2.id) rfl
 have GG:Aside (Gr w ((w.alloc (.cells (encR x).toArray 41)).alloc (.cells (encR y).toArray 41))):=g
 have hs1:=a0L b4
 have hs2:=a0L b5
 have wl:wrap64 (x.1.2.id-y.1.2.id)=a6v x y:=by have:=x.2.1;have:=y.2.1;unfold wrap64 a6v;omega
 have WL:Hid _:=wl
 clear g b4 b5 wl
 generalize encR x=X at c0 c1 GG hs1 hs2 ⊢
 generalize encR y=Y at c0 c1 GG hs1 hs2 ⊢
 go_enter f36,Try.ntmps36
 go_upto_region 1 with fail
 generalize (w.alloc (.cells X.toArray 41)).alloc (.cells Y.toArray 41)=W0 at c0 c1 GG hs1 hs2 ⊢
 go_wp2
 go_returns
 exact⟨by rw[←WL.out];rfl,GG.out⟩
theorem b6R(rv:Value)(blk off size:Nat)(w:World):b5T Try.prog 36 rv encR 14 a6v blk off size w:=fun _ _ _ _ x y=>a9k a1L Try.func36 rv x y _
theorem b1G:SWO (ltOf a6v):=by
 have e: ∀x y,ltOf a6v x y=true↔x.1.2.id<y.1.2.id:=fun x y=>by
  unfold ltOf a6v
  rw[decide_eq_true_iff]
  omega
 have n: ∀x y,ltOf a6v x y=false↔ ¬x.1.2.id<y.1.2.id:=fun x y=>by
  rw[←e,Bool.not_eq_true]
 refine⟨fun x=>(n x x).2 (by omega),fun x y z h k=>(e x z).2 ?_,fun x y z h k=>(n x z).2 ?_⟩
 ·have h:=(e x y).1 h
  have k:=(e y z).1 k
  omega
 ·have h:=(n x y).1 h
  have k:=(n y z).1 k
  omega
set_option maxHeartbeats 4000000 in
theorem a9y(rv:Value)(blk off cap:Nat)(d:Array Obr)(w:World)(hH:HoldsK encR 14 w blk off d)(hblk:blk<w.heap.size)(hsz:d.size<2305843009213693952):
  Calls Try.prog 35 #[.slice (some ⟨blk,off,none⟩) d.size cap,.func (.func 36) #[rv] #[]] w fun e w'=>e= .returned (.tuple #[])∧ ∃d',StbIn (ltOf a6v) 0 d.size d d'∧SortedIn (ltOf a6v) 0 d.size d'∧SWK encR 14 w blk off d' w':=by
 have hc:=a8m lay encR a6v 36 rv blk off cap d d w w (enters_of Try.func36 (by kernel_rfl) rfl) (b6R rv blk off d.size w) ⟨a8V,b4m,hH,hblk⟩ b1G rfl (.start hH) hsz
 clear hH
 go_enter Try.func35,Try.ntmps35
 go_wp2_with (go_at_call 67;refine hc.mono ?_;rintro e w1 ⟨rfl,h⟩)
 go_end0
 exact⟨rfl,h⟩
theorem b1a(rv:Value)(p:Option Addr)(cap:Nat)(w:World):
  Calls Try.prog 35 #[.slice p 0 cap,.func (.func 36) #[rv] #[]] w fun e w'=>e= .returned (.tuple #[])∧w'=w:=by
 have hc:=a9x lay p cap (.func (.func 36) #[rv] #[]) w
 go_enter Try.func35,Try.ntmps35
 go_wp2_with (go_at_call 67;refine hc.mono ?_;rintro e w1 ⟨rfl,rfl⟩)
 go_end0
 exact⟨rfl,rfl⟩
end Go.Proofs.Ytcblehiddfnafaa.canonSame
