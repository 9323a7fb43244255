/-
  Chapter 28: the answer's targets, walked.
-/
import Derived.Test.YtcblehiddfnafaaTxE
import Derived.StillTailTactics
import Derived.Shelf.SlSortCmp.QuietGrown
import Derived.Deep.DeepBigQuietO
namespace Go.Proofs.Ytcblehiddfnafaa.canonSame
open Go.Shelf Go.RowKit Go.Lib Go.Sort
def Prs(w:World)(a:Option Addr)(l:List (Int×Int)):Prop:=Rows w a 2 (l.map fun p=> #[.int .i64 p.1,.int .i64 p.2])
theorem Prs.rd{w:World}{a:Option Addr}{l:List (Int×Int)}(h:Prs w a l){i:Nat}(hi:i<l.length): ∃B O,a=some ⟨B,O,none⟩∧B<w.heap.size∧w.cell? ⟨B,O+i*2,none⟩=some (.int .i64 l[i].1)∧w.cell? ⟨B,O+i*2+1,none⟩=some (.int .i64 l[i].2):=by
 rcases h with h|⟨B,O,e,hb,h⟩
 ·rw[List.map_eq_nil_iff.1 h]at hi
  simp at hi
 ·refine⟨B,O,e,hb, ?_, ?_⟩
  ·have:=h i #[.int .i64 l[i].1,.int .i64 l[i].2] (by simp[hi]) 0 _ rfl
   simpa using this
  ·have:=h i #[.int .i64 l[i].1,.int .i64 l[i].2] (by simp[hi]) 1 _ rfl
   simpa[Nat.add_assoc]using this
def a3F(l:List (Int×Int)):List Value:=l.flatMap fun p=>[.int .i64 p.1,.int .i64 p.2]
set_option maxHeartbeats 8000000 in
set_option maxRecDepth 100000 in
theorem a7e{P:Program}{k29 k31 k41 k43 k66 k97:Nat}{y29 y31 y41 y43 y66 y97:List Value}(L:LayS P k29 k31 k41 k43 2 k66 k97 y29 y31 y41 y43 [.int .i64 0,.int .i64 0] y66 y97)(f45:P.funcs[45]? =some Try.f45)(e41: ∀args w,(callFunc 41 args).run P w= .ok (.enter 41 args) w)
  (i45: ∃i z,P.info? 45=some i∧i.zero=some z∧z.cells.size=2∧i.size=2∧i.bytes≤1000)
  (ov:Value) (nm:Int→Int) (ia:Option Addr) (l:List (Int×Int)) (ic:Nat) (w:World) (hn:l.length≤900)
  (h41: ∀n W,Below w.heap.size w W→Calls P 41 #[ov,.int .i64 n] W fun e w'=>e= .returned (.int .i64 (nm n))∧w'=W)
  (hI:Prs w ia l):
  Calls P 45 #[ov,.slice ia l.length ic] w fun e w'=> ∃lv',e= .returned lv'∧w'.ownsRow w.heap.size 45 2 lv' l.length (a3F (l.map fun p=>(p.1,nm p.2)))∧Below w.heap.size w w':=by
 have mixed:=L.mixed;have t3:=L.t3;have a3:=L.a3;have z3:=L.z3;have v3:=L.v3;have qu3:=run_underlying L.t3;have t4:=L.t4;have a4:=L.a4;have z4:=L.z4;have t27:=L.t27;have a27:=L.a27;have z27:=L.z27;have qu27:=run_underlying L.t27;have t45:=L.t45;have qu45:=run_underlying L.t45;have a45:=L.a45;have z45:=L.z45;have v45:=L.v45
 have N0:Aside _:=Ni.start w 45 2
 have H41:Aside _:=h41
 have HI:Aside (Prs w ia l):=hI
 clear h41 hI
 go_enter f45,Try.ntmps45
 go_wp2
 go_loopg [5,6] l.length (fun kx s5 s6 wr=> ∃(i:Nat) (v:Value),v=s5∧s6= .int .i64 i∧i≤l.length∧l.length-i≤kx∧Aside (Ni w w.heap.size 45 2 v i (a3F ((l.take i).map fun p=>(p.1,nm p.2))) wr))
 case atStart=>exact⟨0,_,rfl,rfl,Nat.zero_le _,Nat.le_refl _,N0⟩
 case round=>
  clear N0
  obtain⟨i,v,rfl,rfl,hi,hkx,N1⟩:=hrel
  have wj:IntKind.i64.wrap ((i:Int)+1)=(i:Int)+1:=by rw[IntKind.wrap_i64];omega
  by_cases hlt:i<l.length
  ·have hltz:(i:Int)<(l.length:Int):=by omega
   obtain⟨B,O,rfl,hB,hc,hd⟩:=HI.out.rd hlt
   have c0: ∀W,Below w.heap.size w W→W.cell? ⟨B,O+i*2,none⟩=some (.int .i64 l[i].1):=fun W h=>by rw[h.cell (by exact hB)];exact hc
   have c1: ∀W,Below w.heap.size w W→W.cell? ⟨B,O+i*2+1,none⟩=some (.int .i64 l[i].2):=fun W h=>by rw[h.cell (by exact hB)];exact hd
   have hT:a3F ((l.take (i+1)).map fun p=>(p.1,nm p.2))=a3F ((l.take i).map fun p=>(p.1,nm p.2))++ [.int .i64 l[i].1,.int .i64 (nm l[i].2)]:=by
    unfold a3F
    rw[List.take_succ_eq_append_getElem hlt,List.map_append,List.flatMap_append]
    rfl
   clear hc hd
   generalize l[i]=q at c0 c1 hT
   obtain⟨m,n⟩:=q
   have HT:Hid _:=hT
   have C0:Aside _:=c0
   have C1:Aside _:=c1
   clear hT c0 c1
   have h:=H41.out n
   generalize nm n=x at h HT
   have HH:Aside _:=h
   clear h
   have N2:=N1.out.gr ((Gr.refl wr).drew)
   obtain⟨v',w3,hr,ho3,hg3⟩:=a1Y t27 i45 (by decide) (a3F ((l.take i).map fun p=>(p.1,nm p.2))) [.int .i64 m,.int .i64 x] rfl (by simp[Value.oneCell']) N2.o N2.hs (by omega)
   rw[←HT.out]at ho3
   have g5:=(Gr.refl wr.drew).alloc (.cells [Value.int .i64 m,.int .i64 x].toArray 45)
   have O5:Aside _:=(N2.gr g5).b
   have N3:Aside _:=(N2.gr g5).app hg3 ho3
   have O1:=N2.b
   clear ho3 hg3 N1 N2 g5
   go_upto_region 5 with fail
   refine wp_region_held_drew (S:=fun W=>Below w.heap.size w W) mixed O1 (fun hHeld=> ?_)
   refine wtk (i:=0) (v:=v) hHeld ?_ ?_
   ·intro W hW
    clear hW hHeld O1 hr
    go_simp
   simp only[Act.put,List.setIfInBounds_toArray]
   refine wtk (i:=1) (v:=.slice (some ⟨B,O,none⟩) l.length ic) hHeld ?_ ?_
   ·intro W hW
    clear hW hHeld O1 hr
    go_simp
   simp only[Act.put]
   refine wtk (i:=2) (v:=.int .i64 i) hHeld ?_ ?_
   ·intro W hW
    clear hW hHeld O1 hr
    go_simp
   simp only[Act.put]
   refine wtk (i:=3) (v:=.pointer (some ⟨B,O+i*2,none⟩)) hHeld ?_ ?_
   ·intro W hW
    clear hW hHeld O1 hr
    go_simp
   simp only[Act.put]
   refine wtk (i:=4) (v:=.pointer (some ⟨B,O+i*2,none⟩)) hHeld ?_ ?_
   ·intro W hW
    clear hW hHeld O1 hr
    go_simp
   simp only[Act.put]
   refine wtk (i:=5) (v:=.int .i64 m) hHeld ?_ ?_
   ·intro W hW
    have c:=C0.out W hW
    clear hW hHeld O1 hr
    go_simp
   simp only[Act.put]
   refine wtk (i:=6) (v:=ov) hHeld ?_ ?_
   ·intro W hW
    clear hW hHeld O1 hr
    go_simp
   simp only[Act.put]
   refine wtk (i:=7) (v:=.slice (some ⟨B,O,none⟩) l.length ic) hHeld ?_ ?_
   ·intro W hW
    clear hW hHeld O1 hr
    go_simp
   simp only[Act.put]
   refine wtk (i:=8) (v:=.int .i64 i) hHeld ?_ ?_
   ·intro W hW
    clear hW hHeld O1 hr
    go_simp
   simp only[Act.put]
   refine wtk (i:=9) (v:=.pointer (some ⟨B,O+i*2,none⟩)) hHeld ?_ ?_
   ·intro W hW
    clear hW hHeld O1 hr
    go_simp
   simp only[Act.put]
   refine wtk (i:=10) (v:=.pointer (some ⟨B,O+i*2+1,none⟩)) hHeld ?_ ?_
   ·intro W hW
    clear hW hHeld O1 hr
    go_simp
   simp only[Act.put]
   refine wtk (i:=11) (v:=.int .i64 n) hHeld ?_ ?_
   ·intro W hW
    have c:=C1.out W hW
    clear hW hHeld O1 hr
    go_simp
   simp only[Act.put]
   refine wrd 12 fun K hK=> ?_
   go_simp
   refine(HH.out _ hHeld).mono ?_
   rintro e w2 ⟨rfl,hw⟩
   obtain rfl:=hw.symm
   refine hK.out _ _ O1 (fun hHeld=> ?_)
   clear hK K
   refine wtk (i:=13) (v:=.agg #[.int .i64 m,.int .i64 x]) hHeld ?_ ?_
   ·intro W hW
    clear hW hHeld O1 hr
    go_simp
   simp only[Act.put,List.setIfInBounds_toArray]
   refine wrd 14 fun K hK=> ?_
   go_simp
   refine hK.out _ _ O5.out (fun hHeld=> ?_)
   clear hK K
   refine wrd 15 fun K hK=> ?_
   refine a3a (.tmp 13) (.tmp 27) #[27,27] rfl rfl v (.slice (some ⟨wr.drew.heap.size,0,none⟩) 1 1) rfl rfl v' w3 hr ?_
   refine hK.out _ _ N3.out.b (fun hHeld=> ?_)
   clear hK K
   refine wrd 16 fun K hK=> ?_
   go_simp
   refine hK.out _ _ N3.out.b (fun hHeld=> ?_)
   clear hK K
   refine wpAnyH_done (by kernel_rfl) ?_ _
   go_wp2
   go_roundg (l.length-(i+1))
   case measure=>omega
   case rel=>exact⟨i+1,v',rfl,by first|rfl|go_num,by omega,Nat.le_refl _,N3⟩
  ·have hltz: ¬(i:Int)<(l.length:Int):=by omega
   obtain rfl:i=l.length:=by omega
   have hT:=N1.out
   rw[List.take_length]at hT
   have HT:Aside _:=hT
   clear hT N1
   go_wp2
   go_returns
   exact⟨_,rfl,HT.out.o,HT.out.b⟩
end Go.Proofs.Ytcblehiddfnafaa.canonSame
namespace Go.Proofs.Ytcblehiddfnafaa.canonSame
open Go.Shelf Go.RowKit Go.Lib Go.Sort
theorem a1V{W:World}{base base':Nat}{e:TypeId}{size:Nat}{v:Value}{k:Nat}{xs:List Value}(h:W.ownsRow base e size v k xs)(hb:base'≤base):W.ownsRow base' e size v k xs:=by
 refine⟨h.1,h.2.imp id ?_⟩
 rintro⟨g,cap,cur,a,b,c⟩
 exact⟨g,cap,cur,a,Nat.le_trans hb b,c⟩
theorem a0o{W:World}{base:Nat}{e:TypeId}{size:Nat}{v:Value}{k:Nat}{xs:List Value}(h:W.ownsRow base e size v k xs): ∃a c,v= .slice a k c:=by
 rcases h.2 with⟨rfl,rfl⟩|⟨g,cap,_,rfl,_⟩
 ·exact⟨_,_,rfl⟩
 ·exact⟨_,_,rfl⟩
theorem a1K{W W':World}{base:Nat}{e:TypeId}{size:Nat}{v:Value}{k:Nat}{xs:List Value}(h:W.ownsRow base e size v k xs)(hb:Below W.heap.size W W'):W'.ownsRow base e size v k xs:=
 h.kept (row:=none) ⟨hb.os,hb.tape,hb.output,hb.size,fun j hj _=>hb.block j hj⟩ (by cases hv:v.ownBlock<;>simp)
theorem a0p{W:World}{b b':Nat}{e e':TypeId}{k k':Nat}{v v':Value}{n n':Nat}{X X':List Value}(he:e≠e')(h:W.ownsRow b e k v n X)(h':W.ownsRow b' e' k' v' n' X'):v.ownBlock=none∨v.ownBlock≠v'.ownBlock:=by
 rcases h.2 with⟨rfl,_⟩|⟨g,cap,cur,rfl,_,hg,_⟩
 ·exact .inl rfl
 ·refine .inr fun hk=> ?_
  rcases h'.2 with⟨rfl,_⟩|⟨g',cap',cur',rfl,_,hg',_⟩
  ·cases hk
  ·simp only[Value.ownBlock,Option.some.injEq]at hk
   subst hk
   rw[hg]at hg'
   injection hg' with hg'
   injection hg' with _ hg'
   exact he hg'
structure Li(w:World)(bs:Nat)(lv:Value)(T:List (Value×List Int))(W:World):Prop where
 i:Ni w bs 25 1 lv T.length (T.map (·.1)) W
 e: ∀p∈T,W.ownsRow bs 3 1 p.1 p.2.length (a0J p.2)
theorem Li.start(w:World):Li w w.heap.size (.slice none 0 0) [] w:=⟨Ni.start _ _ _,fun p hp=>by cases hp⟩
theorem Li.bel{w:World}{bs:Nat}{lv:Value}{T:List (Value×List Int)}{W W':World}(h:Li w bs lv T W)(g:Below W.heap.size W W'):Li w bs lv T W':=
 ⟨⟨h.i.b.trans (g.mono h.i.hs),a1K h.i.o g,Nat.le_trans h.i.hs g.size⟩,fun p hp=>a1K (h.e p hp) g⟩
theorem Li.app{w:World}{bs:Nat}{lv lv':Value}{T:List (Value×List Int)}{W W':World}(h:Li w bs lv T W)(x:Value×List Int)(hx:W.ownsRow bs 3 1 x.1 x.2.length (a0J x.2))(g:W.grownBy W' lv.ownBlock)(o:W'.ownsRow bs 25 1 lv' (T.length+1) (T.map (·.1)++ [x.1])):Li w bs lv' (T++ [x]) W':=
 ⟨by rw[List.length_append,List.map_append];exact h.i.app g o,fun p hp=>by
  rcases List.mem_append.1 hp with hp|hp
  ·exact(h.e p hp).kept g (a0p (by decide) (h.e p hp) h.i.o)
  ·rw[List.mem_singleton.1 hp]
   exact hx.kept g (a0p (by decide) hx h.i.o)⟩
set_option maxHeartbeats 4000000 in
set_option maxRecDepth 100000 in
theorem b0N{P:Program}{k29 k31 k41 k43 k45 k66 k97:Nat}{y29 y31 y41 y43 y45 y66 y97:List Value}(L:LayS P k29 k31 k41 k43 k45 k66 k97 y29 y31 y41 y43 y45 y66 y97)(f42:P.funcs[42]? =some Try.f42)(e43: ∀args w,(callFunc 43 args).run P w= .ok (.enter 43 args) w)
  (i25: ∃i z,P.info? 25=some i∧i.zero=some z∧z.cells.size=1∧i.size=1∧i.bytes≤1000)
  (ov:Value) (nm:Int→Int) (ia:Option Addr) (ls:List (List Int)) (ad:Nat→Option Addr) (cp:Nat→Nat) (ic:Nat) (w:World) (hn:ls.length≤900)
  (h43: ∀i,i<ls.length→ ∀W,Below w.heap.size w W→Calls P 43 #[ov,.slice (ad i) (ls[i]!).length (cp i)] W fun e w'=> ∃lv',e= .returned lv'∧w'.ownsRow W.heap.size 3 1 lv' (ls[i]!).length (a0J ((ls[i]!).map nm))∧Below W.heap.size W w')
  (hI:Lsts w ia ls ad cp):
  Calls P 42 #[ov,.slice ia ls.length ic] w fun e w'=> ∃lv',e= .returned lv'∧ ∃T,T.map (·.2)=ls.map (·.map nm)∧Li w w.heap.size lv' T w':=by
 have mixed:=L.mixed;have t3:=L.t3;have a3:=L.a3;have z3:=L.z3;have v3:=L.v3;have qu3:=run_underlying L.t3;have t4:=L.t4;have a4:=L.a4;have z4:=L.z4;have t25:=L.t25;have a25:=L.a25;have z25:=L.z25;have v25:=L.v25;have qu25:=run_underlying L.t25;have t24:=L.t24;have a24:=L.a24;have z24:=L.z24;have qu24:=run_underlying L.t24
 have N0:Aside _:=Li.start w
 have H43:Aside _:=h43
 have HI:Aside (Lsts w ia ls ad cp):=hI
 clear h43 hI
 go_enter f42,Try.ntmps42
 go_wp2
 go_loopg [5,6] ls.length (fun kx s5 s6 wr=> ∃(i:Nat) (v:Value) (T:List (Value×List Int)),v=s5∧s6= .int .i64 i∧i≤ls.length∧ls.length-i≤kx∧T.map (·.2)=(ls.take i).map (·.map nm)∧Aside (Li w w.heap.size v T wr))
 case atStart=>exact⟨0,_,[],rfl,rfl,Nat.zero_le _,Nat.le_refl _,rfl,N0⟩
 case round=>
  clear N0
  obtain⟨i,v,T,rfl,rfl,hi,hkx,hM,N1⟩:=hrel
  have HM:Hid _:=hM
  clear hM
  have wj:IntKind.i64.wrap ((i:Int)+1)=(i:Int)+1:=by rw[IntKind.wrap_i64];omega
  by_cases hlt:i<ls.length
  ·have hltz:(i:Int)<(ls.length:Int):=by omega
   obtain⟨B,O,rfl,hB,hc⟩:=HI.out.rd hlt
   have c0:wr.cell? ⟨B,O+i,none⟩=some (.slice (ad i) (ls[i]!).length (cp i)):=by rw[N1.out.i.b.cell (by exact hB)];exact hc
   have h:=H43.out i hlt wr N1.out.i.b
   have hT:(ls.take (i+1)).map (·.map nm)=(ls.take i).map (·.map nm)++ [(ls[i]!).map nm]:=by
    rw[List.take_succ_eq_append_getElem hlt,List.map_append,getElem!_pos ls i hlt]
    rfl
   have hTl:T.length=i:=by
    have:=congrArg List.length HM.out
    rw[List.length_map,List.length_map,List.length_take]at this
    omega
   clear hc
   generalize ls[i]! =l at c0 h hT
   have HT:Hid _:=hT
   have HTL:Hid _:=hTl
   clear hT hTl
   have hT2: ∀v2:Value,(T++ [(v2,l.map nm)]).map (·.2)=(ls.take (i+1)).map (·.map nm):=fun v2=>by rw[HT.out,List.map_append,HM.out];rfl
   have HT2:Hid _:=hT2
   clear hT2
   go_wp2_with (first|(go_at_fn 43;refine h.mono ?_;rintro e w2 ⟨v2,rfl,ho2,hb2⟩;obtain⟨a2,c2,rfl⟩:=a0o ho2;have N2:Aside _:=N1.out.bel hb2;have O2:Aside _:=a1V ho2 N1.out.i.hs;obtain⟨v',w3,hr,ho3,hg3⟩:=a1Y t24 i25 (by decide) (T.map (·.1)) [.slice a2 l.length c2] rfl (by intro u hu;rw[List.mem_singleton.1 hu];rfl) N2.out.i.o N2.out.i.hs (by have:=HTL.out;omega);have g5:Aside (Below w2.heap.size w2 (w2.alloc (.cells [Value.slice a2 l.length c2].toArray 25))):=a0N (.refl _ _) (Nat.le_refl _) ((Gr.refl w2).alloc _);have N3:Aside _:=(N2.out.bel g5.out).app (.slice a2 l.length c2,l.map nm) (a1K (by rw[List.length_map];exact O2.out) g5.out) hg3 ho3;clear ho2 hb2 ho3 hg3 N2 O2 g5)|(at_builtin;refine a0E rfl _ _ #[24,24] rfl v (.slice (some ⟨w2.heap.size,0,none⟩) 1 1) rfl rfl _ w3 hr ?_))
   go_roundg (ls.length-(i+1))
   case measure=>omega
   case rel=>exact⟨i+1,v',T++ [(.slice a2 l.length c2,l.map nm)],rfl,by first|rfl|go_num,by omega,Nat.le_refl _,HT2.out _,N3⟩
  ·have hltz: ¬(i:Int)<(ls.length:Int):=by omega
   obtain rfl:i=ls.length:=by omega
   have hT:=HM.out
   rw[List.take_length]at hT
   have HT:Hid _:=hT
   clear hT HM
   go_wp2
   go_returns
   exact⟨_,rfl,T,HT.out,N1.out⟩
end Go.Proofs.Ytcblehiddfnafaa.canonSame
namespace Go.Proofs.Ytcblehiddfnafaa.canonSame
open Go.Shelf Go.RowKit Go.Lib Go.Sort
structure Itm where
 id:Int
 kind:Int
 ctrl:Int
 obj:Int
 card:Int
 abil:Int
 ts:List (Int×Int)
deriving DecidableEq,Inhabited
def a0f(x:Itm)(v:Value):List Value:=[.int .i64 x.id,.int .i64 x.kind,.int .i64 x.ctrl,.int .i64 x.obj,.int .i64 x.card,.int .i64 x.abil,v]
structure Its(w:World)(a:Option Addr)(n:Nat)(xs:Nat→Itm)(ad:Nat→Option Addr)(cp:Nat→Nat):Prop where
 r:Rows w a 7 ((List.range n).map fun i=>(a0f (xs i) (.slice (ad i) (xs i).ts.length (cp i))).toArray)
 e: ∀i,i<n→Prs w (ad i) (xs i).ts
theorem Its.rd(P:Program){w:World}{a:Option Addr}{n:Nat}{xs:Nat→Itm}{ad:Nat→Option Addr}{cp:Nat→Nat}(h:Its w a n xs ad cp){i:Nat}(hi:i<n): ∃B O,a=some ⟨B,O,none⟩∧ ∀W,Below w.heap.size w W→Sem.run P (loadCellsFrom ⟨B,O+i*7,none⟩ 0 7 #[]) W= .ok (a0f (xs i) (.slice (ad i) (xs i).ts.length (cp i))).toArray W:=by
 rcases h.r with h'|⟨B,O,e,hb,_⟩
 ·have:=congrArg List.length h'
  simp at this
  omega
 ·refine⟨B,O,e,fun W hW=> ?_⟩
  subst e
  have:=(h.r.below hW).ld P (i:=i) (x:=(a0f (xs i) (.slice (ad i) (xs i).ts.length (cp i))).toArray) (by simp[hi]) rfl
  rwa [Addr.add_lit]at this
structure Ti(w:World)(bs:Nat)(lv:Value)(T:List (Value×Itm))(W:World):Prop where
 i:Ni w bs 43 7 lv T.length (T.flatMap fun p=>a0f p.2 p.1) W
 e: ∀p∈T,W.ownsRow bs 45 2 p.1 p.2.ts.length (a3F p.2.ts)
theorem Ti.start(w:World):Ti w w.heap.size (.slice none 0 0) [] w:=⟨Ni.start _ _ _,fun p hp=>by cases hp⟩
theorem Ti.bel{w:World}{bs:Nat}{lv:Value}{T:List (Value×Itm)}{W W':World}(h:Ti w bs lv T W)(g:Below W.heap.size W W'):Ti w bs lv T W':=
 ⟨⟨h.i.b.trans (g.mono h.i.hs),a1K h.i.o g,Nat.le_trans h.i.hs g.size⟩,fun p hp=>a1K (h.e p hp) g⟩
theorem Ti.app{w:World}{bs:Nat}{lv lv':Value}{T:List (Value×Itm)}{W W':World}(h:Ti w bs lv T W)(x:Value×Itm)(hx:W.ownsRow bs 45 2 x.1 x.2.ts.length (a3F x.2.ts))(g:W.grownBy W' lv.ownBlock)(o:W'.ownsRow bs 43 7 lv' (T.length+1) ((T.flatMap fun p=>a0f p.2 p.1)++a0f x.2 x.1)):Ti w bs lv' (T++ [x]) W':=
 ⟨by rw[List.length_append,List.flatMap_append];simpa using h.i.app g o,fun p hp=>by
  rcases List.mem_append.1 hp with hp|hp
  ·exact(h.e p hp).kept g (a0p (by decide) (h.e p hp) h.i.o)
  ·rw[List.mem_singleton.1 hp]
   exact hx.kept g (a0p (by decide) hx h.i.o)⟩
def nmI(nm:Int→Int)(x:Itm):Itm:={x with id:=nm x.id,obj:=nm x.obj,ts:=x.ts.map fun p=>(p.1,nm p.2)}
set_option maxHeartbeats 8000000 in
set_option maxRecDepth 100000 in
theorem b0P{P:Program}{k29 k31 k41 k43 k45 k66 k97:Nat}{y29 y31 y41 y43 y45 y66 y97:List Value}(L:LayS P k29 k31 k41 k43 k45 k66 k97 y29 y31 y41 y43 y45 y66 y97)(hk:k43=7)(hy3:y43.length=k43)(f44:P.funcs[44]? =some Try.f44)(e41: ∀args w,(callFunc 41 args).run P w= .ok (.enter 41 args) w)(e45: ∀args w,(callFunc 45 args).run P w= .ok (.enter 45 args) w)
  (i43: ∃i z,P.info? 43=some i∧i.zero=some z∧z.cells.size=7∧i.size=7∧i.bytes≤1000)
  (ov:Value) (nm:Int→Int) (ia:Option Addr) (n:Nat) (xs:Nat→Itm) (ad:Nat→Option Addr) (cp:Nat→Nat) (ic:Nat) (w:World) (hn:n≤900)
  (h41: ∀n W,Below w.heap.size w W→Calls P 41 #[ov,.int .i64 n] W fun e w'=>e= .returned (.int .i64 (nm n))∧w'=W)
  (h45: ∀i,i<n→ ∀W,Below w.heap.size w W→Calls P 45 #[ov,.slice (ad i) (xs i).ts.length (cp i)] W fun e w'=> ∃lv',e= .returned lv'∧w'.ownsRow W.heap.size 45 2 lv' (xs i).ts.length (a3F ((xs i).ts.map fun p=>(p.1,nm p.2)))∧Below W.heap.size W w')
  (hI:Its w ia n xs ad cp):
  Calls P 44 #[ov,.slice ia n ic] w fun e w'=> ∃lv',e= .returned lv'∧ ∃T,T.map (·.2)=(List.range n).map (fun i=>nmI nm (xs i))∧Ti w w.heap.size lv' T w':=by
 have mixed:=L.mixed;have t3:=L.t3;have a3:=L.a3;have z3:=L.z3;have v3:=L.v3;have qu3:=run_underlying L.t3;have t4:=L.t4;have a4:=L.a4;have z4:=L.z4;have t26:=L.t26;have a26:=L.a26;have z26:=L.z26;have qu26:=run_underlying L.t26;have t27:=L.t27;have a27:=L.a27;have z27:=L.z27;have qu27:=run_underlying L.t27;have qu43:=run_underlying L.t43;have a43:=L.a43;have z43:=L.z43;have v43:=L.v43
 have N0:Aside _:=Ti.start w
 have H41:Aside _:=h41
 have H45:Aside _:=h45
 have HI:Aside (Its w ia n xs ad cp):=hI
 have HK:Hid (k43=7):=hk
 have hy7:7=y43.length:=by rw[hy3,hk]
 have HY:Hid (7=y43.length):=hy7
 clear hy7
 clear h41 h45 hI hk
 go_enter f44,Try.ntmps44
 go_wp2
 go_loopg [5,6] n (fun kx s5 s6 wr=> ∃(i:Nat) (v:Value) (T:List (Value×Itm)),v=s5∧s6= .int .i64 i∧i≤n∧n-i≤kx∧T.map (·.2)=(List.range i).map (fun i=>nmI nm (xs i))∧Aside (Ti w w.heap.size v T wr))
 case atStart=>exact⟨0,_,[],rfl,rfl,Nat.zero_le _,Nat.le_refl _,rfl,N0⟩
 case round=>
  clear N0
  obtain⟨i,v,T,rfl,rfl,hi,hkx,hM,N1⟩:=hrel
  have HM:Hid _:=hM
  clear hM
  have wj:IntKind.i64.wrap ((i:Int)+1)=(i:Int)+1:=by rw[IntKind.wrap_i64];omega
  by_cases hlt:i<n
  ·have hltz:(i:Int)<(n:Int):=by omega
   obtain⟨B,O,rfl,hc⟩:=HI.out.rd P hlt
   have lA:=hc wr N1.out.i.b
   rw[←HK.out]at lA
   have h45:=H45.out i hlt
   have hTl:T.length=i:=by
    have:=congrArg List.length HM.out
    rw[List.length_map,List.length_map,List.length_range]at this
    omega
   have hT2: ∀v2:Value,(T++ [(v2,nmI nm (xs i))]).map (·.2)=(List.range (i+1)).map (fun i=>nmI nm (xs i)):=fun v2=>by rw[List.range_succ,List.map_append,List.map_append,HM.out];rfl
   have HT2:Hid _:=hT2
   have HTL:Hid _:=hTl
   clear hc hT2 hTl
   generalize xs i=x at lA h45 HT2
   have H45':Aside _:=h45
   clear h45
   obtain⟨x0,x1,x2,x3,x4,x5,ts⟩:=x
   have sA:=a0P P (a0q wr y43 43) (a0f ⟨x0,x1,x2,x3,x4,x5,ts⟩ (.slice (ad i) ts.length (cp i))) HY.out (by simp[a0f,Value.oneCell'])
   have g1:Below wr.heap.size wr ((wr.alloc (.cells y43.toArray 43)).setCells wr.heap.size 0 (a0f ⟨x0,x1,x2,x3,x4,x5,ts⟩ (.slice (ad i) ts.length (cp i)))):=a0N (.refl _ _) (Nat.le_refl _) (Gr.sets (W:=wr) _ (Nat.le_refl _) _ _ ((Gr.refl _).alloc _))
   have b1:=a0Y (a0T wr (.cells y43.toArray 43)) (a0f ⟨x0,x1,x2,x3,x4,x5,ts⟩ (.slice (ad i) ts.length (cp i))) HY.out
   have G1:Aside _:=g1
   have B1:Aside _:=b1
   clear g1 b1
   generalize hX0:a0f ⟨x0,x1,x2,x3,x4,x5,ts⟩ (.slice (ad i) ts.length (cp i))=X0 at lA sA G1 B1
   have HX0:Hid _:=hX0
   have x1':X0.length=k43:=by rw[HK.out,←HX0.out];rfl
   clear hX0
   go_upto_region 6 with fail
   clear lA sA
   have hB1:=N1.out.i.b.trans (G1.out.mono N1.out.i.hs)
   generalize (wr.alloc (.cells y43.toArray 43)).setCells wr.heap.size 0 X0=W1 at G1 B1 hB1 ⊢
   have HB1:Aside _:=hB1
   clear hB1
   have l0:X0[0]? =some (.int .i64 x0):=by rw[←HX0.out];rfl
   have c0:=a0B (a0A B1.out) l0
   have f0:=(a0A B1.out 0 (by have:=(List.getElem?_eq_some_iff.1 l0).1;simpa using this)).2
   have h1:=H41.out x0 W1 HB1.out
   go_upto_region 7 with(go_at_fn 41;refine h1.mono ?_;rintro e w2 ⟨rfl,hw⟩;obtain rfl:=hw.symm)
   have G2:Aside _:=G1.out.setCell (p:=⟨wr.heap.size,0,none⟩) (Nat.le_refl _) (.int .i64 (nm x0))
   have B2:Aside _:=a1X B1.out 0 (.int .i64 (nm x0))
   clear c0 f0 h1 HB1 B1 G1
   have hB2:=N1.out.i.b.trans (G2.out.mono N1.out.i.hs)
   generalize W1.setCell ⟨wr.heap.size,0,none⟩ (.int .i64 (nm x0))=W2 at G2 B2 hB2 ⊢
   have HB2:Aside _:=hB2
   clear hB2
   have l3:(X0.set 0 (.int .i64 (nm x0)))[3]? =some (.int .i64 x3):=by rw[←HX0.out];rfl
   have c3:=a0B (a0A B2.out) l3
   have f3:=(a0A B2.out 3 (by have:=(List.getElem?_eq_some_iff.1 l3).1;simpa using this)).2
   have h3:=H41.out x3 W2 HB2.out
   go_upto_region 8 with(go_at_fn 41;refine h3.mono ?_;rintro e w2 ⟨rfl,hw⟩;obtain rfl:=hw.symm)
   have G3:Aside _:=G2.out.setCell (p:=⟨wr.heap.size,3,none⟩) (Nat.le_refl _) (.int .i64 (nm x3))
   have B3:Aside _:=a1X B2.out 3 (.int .i64 (nm x3))
   clear c3 f3 h3 HB2 B2 G2
   have hB3:=N1.out.i.b.trans (G3.out.mono N1.out.i.hs)
   generalize W2.setCell ⟨wr.heap.size,3,none⟩ (.int .i64 (nm x3))=W3 at G3 B3 hB3 ⊢
   have HB3:Aside _:=hB3
   clear hB3
   have l6:((X0.set 0 (.int .i64 (nm x0))).set 3 (.int .i64 (nm x3)))[6]? =some (.slice (ad i) ts.length (cp i)):=by rw[←HX0.out];rfl
   have c6:=a0B (a0A B3.out) l6
   have h6:=H45'.out W3 HB3.out
   go_upto_region 9 with(go_at_fn 45;refine h6.mono ?_;rintro e W4 ⟨v2,rfl,ho2,hb2⟩;obtain⟨a2,c2,rfl⟩:=a0o ho2;have O2:Aside _:=ho2;have BB2:Aside _:=hb2;have B4:Aside _:=(hb2.block _ (a0L B3.out)).trans B3.out;have f6:=(a0A B4.out 6 (by have:=(List.getElem?_eq_some_iff.1 l6).1;simpa using this)).2;have c6':=a0B (a0A B4.out) l6;clear ho2 hb2)
   have G4:=G3.out.trans (BB2.out.mono G3.out.size)
   have G5:Aside _:=G4.setCell (p:=⟨wr.heap.size,6,none⟩) (Nat.le_refl _) (.slice a2 ts.length c2)
   have b5:=a1X B4.out 6 (.slice a2 ts.length c2)
   have hX5:((X0.set 0 (.int .i64 (nm x0))).set 3 (.int .i64 (nm x3))).set 6 (.slice a2 ts.length c2)=a0f (nmI nm ⟨x0,x1,x2,x3,x4,x5,ts⟩) (.slice a2 ts.length c2):=by rw[←HX0.out];rfl
   have N5:Aside _:=N1.out.bel G5.out
   have O5:Aside _:=a1V (ownsRow_setCell_other O2.out (a:=⟨wr.heap.size,6,none⟩) (fun h=>by have h0:W3.heap.size≤wr.heap.size:=(World.ownsRow.lt O2.out _ h).1;have:=a0L B3.out;omega) (.slice a2 ts.length c2)) (Nat.le_trans N1.out.i.hs G3.out.size)
   clear c6 c6' f6 h6 B3 HB3 G3 G4 O2
   generalize hX:((X0.set 0 (.int .i64 (nm x0))).set 3 (.int .i64 (nm x3))).set 6 (.slice a2 ts.length c2)=X5 at b5 hX5
   clear hX
   have x5l:X5.length=k43:=by rw[HK.out,hX5];rfl
   generalize W4.setCell ⟨wr.heap.size,6,none⟩ (.slice a2 ts.length c2)=W5 at G5 b5 N5 O5 ⊢
   have lB:=a0I P (a0A b5) x5l
   obtain⟨v',w6,hr,ho6,hg6⟩:=a1Y t26 i43 (by decide) (T.flatMap fun p=>a0f p.2 p.1) X5 (by rw[hX5];rfl) (by rw[hX5];simp[a0f,Value.oneCell']) N5.out.i.o N5.out.i.hs (by have:=HTL.out;omega)
   have g7:Below W5.heap.size W5 (W5.alloc (.cells X5.toArray 43)):=a0N (.refl _ _) (Nat.le_refl _) ((Gr.refl _).alloc _)
   have N6:Aside _:=(N5.out.bel g7).app (.slice a2 ts.length c2,nmI nm ⟨x0,x1,x2,x3,x4,x5,ts⟩) (a1K (by show World.ownsRow _ _ _ _ _ (ts.map _).length _;rw[List.length_map];exact O5.out) g7) hg6 (by rw[←hX5];exact ho6)
   have hfc:=a1h y43 X5 x5l
   have kb1: ¬16777216<k43:=by have:=HK.out;omega
   have kb2: ¬k43=0:=by have:=HK.out;omega
   clear ho6 hg6 g7 b5 hX5 N5 O5 x1' l0 l3 l6 B4
   go_wp2_with (first|(at_builtin;refine a0E rfl _ _ #[26,26] rfl v (.slice (some ⟨W5.heap.size,0,none⟩) 1 1) rfl rfl _ w6 hr ?_))
   go_roundg (n-(i+1))
   case measure=>omega
   case rel=>exact⟨i+1,v',_,rfl,by first|rfl|go_num,by omega,Nat.le_refl _,HT2.out _,N6⟩
  ·have hltz: ¬(i:Int)<(n:Int):=by omega
   obtain rfl:i=n:=by omega
   go_wp2
   go_returns
   exact⟨_,rfl,T,HM.out,N1.out⟩
end Go.Proofs.Ytcblehiddfnafaa.canonSame
