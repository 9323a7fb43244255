/-
  Chapter 28: the law's lists and items, walked.
-/
import Derived.Test.YtcblehiddfnafaaTxG
import Derived.StillTailTactics
namespace Go.Proofs.Ytcblehiddfnafaa.canonSame
open Go.Shelf Go.RowKit Go.Lib Go.Sort
structure NsT{α β:Type}(n lo hh:Nat)(w:World)(A:Loc)(k m:Nat)(l:List α)(f:α→Value→List Value)(inn:α→List β)(g:β→List Value):Prop where
 r:RowsI n w.heap.size w A.a k ((List.range l.length).map fun i=>match l[i]? with|some x=>(f x (.slice (A.ad i) (inn x).length (A.cp i))).toArray|none=> #[])
 e: ∀i x,l[i]? =some x→RowsI lo hh w (A.ad i) m ((inn x).map fun y=>(g y).toArray)
abbrev LsT(n lo hh:Nat)(w:World)(A:Loc)(l:List (List Int)):Prop:=NsT n lo hh w A 1 1 l (fun _ v=>[v]) id (fun n=>[.int .i64 n])
abbrev ItT(n lo hh:Nat)(w:World)(A:Loc)(l:List Itm):Prop:=NsT n lo hh w A 7 2 l a0f Itm.ts (fun p=>[.int .i64 p.1,.int .i64 p.2])
structure Bw{α β:Type}(w:World)(lo hh bs e1 k m:Nat)(lv:Value)(T:List (Value×α))(f:α→Value→List Value)(inn:α→List β)(g:β→List Value)(W:World):Prop where
 i:Ni w bs e1 k lv T.length (T.flatMap fun p=>f p.2 p.1) W
 e: ∀p∈T,∃a c,p.1= .slice a (inn p.2).length c∧RowsI lo hh w a m ((inn p.2).map fun y=>(g y).toArray)
section
variable{α β:Type}{w:World}{lo hh bs e1 k m:Nat}{lv:Value}{T:List (Value×α)}{f:α→Value→List Value}{inn:α→List β}{g:β→List Value}{W W':World}
theorem Bw.start(w:World)(lo hh e1 k m:Nat)(f:α→Value→List Value)(inn:α→List β)(g:β→List Value):Bw w lo hh w.heap.size e1 k m (.slice none 0 0) [] f inn g w:=⟨Ni.start _ _ _,fun p hp=>by cases hp⟩
theorem Bw.gr(h:Bw w lo hh bs e1 k m lv T f inn g W)(q:Gr W W'):Bw w lo hh bs e1 k m lv T f inn g W':=⟨h.i.gr q,h.e⟩
theorem Bw.app{lv':Value}(h:Bw w lo hh bs e1 k m lv T f inn g W)(x:Value×α)(hx: ∃a c,x.1= .slice a (inn x.2).length c∧RowsI lo hh w a m ((inn x.2).map fun y=>(g y).toArray))(q:W.grownBy W' lv.ownBlock)(o:W'.ownsRow bs e1 k lv' (T.length+1) ((T.flatMap fun p=>f p.2 p.1)++f x.2 x.1)):Bw w lo hh bs e1 k m lv' (T++ [x]) f inn g W':=
 ⟨by rw[List.length_append,List.flatMap_append];simpa using h.i.app q o,fun p hp=>by
  rcases List.mem_append.1 hp with hp|hp
  ·exact h.e p hp
  ·rw[List.mem_singleton.1 hp]
   exact hx⟩
theorem Bw.nst(h:Bw w lo hh bs e1 k m lv T f inn g W)(hw:bs=w.heap.size)(hhh:hh≤w.heap.size)(hf: ∀x v,(f x v).length=k): ∃A:Loc,lv= .slice A.a (T.map (·.2)).length A.c∧NsT bs lo hh W A k m (T.map (·.2)) f inn g:=by
 obtain⟨a,c,hlv⟩:=a0o h.i.o
 have hin: ∀i:Nat,∃q:Option Addr×Nat,∀p,T[i]? =some p→p.1= .slice q.1 (inn p.2).length q.2∧RowsI lo hh w q.1 m ((inn p.2).map fun y=>(g y).toArray):=fun i=>by
  cases hi:T[i]? with
  |none=>exact⟨(none,0),fun p hp=>by cases hp⟩
  |some p=>
   obtain⟨a,c,e,r⟩:=h.e p (List.mem_of_getElem? hi)
   exact⟨(a,c),fun p' hp'=>by injection hp' with hp';subst hp';exact⟨e,r⟩⟩
 obtain⟨q,hq⟩:=Classical.skolem.1 hin
 refine⟨⟨a,c,fun i=>(q i).1,fun i=>(q i).2⟩,by rw[hlv,List.length_map], ?_, ?_⟩
 ·subst hlv
  refine Eq.mp (congrArg (RowsI bs W.heap.size W a k) ?_) (a0u (f:=fun p:Value×α=>f p.2 p.1) h.i.o rfl fun p=>hf _ _)
  apply List.ext_getElem?
  intro i
  rw[List.getElem?_map,List.getElem?_map,List.length_map]
  rcases Nat.lt_or_ge i T.length with hi|hi
  ·rw[List.getElem?_eq_getElem hi,List.getElem?_eq_getElem (by simpa using hi),List.getElem_range]
   simp only[Option.map_some,List.getElem?_map,List.getElem?_eq_getElem hi]
   rw[(hq i T[i] (List.getElem?_eq_getElem hi)).1]
  ·rw[List.getElem?_eq_none hi,List.getElem?_eq_none (by simpa using hi)]
   rfl
 ·intro i x hx
  rw[List.getElem?_map,Option.map_eq_some_iff]at hx
  obtain⟨p,hp,rfl⟩:=hx
  have hb:Kp lo hh w W:=(Kp.below h.i.b lo).mono (Nat.le_refl _) (by omega)
  exact(hq i p hp).2.kp hb
end
def a0X(ls:List (List Int)):List (List Int):=(ls.take 5).map (·.take 30)
abbrev LsB(w:World)(lo hh:Nat)(lv:Value)(T:List (Value×List Int))(W:World):Prop:=Bw (α:=List Int) (β:=Int) w lo hh w.heap.size 25 1 1 lv T (fun _ v=>[v]) id (fun n=>[.int .i64 n]) W
set_option maxHeartbeats 4000000 in
set_option maxRecDepth 100000 in
theorem a7w{P:Program}{k29 k31 k41 k43 k45 k66 k97:Nat}{y29 y31 y41 y43 y45 y66 y97:List Value}(L:LayS P k29 k31 k41 k43 k45 k66 k97 y29 y31 y41 y43 y45 y66 y97)(f15:P.funcs[15]? =some Try.f15)(i25:Inf P 25 1 1000)
  (A:Loc) (ls:List (List Int)) (w:World) (h63:ls.length≤maxLen) (hcap: ∀i x,ls[i]? =some x→x.length≤A.cp i) {lo hh:Nat} (hhh:hh≤w.heap.size) (hI:LstI lo hh w A ls):
  Calls P 15 #[.slice A.a ls.length A.c] w fun e w'=> ∃A':Loc,e= .returned (.slice A'.a (a0X ls).length A'.c)∧LsT w.heap.size lo hh w' A' (a0X ls)∧Below w.heap.size w w':=by
 have mixed:=L.mixed;have t3:=L.t3;have a3:=L.a3;have z3:=L.z3;have v3:=L.v3;have qu3:=run_underlying L.t3;have t4:=L.t4;have a4:=L.a4;have z4:=L.z4;have t25:=L.t25;have a25:=L.a25;have z25:=L.z25;have v25:=L.v25;have qu25:=run_underlying L.t25;have t24:=L.t24;have a24:=L.a24;have z24:=L.z24;have qu24:=run_underlying L.t24
 have N0:Aside (LsB w lo hh (.slice none 0 0) [] w):=Bw.start w lo hh 25 1 1 _ _ _
 have HI:Aside (LstI lo hh w A ls):=hI
 have HC:Aside _:=hcap
 generalize hA:A.a=ia
 have HA:Hid (A.a=ia):=hA
 have hll:ls.length≤9223372036854775807:=h63
 clear hI hA hcap h63
 go_enter f15,Try.ntmps15
 go_wp2
 go_loopg [3,4] 5 (fun kx s5 s6 wr=> ∃(i:Nat) (v:Value) (T:List (Value×List Int)),v=s5∧s6= .int .i64 i∧i≤ls.length∧i≤5∧5-i≤kx∧T.map (·.2)=(ls.take i).map (·.take 30)∧Aside (LsB w lo hh v T wr))
 case atStart=>exact⟨0,_,[],rfl,rfl,Nat.zero_le _,by omega,by omega,rfl,N0⟩
 case round=>
  clear N0
  obtain⟨i,v,T,rfl,rfl,hi,hi5,hkx,hM,N1⟩:=hrel
  have HM:Hid _:=hM
  clear hM
  have wj:IntKind.i64.wrap ((i:Int)+1)=(i:Int)+1:=by rw[IntKind.wrap_i64];omega
  have stop:(i=ls.length∨i=5)→Aside (∃A':Loc,v= .slice A'.a (a0X ls).length A'.c∧LsT w.heap.size lo hh wr A' (a0X ls)):=fun hs=>by
   obtain⟨A',hA',hN⟩:=N1.out.nst rfl hhh (fun _ _=>rfl)
   have e:T.map (·.2)=a0X ls:=by
    rw[HM.out]
    unfold a0X
    rcases hs with rfl|rfl
    ·rw[List.take_length,List.take_of_length_le hi5]
    ·rfl
   rw[e]at hA' hN
   exact⟨A',hA',hN⟩
  by_cases hlt:i<ls.length
  ·have hltz:(i:Int)<(ls.length:Int):=by omega
   by_cases h5:i<5
   ·have h5z:(i:Int)<5:=by omega
    obtain⟨B,O,hB,hc⟩:=HI.out.rd hlt
    rw[HA.out]at hB
    subst hB
    have q0:Kp lo hh w wr:=(Kp.below N1.out.i.b lo).mono (Nat.le_refl _) hhh
    have c0:=hc wr q0
    have hc2: ∀W,Kp lo hh wr W→W.cell? ⟨B,O+i,none⟩=some (.slice (A.ad i) ls[i].length (A.cp i)):=fun W hW=>hc W (q0.trans hW)
    have hE:=HI.out.e i _ (List.getElem?_eq_getElem hlt)
    have hcp:=HC.out i _ (List.getElem?_eq_getElem hlt)
    have hT:ls.take (i+1)=ls.take i++ [ls[i]]:=by
     rw[List.take_succ_eq_append_getElem hlt]
    have hTl:T.length=i:=by
     have:=congrArg List.length HM.out
     rw[List.length_map,List.length_map,List.length_take]at this
     omega
    clear hc q0
    generalize ls[i]=l at c0 hE hT hcp hc2
    have HTL:Hid _:=hTl
    have hT2: ∀v2:Value,(T++ [(v2,l.take 30)]).map (·.2)=(ls.take (i+1)).map (·.take 30):=fun v2=>by rw[hT,List.map_append,HM.out,List.map_append];rfl
    have HT2:Hid _:=hT2
    obtain⟨mm,hm⟩: ∃mm,min l.length 30=mm:=⟨_,rfl⟩
    have hmz:min ((l.length:Nat):Int) 30=(mm:Int):=by omega
    have hm2:mm≤A.cp i:=by omega
    have hm3:(l.take 30).length=mm:=by rw[List.length_take,Nat.min_comm];exact hm
    have hRT:Aside (RowsI lo hh w (A.ad i) 1 ((l.take 30).map fun n=> #[Value.int .i64 n])):=by
     have:=RowsI.take hE 30
     rw[←List.map_take]at this
     exact this
    have HM3:Hid _:=hm3
    clear hT2 hTl hT hE hcp hm3
    have N2:=N1.out.gr ((Gr.refl wr).drew)
    obtain⟨v',w3,hr,ho3,hg3⟩:=a1Y t24 i25 (by decide) (T.flatMap fun p=>[p.1]) [.slice (A.ad i) mm (A.cp i)] rfl (by intro u hu;rw[List.mem_singleton.1 hu];rfl) N2.i.o N2.i.hs (by have:=HTL.out;omega)
    have N3:Aside (LsB w lo hh v' (T++ [(.slice (A.ad i) mm (A.cp i),l.take 30)]) w3):=(N2.gr ((Gr.refl _).alloc _)).app (.slice (A.ad i) mm (A.cp i),l.take 30) ⟨A.ad i,A.cp i,by rw[←HM3.out];rfl,hRT.out⟩ hg3 ho3
    have KW3:Aside (Kp lo hh wr w3):=(Kp.gr (((Gr.refl wr).drew).alloc (.cells [Value.slice (A.ad i) mm (A.cp i)].toArray 25)) (Nat.le_trans hhh N1.out.i.b.size)).trans (Kp.grown hg3 (by have:=N1.out.i.b.size;simp;omega) fun k hk=>.inr (Nat.le_trans hhh (N1.out.i.o.lt k hk).1))
    have HHW:Aside (hh≤wr.heap.size):=Nat.le_trans hhh N1.out.i.b.size
    have C0:Aside (∀W,Kp lo hh wr W→W.cell? ⟨B,O+i,none⟩=some (.slice (A.ad i) l.length (A.cp i))):=hc2
    clear ho3 hg3 N2 N1 stop hm hc2
    go_upto_region 5 with fail
    clear c0
    have OB0:Kp lo hh wr wr.drew:=Kp.gr ((Gr.refl _).drew) HHW.out
    refine wp_region_held_drew (S:=fun W=>Kp lo hh wr W) mixed OB0 (fun hHeld=> ?_)
    refine wtk (i:=0) (v:=v) hHeld ?_ ?_
    ·intro W hW
     clear hW hHeld OB0 hr
     go_simp
    simp only[Act.put,px]
    refine wtk (i:=1) (v:=.slice (some ⟨B,O,none⟩) ls.length A.c) hHeld ?_ ?_
    ·intro W hW
     clear hW hHeld OB0 hr
     go_simp
    simp only[Act.put,px]
    refine wtk (i:=2) (v:=.int .i64 i) hHeld ?_ ?_
    ·intro W hW
     clear hW hHeld OB0 hr
     go_simp
    simp only[Act.put,px]
    refine wtk (i:=3) (v:=.pointer (some ⟨B,O+i,none⟩)) hHeld ?_ ?_
    ·intro W hW
     clear hW hHeld OB0 hr
     go_simp
    simp only[Act.put,px]
    refine wtk (i:=4) (v:=.slice (A.ad i) l.length (A.cp i)) hHeld ?_ ?_
    ·intro W hW
     have c0:=C0.out W hW
     clear hW hHeld OB0 hr
     go_simp
    simp only[Act.put,px]
    refine wtk (i:=5) (v:=.slice (some ⟨B,O,none⟩) ls.length A.c) hHeld ?_ ?_
    ·intro W hW
     clear hW hHeld OB0 hr
     go_simp
    simp only[Act.put,px]
    refine wtk (i:=6) (v:=.int .i64 i) hHeld ?_ ?_
    ·intro W hW
     clear hW hHeld OB0 hr
     go_simp
    simp only[Act.put,px]
    refine wtk (i:=7) (v:=.pointer (some ⟨B,O+i,none⟩)) hHeld ?_ ?_
    ·intro W hW
     clear hW hHeld OB0 hr
     go_simp
    simp only[Act.put,px]
    refine wtk (i:=8) (v:=.slice (A.ad i) l.length (A.cp i)) hHeld ?_ ?_
    ·intro W hW
     have c0:=C0.out W hW
     clear hW hHeld OB0 hr
     go_simp
    simp only[Act.put,px]
    refine wtk (i:=9) (v:=.int .i64 l.length) hHeld ?_ ?_
    ·intro W hW
     clear hW hHeld OB0 hr
     go_simp
    simp only[Act.put,px]
    refine wtk (i:=10) (v:=.int .i64 mm) hHeld ?_ ?_
    ·intro W hW
     clear hW hHeld OB0 hr
     go_simp
    simp only[Act.put,px]
    refine wtk (i:=11) (v:=.slice (A.ad i) mm (A.cp i)) hHeld ?_ ?_
    ·intro W hW
     clear hW hHeld OB0 hr
     go_simp
    simp only[Act.put,px]
    refine wrd 12 fun K hK=> ?_
    go_simp
    refine hK.out _ _ (Kp.trans OB0 (Kp.gr ((Gr.refl wr.drew).alloc _) HHW.out)) (fun hHeld=> ?_)
    clear hK K
    refine wrd 13 fun K hK=> ?_
    refine a3a (.tmp 15) (.tmp 27) #[24,24] rfl rfl v (.slice (some ⟨wr.drew.heap.size,0,none⟩) 1 1) rfl rfl v' w3 hr ?_
    refine hK.out _ _ KW3.out (fun hHeld=> ?_)
    clear hK K
    refine wrd 14 fun K hK=> ?_
    go_simp
    refine hK.out _ _ KW3.out (fun hHeld=> ?_)
    clear hK K
    refine wpAnyH_done (by kernel_rfl) ?_ _
    clear hr hHeld OB0
    go_wp2
    go_roundg (5-(i+1))
    case measure=>omega
    case rel=>exact⟨i+1,v',_,rfl,by first|rfl|go_num,by omega,by omega,Nat.le_refl _,HT2.out _,N3⟩
   ·have h5z: ¬(i:Int)<5:=by omega
    obtain⟨A',hA',hN⟩:=(stop (.inr (by omega))).out
    have HN:Aside _:=hN
    have HB:Aside (Below w.heap.size w wr):=N1.out.i.b
    clear hN N1 stop
    subst hA'
    go_wp2
    go_returns
    exact⟨A',rfl,HN.out,HB.out⟩
  ·have hltz: ¬(i:Int)<(ls.length:Int):=by omega
   obtain⟨A',hA',hN⟩:=(stop (.inl (by omega))).out
   have HN:Aside _:=hN
   have HB:Aside (Below w.heap.size w wr):=N1.out.i.b
   clear hN N1 stop
   subst hA'
   go_wp2
   go_returns
   exact⟨A',rfl,HN.out,HB.out⟩
end Go.Proofs.Ytcblehiddfnafaa.canonSame
namespace Go.Proofs.Ytcblehiddfnafaa.canonSame
open Go.Shelf Go.RowKit Go.Lib Go.Sort
def b6I(x:Itm):Itm:={x with ts:=x.ts.take 4}
def a2m(xs:List Itm):List Itm:=(xs.take 12).map b6I
abbrev ItB(w:World)(lo hh:Nat)(lv:Value)(T:List (Value×Itm))(W:World):Prop:=Bw (α:=Itm) (β:=Int×Int) w lo hh w.heap.size 43 7 2 lv T a0f Itm.ts (fun p=>[.int .i64 p.1,.int .i64 p.2]) W
set_option maxHeartbeats 8000000 in
set_option maxRecDepth 100000 in
theorem a7z{P:Program}{k29 k31 k41 k43 k45 k66 k97:Nat}{y29 y31 y41 y43 y45 y66 y97:List Value}(L:LayS P k29 k31 k41 k43 k45 k66 k97 y29 y31 y41 y43 y45 y66 y97)(hk:k43=7)(hy3:y43.length=k43)(f16:P.funcs[16]? =some Try.f16)(i43:Inf P 43 7 1000)
  (A:Loc) (xs:List Itm) (w:World) (h63:xs.length≤maxLen) (hcap: ∀i x,xs[i]? =some x→x.ts.length≤A.cp i) {lo hh:Nat} (hhh:hh≤w.heap.size) (hI:ItsI lo hh w A xs):
  Calls P 16 #[.slice A.a xs.length A.c] w fun e w'=> ∃A':Loc,e= .returned (.slice A'.a (a2m xs).length A'.c)∧ItT w.heap.size lo hh w' A' (a2m xs)∧Below w.heap.size w w':=by
 have mixed:=L.mixed;have t3:=L.t3;have a3:=L.a3;have z3:=L.z3;have v3:=L.v3;have qu3:=run_underlying L.t3;have t4:=L.t4;have a4:=L.a4;have z4:=L.z4;have t26:=L.t26;have a26:=L.a26;have z26:=L.z26;have qu26:=run_underlying L.t26;have t27:=L.t27;have a27:=L.a27;have z27:=L.z27;have qu27:=run_underlying L.t27;have qu43:=run_underlying L.t43;have a43:=L.a43;have z43:=L.z43;have v43:=L.v43;have qu45:=run_underlying L.t45;have z45:=L.z45
 have N0:Aside (ItB w lo hh (.slice none 0 0) [] w):=Bw.start w lo hh 43 7 2 _ _ _
 have HI:Aside (ItsI lo hh w A xs):=hI
 have HC:Aside _:=hcap
 generalize hA:A.a=ia
 have HA:Hid (A.a=ia):=hA
 have HK:Hid (k43=7):=hk
 have hy7:7=y43.length:=by rw[hy3,hk]
 have HY:Hid (7=y43.length):=hy7
 have hll:xs.length≤9223372036854775807:=h63
 clear hy7 hI hA hk hcap h63
 go_enter f16,Try.ntmps16
 go_wp2
 go_loopg [3,4] 12 (fun kx s5 s6 wr=> ∃(i:Nat) (v:Value) (T:List (Value×Itm)),v=s5∧s6= .int .i64 i∧i≤xs.length∧i≤12∧12-i≤kx∧T.map (·.2)=(xs.take i).map b6I∧Aside (ItB w lo hh v T wr))
 case atStart=>exact⟨0,_,[],rfl,rfl,Nat.zero_le _,by omega,by omega,rfl,N0⟩
 case round=>
  clear N0
  obtain⟨i,v,T,rfl,rfl,hi,hi5,hkx,hM,N1⟩:=hrel
  have HM:Hid _:=hM
  clear hM
  have wj:IntKind.i64.wrap ((i:Int)+1)=(i:Int)+1:=by rw[IntKind.wrap_i64];omega
  have stop:(i=xs.length∨i=12)→Aside (∃A':Loc,v= .slice A'.a (a2m xs).length A'.c∧ItT w.heap.size lo hh wr A' (a2m xs)):=fun hs=>by
   obtain⟨A',hA',hN⟩:=N1.out.nst rfl hhh (fun _ _=>rfl)
   have e:T.map (·.2)=a2m xs:=by
    rw[HM.out]
    unfold a2m
    rcases hs with rfl|rfl
    ·rw[List.take_length,List.take_of_length_le hi5]
    ·rfl
   rw[e]at hA' hN
   exact⟨A',hA',hN⟩
  by_cases hlt:i<xs.length
  ·have hltz:(i:Int)<(xs.length:Int):=by omega
   by_cases h5:i<12
   ·have h5z:(i:Int)<12:=by omega
    obtain⟨B,O,hB,_,_,hc⟩:=HI.out.ld P hlt rfl
    rw[HA.out]at hB
    subst hB
    have q0:Kp lo hh w wr:=(Kp.below N1.out.i.b lo).mono (Nat.le_refl _) hhh
    have lA:=hc wr q0
    rw[←HK.out]at lA
    have hE:=HI.out.e i _ (List.getElem?_eq_getElem hlt)
    have hcp:=HC.out i _ (List.getElem?_eq_getElem hlt)
    have hTl:T.length=i:=by
     have:=congrArg List.length HM.out
     rw[List.length_map,List.length_map,List.length_take]at this
     omega
    have hT:xs.take (i+1)=xs.take i++ [xs[i]]:=by
     rw[List.take_succ_eq_append_getElem hlt]
    clear hc q0
    generalize xs[i]=x at lA hE hT hcp
    have hT2: ∀v2:Value,(T++ [(v2,b6I x)]).map (·.2)=(xs.take (i+1)).map b6I:=fun v2=>by rw[hT,List.map_append,HM.out,List.map_append];rfl
    have HT2:Hid _:=hT2
    have HTL:Hid _:=hTl
    obtain⟨mm,hm⟩: ∃mm,min x.ts.length 4=mm:=⟨_,rfl⟩
    have hmz:min ((x.ts.length:Nat):Int) 4=(mm:Int):=by omega
    have hm2:mm≤A.cp i:=by omega
    have hm3:(x.ts.take 4).length=mm:=by rw[List.length_take,Nat.min_comm];exact hm
    have hRT:Aside (a9n lo hh w (A.ad i) (x.ts.take 4)):=by
     have:=RowsI.take hE 4
     rw[←List.map_take]at this
     exact this
    have HM3:Hid _:=hm3
    clear hT2 hTl hE hT hcp hm3 stop hm
    have sA:=a0P P (a0q wr y43 43) (a0f x (.slice (A.ad i) x.ts.length (A.cp i))) HY.out (a2M _ _ rfl)
    have g1:Gr wr ((wr.alloc (.cells y43.toArray 43)).setCells wr.heap.size 0 (a0f x (.slice (A.ad i) x.ts.length (A.cp i)))):=Gr.sets (W:=wr) _ (Nat.le_refl _) _ _ ((Gr.refl _).alloc _)
    have b1:=a0Y (a0T wr (.cells y43.toArray 43)) (a0f x (.slice (A.ad i) x.ts.length (A.cp i))) HY.out
    have G1:Aside (Gr wr _):=g1
    have B1:Aside _:=b1
    clear g1 b1
    generalize hX0:a0f x (.slice (A.ad i) x.ts.length (A.cp i))=X0 at lA sA G1 B1
    have HX0:Hid _:=hX0
    have x1':X0.length=k43:=by rw[HK.out,←HX0.out];rfl
    clear hX0
    go_upto_region 6 with fail
    clear lA sA
    generalize (wr.alloc (.cells y43.toArray 43)).setCells wr.heap.size 0 X0=W1 at G1 B1 ⊢
    have l6:X0[6]? =some (.slice (A.ad i) x.ts.length (A.cp i)):=by rw[←HX0.out];rfl
    have c6:=a0B (a0A B1.out) l6
    have f6:=(a0A B1.out 6 (by have:=(List.getElem?_eq_some_iff.1 l6).1;simpa using this)).2
    go_upto_region 7 with fail
    have G5:Aside (Gr wr (W1.setCell ⟨wr.heap.size,6,none⟩ (.slice (A.ad i) mm (A.cp i)))):=G1.out.set _ _ _ (Nat.le_refl _)
    have b5:=a1X B1.out 6 (.slice (A.ad i) mm (A.cp i))
    have hX5:X0.set 6 (.slice (A.ad i) mm (A.cp i))=a0f (b6I x) (.slice (A.ad i) mm (A.cp i)):=by rw[←HX0.out];rfl
    have N5:Aside (ItB w lo hh v T _):=N1.out.gr G5.out
    clear c6 f6 B1 G1 hmz hm2
    generalize hX:X0.set 6 (.slice (A.ad i) mm (A.cp i))=X5 at b5 hX5
    clear hX
    have x5l:X5.length=k43:=by rw[HK.out,hX5];rfl
    generalize W1.setCell ⟨wr.heap.size,6,none⟩ (.slice (A.ad i) mm (A.cp i))=W5 at G5 b5 N5 ⊢
    have lB:=a0I P (a0A b5) x5l
    obtain⟨v',w6,hr,ho6,hg6⟩:=a1Y t26 i43 (by decide) (T.flatMap fun p=>a0f p.2 p.1) X5 (by rw[hX5];rfl) (by rw[hX5];exact a2M _ _ rfl) N5.out.i.o N5.out.i.hs (by have:=HTL.out;omega)
    have N6:Aside (ItB w lo hh v' (T++ [(.slice (A.ad i) mm (A.cp i),b6I x)]) w6):=(N5.out.gr ((Gr.refl _).alloc _)).app (.slice (A.ad i) mm (A.cp i),b6I x) ⟨A.ad i,A.cp i,by rw[←HM3.out];rfl,hRT.out⟩ hg6 (by rw[←hX5];exact ho6)
    have hfc:=a1h y43 X5 x5l
    have kb1: ¬16777216<k43:=by have:=HK.out;omega
    have kb2: ¬k43=0:=by have:=HK.out;omega
    clear ho6 hg6 b5 hX5 N5 x1' l6 N1
    go_wp2_with (first|(at_builtin;refine a0E rfl _ _ #[26,26] rfl v (.slice (some ⟨W5.heap.size,0,none⟩) 1 1) rfl rfl _ w6 hr ?_))
    go_roundg (12-(i+1))
    case measure=>omega
    case rel=>exact⟨i+1,v',_,rfl,by first|rfl|go_num,by omega,by omega,Nat.le_refl _,HT2.out _,N6⟩
   ·have h5z: ¬(i:Int)<12:=by omega
    obtain⟨A',hA',hN⟩:=(stop (.inr (by omega))).out
    have HN:Aside (ItT w.heap.size lo hh wr A' (a2m xs)):=hN
    have HB:Aside (Below w.heap.size w wr):=N1.out.i.b
    clear hN N1 stop
    subst hA'
    go_wp2
    go_returns
    exact⟨A',rfl,HN.out,HB.out⟩
  ·have hltz: ¬(i:Int)<(xs.length:Int):=by omega
   obtain⟨A',hA',hN⟩:=(stop (.inl (by omega))).out
   have HN:Aside (ItT w.heap.size lo hh wr A' (a2m xs)):=hN
   have HB:Aside (Below w.heap.size w wr):=N1.out.i.b
   clear hN N1 stop
   subst hA'
   go_wp2
   go_returns
   exact⟨A',rfl,HN.out,HB.out⟩
end Go.Proofs.Ytcblehiddfnafaa.canonSame
namespace Go.Proofs.Ytcblehiddfnafaa.canonSame
open Go.Shelf Go.RowKit Go.Lib Go.Sort
def a3C(S:Std):Std:={S with pl:=S.pl.take 5,obs:=S.obs.take 30,libs:=[],hands:=[],graves:=[],exiles:=[],field:=S.field.take 30,stack:=[],waits:=[],cast:={S.cast with ts:=S.cast.ts.take 4}}
def a5m(S:Std):Std:={S with pl:=S.pl.take 5,obs:=S.obs.take 30,libs:=a0X S.libs,hands:=a0X S.hands,graves:=a0X S.graves,exiles:=a0X S.exiles,field:=S.field.take 30,stack:=a2m S.stack,waits:=a2m S.waits,cast:={S.cast with ts:=S.cast.ts.take 4}}
structure CapS(A:Lcs)(S:Std):Prop where
 p:S.pl.length≤A.p.c∧A.p.c≤maxLen
 o:S.obs.length≤A.o.c∧A.o.c≤maxLen
 f:S.field.length≤A.f.c∧A.f.c≤maxLen
 t:S.cast.ts.length≤A.t.c∧A.t.c≤maxLen
 l:S.libs.length≤maxLen∧ ∀i x,S.libs[i]? =some x→x.length≤A.l.cp i
 h:S.hands.length≤maxLen∧ ∀i x,S.hands[i]? =some x→x.length≤A.h.cp i
 g:S.graves.length≤maxLen∧ ∀i x,S.graves[i]? =some x→x.length≤A.g.cp i
 x:S.exiles.length≤maxLen∧ ∀i x,S.exiles[i]? =some x→x.length≤A.x.cp i
 s:S.stack.length≤maxLen∧ ∀i x,S.stack[i]? =some x→x.ts.length≤A.s.cp i
 w:S.waits.length≤maxLen∧ ∀i x,S.waits[i]? =some x→x.ts.length≤A.w.cp i
theorem Nst.take{α β:Type}{lo hi:Nat}{w:World}{A:Loc}{k m:Nat}{l:List α}{f:α→Value→List Value}{inn:α→List β}{g:β→List Value}(h:Nst lo hi w A k m l f inn g)(n:Nat):Nst lo hi w A k m (l.take n) f inn g:=by
 refine⟨?_,fun i x hx=>h.e i x ?_⟩
 ·refine Eq.mp (congrArg (RowsI lo hi w A.a k) ?_) (h.r.take n)
  rw[←List.map_take,List.take_range,List.length_take]
  apply List.map_congr_left
  intro i hi'
  have hi':=List.mem_range.1 hi'
  rw[List.getElem?_take,if_pos (by omega)]
 ·rw[List.getElem?_take]at hx
  split at hx
  ·exact hx
  ·cases hx
def Kx(b1 b2:Nat)(W W':World):Prop:=W.heap.size≤W'.heap.size∧ ∀k,(k<b1∨b2<k)→k<W.heap.size→W'.heap[k]? =W.heap[k]?
def RowsX(b1 b2:Nat)(w:World)(a:Option Addr)(k:Nat)(l:List (Array Value)):Prop:=l= []∨ ∃B O,a=some ⟨B,O,none⟩∧(B<b1∨b2<B)∧B<w.heap.size∧ ∀i x,l[i]? =some x→ ∀j v,x[j]? =some v→w.cell? ⟨B,O+i*k+j,none⟩=some v
theorem RowsX.kx{b1 b2:Nat}{w w':World}{a:Option Addr}{k:Nat}{l:List (Array Value)}(h:RowsX b1 b2 w a k l)(g:Kx b1 b2 w w'):RowsX b1 b2 w' a k l:=by
 rcases h with h|⟨B,O,e,h1,h3,h⟩
 ·exact .inl h
 ·refine .inr ⟨B,O,e,h1,Nat.lt_of_lt_of_le h3 g.1,fun i x hx j v hv=> ?_⟩
  have:w'.cell? ⟨B,O+i*k+j,none⟩=w.cell? ⟨B,O+i*k+j,none⟩:=by
   unfold World.cell?
   rw[g.2 B h1 h3]
  rw[this]
  exact h i x hx j v hv
theorem RowsX.of{b1 b2 lo hi:Nat}{w:World}{a:Option Addr}{k:Nat}{l:List (Array Value)}(h:RowsI lo hi w a k l)(h1:b2<lo∨hi≤b1)(h3:hi≤w.heap.size):RowsX b1 b2 w a k l:=by
 rcases h with h|⟨B,O,e,x,y,h⟩
 ·exact .inl h
 ·exact .inr ⟨B,O,e,by omega,by omega,h⟩
theorem RowsX.i{b1 b2:Nat}{w:World}{a:Option Addr}{k:Nat}{l:List (Array Value)}(h:RowsX b1 b2 w a k l):RowsI 0 w.heap.size w a k l:=by
 rcases h with h|⟨B,O,e,x,z,h⟩
 ·exact .inl h
 ·exact .inr ⟨B,O,e,Nat.zero_le _,z,h⟩
structure NstX{α β:Type}(b1 b2:Nat)(w:World)(A:Loc)(k m:Nat)(l:List α)(f:α→Value→List Value)(inn:α→List β)(g:β→List Value):Prop where
 r:RowsX b1 b2 w A.a k ((List.range l.length).map fun i=>match l[i]? with|some x=>(f x (.slice (A.ad i) (inn x).length (A.cp i))).toArray|none=> #[])
 e: ∀i x,l[i]? =some x→RowsX b1 b2 w (A.ad i) m ((inn x).map fun y=>(g y).toArray)
theorem NstX.kx{α β:Type}{b1 b2:Nat}{w w':World}{A:Loc}{k m:Nat}{l:List α}{f:α→Value→List Value}{inn:α→List β}{g:β→List Value}(h:NstX b1 b2 w A k m l f inn g)(q:Kx b1 b2 w w'):NstX b1 b2 w' A k m l f inn g:=⟨h.r.kx q,fun i x hx=>(h.e i x hx).kx q⟩
theorem NstX.i{α β:Type}{b1 b2:Nat}{w:World}{A:Loc}{k m:Nat}{l:List α}{f:α→Value→List Value}{inn:α→List β}{g:β→List Value}(h:NstX b1 b2 w A k m l f inn g):Nst 0 w.heap.size w A k m l f inn g:=⟨h.r.i,fun i x hx=>(h.e i x hx).i⟩
theorem NstX.nil{α β:Type}{b1 b2:Nat}{w:World}{A:Loc}{k m:Nat}{f:α→Value→List Value}{inn:α→List β}{g:β→List Value}:NstX b1 b2 w A k m [] f inn g:=⟨.inl rfl,fun i x hx=>by simp at hx⟩
theorem NstX.of{α β:Type}{b1 b2 lo hi:Nat}{w:World}{A:Loc}{k m:Nat}{l:List α}{f:α→Value→List Value}{inn:α→List β}{g:β→List Value}(h:Nst lo hi w A k m l f inn g)(h1:b2<lo∨hi≤b1)(h3:hi≤w.heap.size):NstX b1 b2 w A k m l f inn g:=⟨RowsX.of h.r h1 h3,fun i x hx=>RowsX.of (h.e i x hx) h1 h3⟩
theorem NstX.new{α β:Type}{b1 b2 n lo hh:Nat}{w:World}{A:Loc}{k m:Nat}{l:List α}{f:α→Value→List Value}{inn:α→List β}{g:β→List Value}(h:NsT n lo hh w A k m l f inn g)(h1:b2<n)(h3:hh≤b1)(h5:hh≤w.heap.size):NstX b1 b2 w A k m l f inn g:=⟨RowsX.of h.r (.inl h1) (Nat.le_refl _),fun i x hx=>RowsX.of (h.e i x hx) (.inr h3) h5⟩
structure StX(b1 b2:Nat)(w:World)(A:Lcs)(S:Std):Prop where
 p:RowsX b1 b2 w A.p.a 8 (S.pl.map fun p=>(plV p).toArray)
 o:NstX b1 b2 w A.o 14 4 S.obs obV Obd.effs efV
 l:NstX (α:=List Int) (β:=Int) b1 b2 w A.l 1 1 S.libs (fun _ v=>[v]) id (fun n=>[.int .i64 n])
 h:NstX (α:=List Int) (β:=Int) b1 b2 w A.h 1 1 S.hands (fun _ v=>[v]) id (fun n=>[.int .i64 n])
 g:NstX (α:=List Int) (β:=Int) b1 b2 w A.g 1 1 S.graves (fun _ v=>[v]) id (fun n=>[.int .i64 n])
 x:NstX (α:=List Int) (β:=Int) b1 b2 w A.x 1 1 S.exiles (fun _ v=>[v]) id (fun n=>[.int .i64 n])
 f:RowsX b1 b2 w A.f.a 1 (S.field.map fun n=> #[.int .i64 n])
 s:NstX b1 b2 w A.s 7 2 S.stack a0f Itm.ts (fun p=>[.int .i64 p.1,.int .i64 p.2])
 wt:NstX b1 b2 w A.w 7 2 S.waits a0f Itm.ts (fun p=>[.int .i64 p.1,.int .i64 p.2])
 t:RowsX b1 b2 w A.t.a 2 (S.cast.ts.map fun p=> #[.int .i64 p.1,.int .i64 p.2])
theorem StX.kx{b1 b2:Nat}{w w':World}{A:Lcs}{S:Std}(h:StX b1 b2 w A S)(q:Kx b1 b2 w w'):StX b1 b2 w' A S:=⟨h.p.kx q,h.o.kx q,h.l.kx q,h.h.kx q,h.g.kx q,h.x.kx q,h.f.kx q,h.s.kx q,h.wt.kx q,h.t.kx q⟩
theorem StX.i{b1 b2:Nat}{w:World}{A:Lcs}{S:Std}(h:StX b1 b2 w A S):StI 0 w.heap.size w A S:=⟨h.p.i,h.o.i,h.l.i,h.h.i,h.g.i,h.x.i,h.f.i,h.s.i,h.wt.i,h.t.i⟩
structure By(w:World)(p b1 b2:Nat)(SL y:List Value)(A:Lcs)(S:Std)(W:World):Prop where
 b:Below w.heap.size w W
 c1:W.heap[b1]? =some (.cells SL.toArray 31)
 c2:W.heap[b2]? =some (.cells y.toArray 31)
 d:StX p b2 W A S
 h1:w.heap.size≤b1
 h3:w.heap.size≤b2
 h5:b1<b2
 h6:p≤b1
theorem By.call{w:World}{p b1 b2:Nat}{SL y:List Value}{A:Lcs}{S:Std}{W W2:World}(h:By w p b1 b2 SL y A S W)(hb:Below W.heap.size W W2):By w p b1 b2 SL y A S W2:=
 ⟨h.b.trans (hb.mono h.b.size),(hb.block _ (a0L h.c1)).trans h.c1,(hb.block _ (a0L h.c2)).trans h.c2,h.d.kx ⟨hb.size,fun k _ hk=>hb.block k hk⟩,h.h1,h.h3,h.h5,h.h6⟩
theorem By.put{w:World}{p b1 b2:Nat}{SL y:List Value}{A A':Lcs}{S S':Std}{W:World}(h:By w p b1 b2 SL y A S W)(f:StX p b2 W A S→StX p b2 W A' S'):By w p b1 b2 SL y A' S' W:=⟨h.b,h.c1,h.c2,f h.d,h.h1,h.h3,h.h5,h.h6⟩
theorem By.set{w:World}{p b1 b2:Nat}{SL y:List Value}{A:Lcs}{S:Std}{W:World}(h:By w p b1 b2 SL y A S W)(k:Nat)(v:Value):By w p b1 b2 (SL.set k v) y A S (W.setCell ⟨b1,k,none⟩ v):=
 ⟨h.b.setCell (p:=⟨b1,k,none⟩) h.h1 v,a1X h.c1 k v,(a0n (by have:=h.h5;omega) k v).trans h.c2,h.d.kx ⟨by rw[World.size_setCell];exact Nat.le_refl _,fun j hj _=>Below.heap_setCell _ _ _ _ (by have:=h.h5;have:=h.h6;show j≠b1;omega)⟩,h.h1,h.h3,h.h5,h.h6⟩
set_option maxHeartbeats 8000000 in
set_option maxRecDepth 100000 in
theorem b3V{P:Program}{k29 k31 k41 k43 k45 k66 k97:Nat}{y29 y31 y41 y43 y45 y66 y97:List Value}(L:LayS P k29 k31 k41 k43 k45 k66 k97 y29 y31 y41 y43 y45 y66 y97)(hk0: ¬k29=0)(hk1:k31=25)(hy1:y31.length=k31)(f6:P.funcs[6]? =some Try.f6)
  (e15: ∀args w,(callFunc 15 args).run P w= .ok (.enter 15 args) w) (e16: ∀args w,(callFunc 16 args).run P w= .ok (.enter 16 args) w)
  (h15: ∀(A:Loc) (ls:List (List Int)) (w:World) (_:ls.length≤maxLen) (_: ∀i x,ls[i]? =some x→x.length≤A.cp i) (lo hh:Nat) (_:hh≤w.heap.size) (_:LstI lo hh w A ls),Calls P 15 #[.slice A.a ls.length A.c] w fun e w'=> ∃A':Loc,e= .returned (.slice A'.a (a0X ls).length A'.c)∧LsT w.heap.size lo hh w' A' (a0X ls)∧Below w.heap.size w w')
  (h16: ∀(A:Loc) (xs:List Itm) (w:World) (_:xs.length≤maxLen) (_: ∀i x,xs[i]? =some x→x.ts.length≤A.cp i) (lo hh:Nat) (_:hh≤w.heap.size) (_:ItsI lo hh w A xs),Calls P 16 #[.slice A.a xs.length A.c] w fun e w'=> ∃A':Loc,e= .returned (.slice A'.a (a2m xs).length A'.c)∧ItT w.heap.size lo hh w' A' (a2m xs)∧Below w.heap.size w w')
  (A:Lcs) (S:Std) (w:World) (hC:CapS A S) {lo hh:Nat} (hhh:hh≤w.heap.size) (hI:StI lo hh w A S):
  Calls P 6 #[.agg (stV A S).toArray] w fun e w'=> ∃A',e= .returned (.agg (stV A' (a5m S)).toArray)∧StX hh (w.heap.size+1) w' A' (a5m S)∧Below w.heap.size w w':=by
 have mixed:=L.mixed;have t3:=L.t3;have a3:=L.a3;have z3:=L.z3;have v3:=L.v3;have qu3:=run_underlying L.t3;have t4:=L.t4;have a4:=L.a4;have z4:=L.z4
 have t22:=L.t22;have a22:=L.a22;have z22:=L.z22;have v22:=L.v22;have qu22:=run_underlying L.t22
 have t23:=L.t23;have a23:=L.a23;have z23:=L.z23;have v23:=L.v23;have qu23:=run_underlying L.t23
 have t24:=L.t24;have a24:=L.a24;have z24:=L.z24;have v24:=L.v24;have qu24:=run_underlying L.t24
 have t25:=L.t25;have a25:=L.a25;have z25:=L.z25;have v25:=L.v25;have qu25:=run_underlying L.t25
 have t26:=L.t26;have a26:=L.a26;have z26:=L.z26;have v26:=L.v26;have qu26:=run_underlying L.t26
 have t27:=L.t27;have a27:=L.a27;have z27:=L.z27;have v27:=L.v27;have qu27:=run_underlying L.t27
 have qu29:=run_underlying L.t29;have a29:=L.a29;have z29:=L.z29;have v29:=L.v29
 have qu31:=run_underlying L.t31;have a31:=L.a31;have z31:=L.z31;have v31:=L.v31
 have qu41:=run_underlying L.t41;have a41:=L.a41;have z41:=L.z41;have v41:=L.v41
 have qu43:=run_underlying L.t43;have a43:=L.a43;have z43:=L.z43;have v43:=L.v43
 have qu45:=run_underlying L.t45;have a45:=L.a45;have z45:=L.z45;have v45:=L.v45
 have qu66:=run_underlying L.t66;have a66:=L.a66;have z66:=L.z66;have v66:=L.v66
 have HI:Aside (StI lo hh w A S):=hI
 have HC:Aside (CapS A S):=hC
 have H15:Aside _:=h15
 have H16:Aside _:=h16
 have hy8:25=y31.length:=by rw[hy1,hk1]
 have HY1:Hid (25=y31.length):=hy8
 have HK1:Hid (k31=25):=hk1
 have X0:Aside (By w hh w.heap.size (w.heap.size+1) (stV A S) y31 A (a3C S) ((w.alloc (.cells (stV A S).toArray 31)).alloc (.cells y31.toArray 31))):=by
  obtain⟨g,b4,b5⟩:=a0W w (stV A S) y31 31 31
  have ki:Kp lo hh w ((w.alloc (.cells (stV A S).toArray 31)).alloc (.cells y31.toArray 31)):=Kp.gr g hhh
  have hs2:=g.le
  exact⟨a0N (.refl _ _) (Nat.le_refl _) g,b4,b5,⟨RowsX.of ((hI.p.kp ki).take 5|>fun h=>by rw[←List.map_take]at h;exact h) (.inr (Nat.le_refl _)) (by omega),NstX.of ((hI.o.kp ki).take 30) (.inr (Nat.le_refl _)) (by omega),NstX.nil,NstX.nil,NstX.nil,NstX.nil,RowsX.of ((RowsI.kp hI.f ki).take 30|>fun h=>by rw[←List.map_take]at h;exact h) (.inr (Nat.le_refl _)) (by omega),NstX.nil,NstX.nil,RowsX.of ((RowsI.kp hI.t ki).take 4|>fun h=>by rw[←List.map_take]at h;exact h) (.inr (Nat.le_refl _)) (by omega)⟩,by omega,by omega,by omega,hhh⟩
 clear hI hC h15 h16 hy8 hk1 hy1
 have KI:Aside (∀W,Below w.heap.size w W→Kp lo hh w W):=fun W h=>(Kp.below h lo).mono (Nat.le_refl _) hhh
 go_enter f6,Try.ntmps6
 go_upto_region 1 with fail
 generalize hb1:w.heap.size=b1 at X0 ⊢
 generalize hb2:b1+1=b2 at X0 ⊢
 have HBX:Aside (b2=w.heap.size+1):=(by show b2=w.heap.size+1;omega)
 generalize (w.alloc (.cells (stV A S).toArray 31)).alloc (.cells y31.toArray 31)=W0 at X0 ⊢
 have HBB:Hid (w.heap.size=b1):=hb1
 have HBC:Hid (b1+1=b2):=hb2
 have hsz:Aside (b2<W0.heap.size):=a0L X0.out.c2
 have hsz0:Aside (b1<W0.heap.size):=a0L X0.out.c1
 clear hb1 hb2
 obtain⟨m0,hm0⟩: ∃m,min S.pl.length 5=m:=⟨_,rfl⟩
 have hmz:min ((S.pl.length:Nat):Int) 5=(m0:Int):=by omega
 have hm2:m0≤A.p.c:=by have:=HC.out.p.1;omega
 have hm3:(S.pl.take 5).length=m0:=by rw[List.length_take,Nat.min_comm];exact hm0
 have HM0:Hid _:=hm3
 have cc:=a0B (a0A X0.out.c1) (j:=0) (v:=.slice A.p.a S.pl.length A.p.c) rfl
 have ff:=(a0A X0.out.c1 0 (by show 0<25;decide)).2
 have X1:Aside (By w hh b1 b2 _ y31 A (a3C S) _):=X0.out.set 0 (.slice A.p.a m0 A.p.c)
 clear hm0 hm3
 go_upto_region 2 with fail
 clear cc ff hmz hm2 X0
 generalize W0.setCell ⟨b1,0,none⟩ (.slice A.p.a m0 A.p.c)=W1 at X1 ⊢
 have hXX:(stV A S).set 0 (.slice A.p.a m0 A.p.c)=stV A ({S with pl:=S.pl.take 5}):=by rw[←HM0.out];rfl
 rw[hXX]at X1
 clear hXX
 obtain⟨m1,hm1⟩: ∃m,min S.obs.length 30=m:=⟨_,rfl⟩
 have hmz:min ((S.obs.length:Nat):Int) 30=(m1:Int):=by omega
 have hm2:m1≤A.o.c:=by have:=HC.out.o.1;omega
 have hm3:(S.obs.take 30).length=m1:=by rw[List.length_take,Nat.min_comm];exact hm1
 have HM1:Hid _:=hm3
 have cc:=a0B (a0A X1.out.c1) (j:=1) (v:=.slice A.o.a S.obs.length A.o.c) rfl
 have ff:=(a0A X1.out.c1 1 (by show 1<25;decide)).2
 have X2:Aside (By w hh b1 b2 _ y31 A (a3C S) _):=X1.out.set 1 (.slice A.o.a m1 A.o.c)
 clear hm1 hm3
 go_upto_region 3 with fail
 clear cc ff hmz hm2 X1
 generalize W1.setCell ⟨b1,1,none⟩ (.slice A.o.a m1 A.o.c)=W2 at X2 ⊢
 have hXX:(stV A ({S with pl:=S.pl.take 5})).set 1 (.slice A.o.a m1 A.o.c)=stV A ({S with pl:=S.pl.take 5,obs:=S.obs.take 30}):=by rw[←HM1.out];rfl
 rw[hXX]at X2
 clear hXX
 have cc:=a0B (a0A X2.out.c1) (j:=2) (v:=.slice A.l.a S.libs.length A.l.c) rfl
 have hh1:=H15.out A.l S.libs W2 HC.out.l.1 HC.out.l.2 lo hh (Nat.le_trans hhh X2.out.b.size) (HI.out.l.kp (KI.out _ X2.out.b))
 go_upto_region 4 with(go_at_fn 15;refine hh1.mono ?_;rintro e V3 ⟨A2,rfl,hL,hb⟩;have cc2:=a0B (a0A (X2.out.call hb).c1) (j:=2) (v:=.slice A.l.a S.libs.length A.l.c) rfl;have ff2:=(a0A (X2.out.call hb).c1 2 (by show 2<25;decide)).2;have X3:Aside (By w hh b1 b2 _ y31 ({A with l:=A2}) ({a3C S with libs:=a0X S.libs}) _):=(By.put (A':={A with l:=A2}) (S':={a3C S with libs:=a0X S.libs}) (X2.out.call hb) (fun d=>{d with l:=NstX.new hL (a0L X2.out.c2) (Nat.le_refl _) (Nat.le_trans hhh (X2.out.b.trans (hb.mono X2.out.b.size)).size)})).set 2 (.slice A2.a (a0X S.libs).length A2.c);clear hL hb)
 clear cc cc2 ff2 hh1 X2
 generalize V3.setCell ⟨b1,2,none⟩ (.slice A2.a (a0X S.libs).length A2.c)=W3 at X3 ⊢
 have hXX:(stV A ({S with pl:=S.pl.take 5,obs:=S.obs.take 30})).set 2 (.slice A2.a (a0X S.libs).length A2.c)=stV ({A with l:=A2}) ({S with pl:=S.pl.take 5,obs:=S.obs.take 30,libs:=a0X S.libs}):=rfl
 rw[hXX]at X3
 clear hXX
 have cc:=a0B (a0A X3.out.c1) (j:=3) (v:=.slice A.h.a S.hands.length A.h.c) rfl
 have hh1:=H15.out A.h S.hands W3 HC.out.h.1 HC.out.h.2 lo hh (Nat.le_trans hhh X3.out.b.size) (HI.out.h.kp (KI.out _ X3.out.b))
 go_upto_region 5 with(go_at_fn 15;refine hh1.mono ?_;rintro e V4 ⟨A3,rfl,hL,hb⟩;have cc2:=a0B (a0A (X3.out.call hb).c1) (j:=3) (v:=.slice A.h.a S.hands.length A.h.c) rfl;have ff2:=(a0A (X3.out.call hb).c1 3 (by show 3<25;decide)).2;have X4:Aside (By w hh b1 b2 _ y31 ({A with l:=A2,h:=A3}) ({a3C S with libs:=a0X S.libs,hands:=a0X S.hands}) _):=(By.put (A':={A with l:=A2,h:=A3}) (S':={a3C S with libs:=a0X S.libs,hands:=a0X S.hands}) (X3.out.call hb) (fun d=>{d with h:=NstX.new hL (a0L X3.out.c2) (Nat.le_refl _) (Nat.le_trans hhh (X3.out.b.trans (hb.mono X3.out.b.size)).size)})).set 3 (.slice A3.a (a0X S.hands).length A3.c);clear hL hb)
 clear cc cc2 ff2 hh1 X3
 generalize V4.setCell ⟨b1,3,none⟩ (.slice A3.a (a0X S.hands).length A3.c)=W4 at X4 ⊢
 have hXX:(stV ({A with l:=A2}) ({S with pl:=S.pl.take 5,obs:=S.obs.take 30,libs:=a0X S.libs})).set 3 (.slice A3.a (a0X S.hands).length A3.c)=stV ({A with l:=A2,h:=A3}) ({S with pl:=S.pl.take 5,obs:=S.obs.take 30,libs:=a0X S.libs,hands:=a0X S.hands}):=rfl
 rw[hXX]at X4
 clear hXX
 have cc:=a0B (a0A X4.out.c1) (j:=4) (v:=.slice A.g.a S.graves.length A.g.c) rfl
 have hh1:=H15.out A.g S.graves W4 HC.out.g.1 HC.out.g.2 lo hh (Nat.le_trans hhh X4.out.b.size) (HI.out.g.kp (KI.out _ X4.out.b))
 go_upto_region 6 with(go_at_fn 15;refine hh1.mono ?_;rintro e V5 ⟨A4,rfl,hL,hb⟩;have cc2:=a0B (a0A (X4.out.call hb).c1) (j:=4) (v:=.slice A.g.a S.graves.length A.g.c) rfl;have ff2:=(a0A (X4.out.call hb).c1 4 (by show 4<25;decide)).2;have X5:Aside (By w hh b1 b2 _ y31 ({A with l:=A2,h:=A3,g:=A4}) ({a3C S with libs:=a0X S.libs,hands:=a0X S.hands,graves:=a0X S.graves}) _):=(By.put (A':={A with l:=A2,h:=A3,g:=A4}) (S':={a3C S with libs:=a0X S.libs,hands:=a0X S.hands,graves:=a0X S.graves}) (X4.out.call hb) (fun d=>{d with g:=NstX.new hL (a0L X4.out.c2) (Nat.le_refl _) (Nat.le_trans hhh (X4.out.b.trans (hb.mono X4.out.b.size)).size)})).set 4 (.slice A4.a (a0X S.graves).length A4.c);clear hL hb)
 clear cc cc2 ff2 hh1 X4
 generalize V5.setCell ⟨b1,4,none⟩ (.slice A4.a (a0X S.graves).length A4.c)=W5 at X5 ⊢
 have hXX:(stV ({A with l:=A2,h:=A3}) ({S with pl:=S.pl.take 5,obs:=S.obs.take 30,libs:=a0X S.libs,hands:=a0X S.hands})).set 4 (.slice A4.a (a0X S.graves).length A4.c)=stV ({A with l:=A2,h:=A3,g:=A4}) ({S with pl:=S.pl.take 5,obs:=S.obs.take 30,libs:=a0X S.libs,hands:=a0X S.hands,graves:=a0X S.graves}):=rfl
 rw[hXX]at X5
 clear hXX
 have cc:=a0B (a0A X5.out.c1) (j:=5) (v:=.slice A.x.a S.exiles.length A.x.c) rfl
 have hh1:=H15.out A.x S.exiles W5 HC.out.x.1 HC.out.x.2 lo hh (Nat.le_trans hhh X5.out.b.size) (HI.out.x.kp (KI.out _ X5.out.b))
 go_upto_region 7 with(go_at_fn 15;refine hh1.mono ?_;rintro e V6 ⟨A5,rfl,hL,hb⟩;have cc2:=a0B (a0A (X5.out.call hb).c1) (j:=5) (v:=.slice A.x.a S.exiles.length A.x.c) rfl;have ff2:=(a0A (X5.out.call hb).c1 5 (by show 5<25;decide)).2;have X6:Aside (By w hh b1 b2 _ y31 ({A with l:=A2,h:=A3,g:=A4,x:=A5}) ({a3C S with libs:=a0X S.libs,hands:=a0X S.hands,graves:=a0X S.graves,exiles:=a0X S.exiles}) _):=(By.put (A':={A with l:=A2,h:=A3,g:=A4,x:=A5}) (S':={a3C S with libs:=a0X S.libs,hands:=a0X S.hands,graves:=a0X S.graves,exiles:=a0X S.exiles}) (X5.out.call hb) (fun d=>{d with x:=NstX.new hL (a0L X5.out.c2) (Nat.le_refl _) (Nat.le_trans hhh (X5.out.b.trans (hb.mono X5.out.b.size)).size)})).set 5 (.slice A5.a (a0X S.exiles).length A5.c);clear hL hb)
 clear cc cc2 ff2 hh1 X5
 generalize V6.setCell ⟨b1,5,none⟩ (.slice A5.a (a0X S.exiles).length A5.c)=W6 at X6 ⊢
 have hXX:(stV ({A with l:=A2,h:=A3,g:=A4}) ({S with pl:=S.pl.take 5,obs:=S.obs.take 30,libs:=a0X S.libs,hands:=a0X S.hands,graves:=a0X S.graves})).set 5 (.slice A5.a (a0X S.exiles).length A5.c)=stV ({A with l:=A2,h:=A3,g:=A4,x:=A5}) ({S with pl:=S.pl.take 5,obs:=S.obs.take 30,libs:=a0X S.libs,hands:=a0X S.hands,graves:=a0X S.graves,exiles:=a0X S.exiles}):=rfl
 rw[hXX]at X6
 clear hXX
 obtain⟨m6,hm6⟩: ∃m,min S.field.length 30=m:=⟨_,rfl⟩
 have hmz:min ((S.field.length:Nat):Int) 30=(m6:Int):=by omega
 have hm2:m6≤A.f.c:=by have:=HC.out.f.1;omega
 have hm3:(S.field.take 30).length=m6:=by rw[List.length_take,Nat.min_comm];exact hm6
 have HM6:Hid _:=hm3
 have cc:=a0B (a0A X6.out.c1) (j:=6) (v:=.slice A.f.a S.field.length A.f.c) rfl
 have ff:=(a0A X6.out.c1 6 (by show 6<25;decide)).2
 have X7:Aside (By w hh b1 b2 _ y31 ({A with l:=A2,h:=A3,g:=A4,x:=A5}) ({a3C S with libs:=a0X S.libs,hands:=a0X S.hands,graves:=a0X S.graves,exiles:=a0X S.exiles}) _):=X6.out.set 6 (.slice A.f.a m6 A.f.c)
 clear hm6 hm3
 go_upto_region 8 with fail
 clear cc ff hmz hm2 X6
 generalize W6.setCell ⟨b1,6,none⟩ (.slice A.f.a m6 A.f.c)=W7 at X7 ⊢
 have hXX:(stV ({A with l:=A2,h:=A3,g:=A4,x:=A5}) ({S with pl:=S.pl.take 5,obs:=S.obs.take 30,libs:=a0X S.libs,hands:=a0X S.hands,graves:=a0X S.graves,exiles:=a0X S.exiles})).set 6 (.slice A.f.a m6 A.f.c)=stV ({A with l:=A2,h:=A3,g:=A4,x:=A5}) ({S with pl:=S.pl.take 5,obs:=S.obs.take 30,libs:=a0X S.libs,hands:=a0X S.hands,graves:=a0X S.graves,exiles:=a0X S.exiles,field:=S.field.take 30}):=by rw[←HM6.out];rfl
 rw[hXX]at X7
 clear hXX
 have cc:=a0B (a0A X7.out.c1) (j:=7) (v:=.slice A.s.a S.stack.length A.s.c) rfl
 have hh1:=H16.out A.s S.stack W7 HC.out.s.1 HC.out.s.2 lo hh (Nat.le_trans hhh X7.out.b.size) (HI.out.s.kp (KI.out _ X7.out.b))
 go_upto_region 9 with(go_at_fn 16;refine hh1.mono ?_;rintro e V8 ⟨A7,rfl,hL,hb⟩;have cc2:=a0B (a0A (X7.out.call hb).c1) (j:=7) (v:=.slice A.s.a S.stack.length A.s.c) rfl;have ff2:=(a0A (X7.out.call hb).c1 7 (by show 7<25;decide)).2;have X8:Aside (By w hh b1 b2 _ y31 ({A with l:=A2,h:=A3,g:=A4,x:=A5,s:=A7}) ({a3C S with libs:=a0X S.libs,hands:=a0X S.hands,graves:=a0X S.graves,exiles:=a0X S.exiles,stack:=a2m S.stack}) _):=(By.put (A':={A with l:=A2,h:=A3,g:=A4,x:=A5,s:=A7}) (S':={a3C S with libs:=a0X S.libs,hands:=a0X S.hands,graves:=a0X S.graves,exiles:=a0X S.exiles,stack:=a2m S.stack}) (X7.out.call hb) (fun d=>{d with s:=NstX.new hL (a0L X7.out.c2) (Nat.le_refl _) (Nat.le_trans hhh (X7.out.b.trans (hb.mono X7.out.b.size)).size)})).set 7 (.slice A7.a (a2m S.stack).length A7.c);clear hL hb)
 clear cc cc2 ff2 hh1 X7
 generalize V8.setCell ⟨b1,7,none⟩ (.slice A7.a (a2m S.stack).length A7.c)=W8 at X8 ⊢
 have hXX:(stV ({A with l:=A2,h:=A3,g:=A4,x:=A5}) ({S with pl:=S.pl.take 5,obs:=S.obs.take 30,libs:=a0X S.libs,hands:=a0X S.hands,graves:=a0X S.graves,exiles:=a0X S.exiles,field:=S.field.take 30})).set 7 (.slice A7.a (a2m S.stack).length A7.c)=stV ({A with l:=A2,h:=A3,g:=A4,x:=A5,s:=A7}) ({S with pl:=S.pl.take 5,obs:=S.obs.take 30,libs:=a0X S.libs,hands:=a0X S.hands,graves:=a0X S.graves,exiles:=a0X S.exiles,field:=S.field.take 30,stack:=a2m S.stack}):=rfl
 rw[hXX]at X8
 clear hXX
 have cc:=a0B (a0A X8.out.c1) (j:=8) (v:=.slice A.w.a S.waits.length A.w.c) rfl
 have hh1:=H16.out A.w S.waits W8 HC.out.w.1 HC.out.w.2 lo hh (Nat.le_trans hhh X8.out.b.size) (HI.out.wt.kp (KI.out _ X8.out.b))
 go_upto_region 10 with(go_at_fn 16;refine hh1.mono ?_;rintro e V9 ⟨A8,rfl,hL,hb⟩;have cc2:=a0B (a0A (X8.out.call hb).c1) (j:=8) (v:=.slice A.w.a S.waits.length A.w.c) rfl;have ff2:=(a0A (X8.out.call hb).c1 8 (by show 8<25;decide)).2;have X9:Aside (By w hh b1 b2 _ y31 ({A with l:=A2,h:=A3,g:=A4,x:=A5,s:=A7,w:=A8}) ({a3C S with libs:=a0X S.libs,hands:=a0X S.hands,graves:=a0X S.graves,exiles:=a0X S.exiles,stack:=a2m S.stack,waits:=a2m S.waits}) _):=(By.put (A':={A with l:=A2,h:=A3,g:=A4,x:=A5,s:=A7,w:=A8}) (S':={a3C S with libs:=a0X S.libs,hands:=a0X S.hands,graves:=a0X S.graves,exiles:=a0X S.exiles,stack:=a2m S.stack,waits:=a2m S.waits}) (X8.out.call hb) (fun d=>{d with wt:=NstX.new hL (a0L X8.out.c2) (Nat.le_refl _) (Nat.le_trans hhh (X8.out.b.trans (hb.mono X8.out.b.size)).size)})).set 8 (.slice A8.a (a2m S.waits).length A8.c);clear hL hb)
 clear cc cc2 ff2 hh1 X8
 generalize V9.setCell ⟨b1,8,none⟩ (.slice A8.a (a2m S.waits).length A8.c)=W9 at X9 ⊢
 have hXX:(stV ({A with l:=A2,h:=A3,g:=A4,x:=A5,s:=A7}) ({S with pl:=S.pl.take 5,obs:=S.obs.take 30,libs:=a0X S.libs,hands:=a0X S.hands,graves:=a0X S.graves,exiles:=a0X S.exiles,field:=S.field.take 30,stack:=a2m S.stack})).set 8 (.slice A8.a (a2m S.waits).length A8.c)=stV ({A with l:=A2,h:=A3,g:=A4,x:=A5,s:=A7,w:=A8}) ({S with pl:=S.pl.take 5,obs:=S.obs.take 30,libs:=a0X S.libs,hands:=a0X S.hands,graves:=a0X S.graves,exiles:=a0X S.exiles,field:=S.field.take 30,stack:=a2m S.stack,waits:=a2m S.waits}):=rfl
 rw[hXX]at X9
 clear hXX
 obtain⟨m9,hm9⟩: ∃m,min S.cast.ts.length 4=m:=⟨_,rfl⟩
 have hmz:min ((S.cast.ts.length:Nat):Int) 4=(m9:Int):=by omega
 have hm2:m9≤A.t.c:=by have:=HC.out.t.1;omega
 have hm3:(S.cast.ts.take 4).length=m9:=by rw[List.length_take,Nat.min_comm];exact hm9
 have HM9:Hid _:=hm3
 have cc:=a0B (a0A X9.out.c1) (j:=21) (v:=.slice A.t.a S.cast.ts.length A.t.c) rfl
 have ff:=(a0A X9.out.c1 21 (by show 21<25;decide)).2
 have X10:Aside (By w hh b1 b2 _ y31 ({A with l:=A2,h:=A3,g:=A4,x:=A5,s:=A7,w:=A8}) ({a3C S with libs:=a0X S.libs,hands:=a0X S.hands,graves:=a0X S.graves,exiles:=a0X S.exiles,stack:=a2m S.stack,waits:=a2m S.waits}) _):=X9.out.set 21 (.slice A.t.a m9 A.t.c)
 clear hm9 hm3
 go_upto_region 11 with fail
 clear cc ff hmz hm2 X9
 generalize W9.setCell ⟨b1,21,none⟩ (.slice A.t.a m9 A.t.c)=W10 at X10 ⊢
 have hXX:(stV ({A with l:=A2,h:=A3,g:=A4,x:=A5,s:=A7,w:=A8}) ({S with pl:=S.pl.take 5,obs:=S.obs.take 30,libs:=a0X S.libs,hands:=a0X S.hands,graves:=a0X S.graves,exiles:=a0X S.exiles,field:=S.field.take 30,stack:=a2m S.stack,waits:=a2m S.waits})).set 21 (.slice A.t.a m9 A.t.c)=stV ({A with l:=A2,h:=A3,g:=A4,x:=A5,s:=A7,w:=A8}) ({S with pl:=S.pl.take 5,obs:=S.obs.take 30,libs:=a0X S.libs,hands:=a0X S.hands,graves:=a0X S.graves,exiles:=a0X S.exiles,field:=S.field.take 30,stack:=a2m S.stack,waits:=a2m S.waits,cast:={S.cast with ts:=S.cast.ts.take 4}}):=by rw[←HM9.out];rfl
 rw[hXX]at X10
 clear hXX
 have hSS:({a3C S with libs:=a0X S.libs,hands:=a0X S.hands,graves:=a0X S.graves,exiles:=a0X S.exiles,stack:=a2m S.stack,waits:=a2m S.waits}:Std)=a5m S:=rfl
 rw[hSS]at X10
 generalize ({A with l:=A2,h:=A3,g:=A4,x:=A5,s:=A7,w:=A8}:Lcs)=AF at X10
 have hSG:({S with pl:=S.pl.take 5,obs:=S.obs.take 30,libs:=a0X S.libs,hands:=a0X S.hands,graves:=a0X S.graves,exiles:=a0X S.exiles,field:=S.field.take 30,stack:=a2m S.stack,waits:=a2m S.waits,cast:={S.cast with ts:=S.cast.ts.take 4}}:Std)=a5m S:=rfl
 rw[hSG]at X10
 generalize hSF:stV AF (a5m S)=SF at X10
 have HSF:Hid _:=hSF
 have SFl:SF.length=k31:=by rw[HK1.out,←hSF];rfl
 have SF1: ∀v∈SF,v.oneCell'=true:=by rw[←hSF];exact a4D _ _
 clear hSF hSS hSG
 have lB:=a0I P (a0A X10.out.c1) SFl
 have sB:=a0P P (a0A X10.out.c2) SF (by rw[SFl,HK1.out];exact HY1.out) SF1
 have b2F:=a0Y X10.out.c2 SF (by rw[SFl,HK1.out];exact HY1.out)
 have lF:=a0I P (a0A b2F) SFl
 have BF:Aside _:=a0l X10.out.h3 SF 0 X10.out.b
 have DF:Aside (StX hh b2 (W10.setCells b2 0 SF) AF (a5m S)):=X10.out.d.kx ⟨by rw[a1A];exact Nat.le_refl _,fun j hj _=>a0R (by have:=X10.out.h5;have:=X10.out.h6;omega) SF 0⟩
 clear b2F X10 SF1
 go_wp2
 refine bodyPost_ret (v:=.agg SF.toArray) (by simp[results,go_sem,Try.results6,a31,z31,lF]) rfl ?_
 exact⟨AF,by rw[HSF.out],by rw[←HBX.out];exact DF.out,BF.out⟩
end Go.Proofs.Ytcblehiddfnafaa.canonSame
