/-
  Chapter 28: the program's clones, walked.
-/
import Derived.Test.YtcblehiddfnafaaTxG
import Derived.WalkSpells
namespace Go.Proofs.Ytcblehiddfnafaa.canonSame
open Go.Shelf Go.RowKit Go.Lib Go.Sort
theorem a4m{P:Program}{t e k b:Nat}(ht:P.underlying t=some (.slice e))(hi:Inf P e k b)(hk:0<k){W:World}{α:Type}(f:α→List Value)(l:List α)(hf: ∀x,(f x).length=k)(h1: ∀x,∀u∈f x,u.oneCell'=true){lo hh:Nat}{a:Option Addr}(c:Nat)(hh1:hh≤W.heap.size)(hR:RowsI lo hh W a k (l.map fun x=>(f x).toArray))(h63:l.length≤maxLen)(hby:l.length*b≤140737488355328):
  ∃v' w',(Builtin.append_ #[t,t] t #[.slice (some ⟨W.heap.size,0,none⟩) 0 0,.slice a l.length c]).run P (W.alloc (.cells #[] e))= .ok v' w'∧w'.ownsRow W.heap.size e k v' l.length (l.flatMap f)∧Below W.heap.size W w':=by
 obtain⟨i,z,i1,i2,i3,i4,i5⟩:=hi
 have hR':RowsI lo hh (W.alloc (.cells #[] e)) a k (l.map fun x=>(f x).toArray):=hR.kp (Kp.gr ((Gr.refl W).alloc _) hh1)
 have ol:=World.ownsRow_lit (e:=e) (size:=k) (base:=W.heap.size) W #[] 0 (Nat.le_refl _) (by decide) (by simp)
 obtain⟨v',w',a1,a2,a3⟩:=a2J (P:=P) (ty:=t) (t:=t) (tx:=t) ht ht i1 i2 (by rw[i4];exact i3) (by rw[i4];exact hk) (base:=W.heap.size) (n:=0) (xs:=[]) (by rw[i4];exact ol) a l.length c (l.flatMap f) (by rw[i4,a1W hf]) (fun h=>by
   rcases hR with h'|⟨B,O,e,_⟩
   ·rw[List.map_eq_nil_iff.1 h'];rfl
   ·rw[h]at e;cases e)
  (fun ad had j u hu=>by
   rcases hR' with h'|⟨B,O,e,_,_,h'⟩
   ·rw[List.map_eq_nil_iff.1 h']at hu
    simp at hu
   ·rw[had]at e
    injection e with e
    subst e
    have hj:=(List.getElem?_eq_some_iff.1 hu).1
    rw[a1W hf]at hj
    have hd:j/k<l.length:=(Nat.div_lt_iff_lt_mul hk).2 hj
    have hm:=Nat.mod_lt j hk
    have:=a5B hf l (j/k) (j%k) hd hm
    have ej:j/k*k+j%k=j:=by rw[Nat.mul_comm];exact Nat.div_add_mod j k
    rw[ej,hu]at this
    have:=h' (j/k) (f l[j/k]).toArray (by simp[hd]) (j%k) u (by simpa using this.symm)
    rw[Addr.add_lit]
    rwa [Nat.add_assoc,ej]at this)
  (fun u hu=>by
   obtain⟨x,_,hx⟩:=List.mem_flatMap.1 hu
   exact h1 x u hx) (by omega) (by rw[Nat.zero_add];exact Nat.le_trans (Nat.mul_le_mul_left _ i5) hby) (by simp)
 rw[i4]at a2
 refine⟨v',w',a1,by simpa using a2, ?_⟩
 exact((Below.refl _ _).alloc (Nat.le_refl _) (.cells #[] e)).grown a3 (by simp) fun k hk=>(ol.lt k hk).1
set_option maxHeartbeats 4000000 in
set_option maxRecDepth 100000 in
theorem b2C{P:Program}{k29 k31 k41 k43 k45 k66 k97:Nat}{y29 y31 y41 y43 y45 y66 y97:List Value}(L:LayS P k29 k31 k41 k43 k45 k66 k97 y29 y31 y41 y43 y45 y66 y97)(f63:P.funcs[63]? =some Try.f63)(i3:Inf P 3 1 1000)
  (ia:Option Addr) (l:List Int) (ic:Nat) (w:World) (h63:l.length≤maxLen) (hby:l.length*1000≤140737488355328) {lo hh:Nat} (hh1:hh≤w.heap.size) (hI:RowsI lo hh w ia 1 (l.map fun x=>((fun n:Int=>[Value.int .i64 n]) x).toArray)):
  Calls P 63 #[.slice ia l.length ic] w fun e w'=> ∃lv,e= .returned lv∧w'.ownsRow w.heap.size 3 1 lv l.length (l.flatMap (fun n:Int=>[Value.int .i64 n]))∧Below w.heap.size w w':=by
 have mixed:=L.mixed;have t4:=L.t4;have a4:=L.a4;have z4:=L.z4;have t25:=L.t25;have a25:=L.a25;have z25:=L.z25;have qu25:=run_underlying L.t25
 have t3:=L.t3;have a3:=L.a3;have z3:=L.z3;have v3:=L.v3
 cases ia with
 |none=>
  have hl:l= []:=by
   rcases hI with h|⟨B,O,e,_⟩
   ·exact List.map_eq_nil_iff.1 h
   ·cases e
  subst hl
  have B0:Aside (Below w.heap.size w w):=.refl _ _
  have tn: ∀w,Sem.run P (binOp .eql 25 (.slice none 0 ic) (.slice none 0 0)) w= .ok (.bool true) w:=fun w=>Lib.run_eql_slice_nil w 25 _ none 0 ic 0 0 L.t25
  clear hI h63 hby
  go_enter f63,Try.ntmps63
  go_wp2
  go_returns
  exact⟨_,rfl,World.ownsRow_nil _ _ _ _,B0.out⟩
 |some ad=>
  obtain⟨v',w',hr,ho,hb⟩:=a4m L.t25 i3 (by decide) (fun n:Int=>[Value.int .i64 n]) l (fun _=>rfl) (fun _ u hu=>by rw[List.mem_singleton.1 hu];rfl) ic hh1 hI h63 hby
  have HO:Aside _:=ho
  have HB:Aside (Below w.heap.size w w'):=hb
  have tn: ∀w,Sem.run P (binOp .eql 25 (.slice (some ad) l.length ic) (.slice none 0 0)) w= .ok (.bool false) w:=fun w=>Lib.run_eql_slice_nil w 25 _ (some ad) l.length ic 0 0 L.t25
  clear ho hb hI h63 hby hh1
  go_enter f63,Try.ntmps63
  go_wp2_with (at_builtin;refine a0E rfl _ _ #[25,25] rfl (.slice (some ⟨w.heap.size,0,none⟩) 0 0) (.slice (some ad) l.length ic) rfl rfl _ w' hr ?_)
  go_returns
  exact⟨v',rfl,HO.out,HB.out⟩
set_option maxHeartbeats 4000000 in
set_option maxRecDepth 100000 in
theorem b0j{P:Program}{k29 k31 k41 k43 k45 k66 k97:Nat}{y29 y31 y41 y43 y45 y66 y97:List Value}(L:LayS P k29 k31 k41 k43 k45 k66 k97 y29 y31 y41 y43 y45 y66 y97)(f66:P.funcs[66]? =some Try.f66)(i45:Inf P 45 2 1000)
  (ia:Option Addr) (l:List (Int×Int)) (ic:Nat) (w:World) (h63:l.length≤maxLen) (hby:l.length*1000≤140737488355328) {lo hh:Nat} (hh1:hh≤w.heap.size) (hI:RowsI lo hh w ia 2 (l.map fun x=>((fun p:Int×Int=>[Value.int .i64 p.1,.int .i64 p.2]) x).toArray)):
  Calls P 66 #[.slice ia l.length ic] w fun e w'=> ∃lv,e= .returned lv∧w'.ownsRow w.heap.size 45 2 lv l.length (l.flatMap (fun p:Int×Int=>[Value.int .i64 p.1,.int .i64 p.2]))∧Below w.heap.size w w':=by
 have mixed:=L.mixed;have t4:=L.t4;have a4:=L.a4;have z4:=L.z4;have t27:=L.t27;have a27:=L.a27;have z27:=L.z27;have qu27:=run_underlying L.t27
 have a45:=L.a45;have z45:=L.z45;have v45:=L.v45;have qu45:=run_underlying L.t45
 cases ia with
 |none=>
  have hl:l= []:=by
   rcases hI with h|⟨B,O,e,_⟩
   ·exact List.map_eq_nil_iff.1 h
   ·cases e
  subst hl
  have B0:Aside (Below w.heap.size w w):=.refl _ _
  have tn: ∀w,Sem.run P (binOp .eql 27 (.slice none 0 ic) (.slice none 0 0)) w= .ok (.bool true) w:=fun w=>Lib.run_eql_slice_nil w 27 _ none 0 ic 0 0 L.t27
  clear hI h63 hby
  go_enter f66,Try.ntmps66
  go_wp2
  go_returns
  exact⟨_,rfl,World.ownsRow_nil _ _ _ _,B0.out⟩
 |some ad=>
  obtain⟨v',w',hr,ho,hb⟩:=a4m L.t27 i45 (by decide) (fun p:Int×Int=>[Value.int .i64 p.1,.int .i64 p.2]) l (fun _=>rfl) (fun _ u hu=>by
  simp only[List.mem_cons,List.not_mem_nil,or_false]at hu
  rcases hu with rfl|rfl<;>rfl) ic hh1 hI h63 hby
  have HO:Aside _:=ho
  have HB:Aside (Below w.heap.size w w'):=hb
  have tn: ∀w,Sem.run P (binOp .eql 27 (.slice (some ad) l.length ic) (.slice none 0 0)) w= .ok (.bool false) w:=fun w=>Lib.run_eql_slice_nil w 27 _ (some ad) l.length ic 0 0 L.t27
  clear ho hb hI h63 hby hh1
  go_enter f66,Try.ntmps66
  go_wp2_with (at_builtin;refine a0E rfl _ _ #[27,27] rfl (.slice (some ⟨w.heap.size,0,none⟩) 0 0) (.slice (some ad) l.length ic) rfl rfl _ w' hr ?_)
  go_returns
  exact⟨v',rfl,HO.out,HB.out⟩
set_option maxHeartbeats 4000000 in
set_option maxRecDepth 100000 in
theorem b2D{P:Program}{k29 k31 k41 k43 k45 k66 k97:Nat}{y29 y31 y41 y43 y45 y66 y97:List Value}(L:LayS P k29 k31 k41 k43 k45 k66 k97 y29 y31 y41 y43 y45 y66 y97)(f76:P.funcs[76]? =some Try.f76)(i97:Inf P 97 4 32)
  (ia:Option Addr) (l:List Efd) (ic:Nat) (w:World) (h63:l.length≤maxLen) (hby:l.length*32≤140737488355328) {lo hh:Nat} (hh1:hh≤w.heap.size) (hI:RowsI lo hh w ia 4 (l.map fun x=>(efV x).toArray)):
  Calls P 76 #[.slice ia l.length ic] w fun e w'=> ∃lv,e= .returned lv∧w'.ownsRow w.heap.size 97 4 lv l.length (l.flatMap efV)∧Below w.heap.size w w':=by
 have mixed:=L.mixed;have t4:=L.t4;have a4:=L.a4;have z4:=L.z4;have t39:=L.t39;have a39:=L.a39;have z39:=L.z39;have qu39:=run_underlying L.t39
 have a97:=L.a97;have z97:=L.z97;have v97:=L.v97;have qu97:=run_underlying L.t97
 cases ia with
 |none=>
  have hl:l= []:=by
   rcases hI with h|⟨B,O,e,_⟩
   ·exact List.map_eq_nil_iff.1 h
   ·cases e
  subst hl
  have B0:Aside (Below w.heap.size w w):=.refl _ _
  have tn: ∀w,Sem.run P (binOp .eql 39 (.slice none 0 ic) (.slice none 0 0)) w= .ok (.bool true) w:=fun w=>Lib.run_eql_slice_nil w 39 _ none 0 ic 0 0 L.t39
  clear hI h63 hby
  go_enter f76,Try.ntmps76
  go_wp2
  go_returns
  exact⟨_,rfl,World.ownsRow_nil _ _ _ _,B0.out⟩
 |some ad=>
  obtain⟨v',w',hr,ho,hb⟩:=a4m L.t39 i97 (by decide) efV l (fun _=>rfl) b3T ic hh1 hI h63 hby
  have HO:Aside _:=ho
  have HB:Aside (Below w.heap.size w w'):=hb
  have tn: ∀w,Sem.run P (binOp .eql 39 (.slice (some ad) l.length ic) (.slice none 0 0)) w= .ok (.bool false) w:=fun w=>Lib.run_eql_slice_nil w 39 _ (some ad) l.length ic 0 0 L.t39
  clear ho hb hI h63 hby hh1
  go_enter f76,Try.ntmps76
  go_wp2_with (at_builtin;refine a0E rfl _ _ #[39,39] rfl (.slice (some ⟨w.heap.size,0,none⟩) 0 0) (.slice (some ad) l.length ic) rfl rfl _ w' hr ?_)
  go_returns
  exact⟨v',rfl,HO.out,HB.out⟩
set_option maxHeartbeats 4000000 in
set_option maxRecDepth 100000 in
theorem b3X{P:Program}{k29 k31 k41 k43 k45 k66 k97:Nat}{y29 y31 y41 y43 y45 y66 y97:List Value}(L:LayS P k29 k31 k41 k43 k45 k66 k97 y29 y31 y41 y43 y45 y66 y97)(f59:P.funcs[59]? =some Try.f59)(i66:Inf P 66 8 1000)
  (ia:Option Addr) (l:List Pld) (ic:Nat) (w:World) (h63:l.length≤maxLen) (hby:l.length*1000≤140737488355328) {lo hh:Nat} (hh1:hh≤w.heap.size) (hI:RowsI lo hh w ia 8 (l.map fun x=>(plV x).toArray)):
  Calls P 59 #[.slice ia l.length ic] w fun e w'=> ∃lv,e= .returned lv∧w'.ownsRow w.heap.size 66 8 lv l.length (l.flatMap plV)∧Below w.heap.size w w':=by
 have mixed:=L.mixed;have t4:=L.t4;have a4:=L.a4;have z4:=L.z4;have t22:=L.t22;have a22:=L.a22;have z22:=L.z22;have qu22:=run_underlying L.t22
 have a66:=L.a66;have z66:=L.z66;have v66:=L.v66;have qu66:=run_underlying L.t66
 cases ia with
 |none=>
  have hl:l= []:=by
   rcases hI with h|⟨B,O,e,_⟩
   ·exact List.map_eq_nil_iff.1 h
   ·cases e
  subst hl
  have B0:Aside (Below w.heap.size w w):=.refl _ _
  have tn: ∀w,Sem.run P (binOp .eql 22 (.slice none 0 ic) (.slice none 0 0)) w= .ok (.bool true) w:=fun w=>Lib.run_eql_slice_nil w 22 _ none 0 ic 0 0 L.t22
  clear hI h63 hby
  go_enter f59,Try.ntmps59
  go_wp2
  go_returns
  exact⟨_,rfl,World.ownsRow_nil _ _ _ _,B0.out⟩
 |some ad=>
  obtain⟨v',w',hr,ho,hb⟩:=a4m L.t22 i66 (by decide) plV l (fun _=>rfl) b2c ic hh1 hI h63 hby
  have HO:Aside _:=ho
  have HB:Aside (Below w.heap.size w w'):=hb
  have tn: ∀w,Sem.run P (binOp .eql 22 (.slice (some ad) l.length ic) (.slice none 0 0)) w= .ok (.bool false) w:=fun w=>Lib.run_eql_slice_nil w 22 _ (some ad) l.length ic 0 0 L.t22
  clear ho hb hI h63 hby hh1
  go_enter f59,Try.ntmps59
  go_wp2_with (at_builtin;refine a0E rfl _ _ #[22,22] rfl (.slice (some ⟨w.heap.size,0,none⟩) 0 0) (.slice (some ad) l.length ic) rfl rfl _ w' hr ?_)
  go_returns
  exact⟨v',rfl,HO.out,HB.out⟩
end Go.Proofs.Ytcblehiddfnafaa.canonSame
namespace Go.Proofs.Ytcblehiddfnafaa.canonSame
open Go.Shelf Go.RowKit Go.Lib Go.Sort
set_option maxHeartbeats 8000000 in
set_option maxRecDepth 100000 in
theorem a8r{P:Program}{k29 k31 k41 k43 k45 k66 k97:Nat}{y29 y31 y41 y43 y45 y66 y97:List Value}(L:LayS P k29 k31 k41 k43 k45 k66 k97 y29 y31 y41 y43 y45 y66 y97)(hk:k41=14)(hy3:y41.length=k41)(f61:P.funcs[61]? =some Try.f61)(e76: ∀args w,(callFunc 76 args).run P w= .ok (.enter 76 args) w)
  (hcl: ∀(ia:Option Addr) (l:List Efd) (ic:Nat) (w:World) (_:l.length≤maxLen) (_:l.length*32≤140737488355328) (lo hh:Nat) (_:hh≤w.heap.size) (_:RowsI lo hh w ia 4 (l.map fun x=>(efV x).toArray)),Calls P 76 #[.slice ia l.length ic] w fun e w'=> ∃lv,e= .returned lv∧w'.ownsRow w.heap.size 97 4 lv l.length (l.flatMap efV)∧Below w.heap.size w w')
  (x:Obd) (ia:Option Addr) (ic:Nat) (w:World) (h63:x.effs.length≤maxLen) (hby:x.effs.length*32≤140737488355328) {lo hh:Nat} (hh1:hh≤w.heap.size) (hI:RowsI lo hh w ia 4 (x.effs.map fun x=>(efV x).toArray)):
  Calls P 61 #[.agg (obV x (.slice ia x.effs.length ic)).toArray] w fun e w'=> ∃a c,e= .returned (.agg (obV x (.slice a x.effs.length c)).toArray)∧w'.ownsRow w.heap.size 97 4 (.slice a x.effs.length c) x.effs.length (x.effs.flatMap efV)∧Below w.heap.size w w':=by
 have mixed:=L.mixed;have t3:=L.t3;have a3:=L.a3;have z3:=L.z3;have t4:=L.t4;have a4:=L.a4;have z4:=L.z4;have t39:=L.t39;have a39:=L.a39;have z39:=L.z39;have qu39:=run_underlying L.t39;have qu41:=run_underlying L.t41;have a41:=L.a41;have z41:=L.z41;have v41:=L.v41
 have HK:Hid (k41=14):=hk
 have hy7:14=y41.length:=by rw[hy3,hk]
 have HY:Hid (14=y41.length):=hy7
 obtain⟨g0,c1,c2⟩:=a0W w (obV x (.slice ia x.effs.length ic)) y41 41 41
 have B0:Aside (Below w.heap.size w _):=a0N (.refl _ _) (Nat.le_refl _) g0
 have hc:=hcl ia x.effs ic _ h63 hby lo hh (Nat.le_trans hh1 g0.le) (hI.kp ((Kp.gr g0 hh1)))
 have C1:Aside _:=c1
 have C2:Aside _:=c2
 generalize hX0:obV x (.slice ia x.effs.length ic)=X0 at C1 C2 hc B0
 have HX0:Hid _:=hX0
 have x0l:X0.length=k41:=by rw[HK.out,←HX0.out];rfl
 clear hk hy7 g0 c1 c2 hcl hI hh1 h63 hby hX0
 go_enter f61,Try.ntmps61
 go_upto_region 1 with fail
 have hsz:w.heap.size+2≤((w.alloc (.cells X0.toArray 41)).alloc (.cells y41.toArray 41)).heap.size:=by simp
 generalize (w.alloc (.cells X0.toArray 41)).alloc (.cells y41.toArray 41)=W0 at B0 C1 C2 hc hsz ⊢
 generalize hb2:w.heap.size+1=b2 at C2 ⊢
 generalize hb1:w.heap.size=b1 at C1 C2 ⊢
 have HB2:Hid _:=hb2
 have HB1:Hid _:=hb1
 have HSZ:Aside _:=hsz
 clear hb1 hb2 hsz
 have q0:X0[13]? =some (.slice ia x.effs.length ic):=by rw[←HX0.out];rfl
 have c0:=a0B (a0A C1.out) q0
 go_upto_region 2 with(go_at_fn 76;refine hc.mono ?_;rintro e W2 ⟨v2,rfl,ho2,hb2⟩;obtain⟨a2,c2,rfl⟩:=a0o ho2;have O2:Aside _:=ho2;have BB2:Aside (Below W0.heap.size W0 W2):=hb2;have B4:Aside _:=(hb2.block _ (a0L C1.out)).trans C1.out;have C4:Aside _:=(hb2.block _ (a0L C2.out)).trans C2.out;have f6:=(a0A B4.out 13 (by have:=(List.getElem?_eq_some_iff.1 q0).1;simpa using this)).2;have c6':=a0B (a0A B4.out) q0;clear ho2 hb2)
 have b5:=a1X B4.out 13 (.slice a2 x.effs.length c2)
 have b6:=(a0n (b:=b2) (c:=b1) (by have:=HB1.out;have:=HB2.out;omega) 13 (.slice a2 x.effs.length c2)).trans C4.out
 have hX5:X0.set 13 (.slice a2 x.effs.length c2)=obV x (.slice a2 x.effs.length c2):=by rw[←HX0.out];rfl
 have Bf:=(B0.out.trans (BB2.out.mono B0.out.size)).setCell (p:=⟨b1,13,none⟩) (by show w.heap.size≤b1;have:=HB1.out;omega) (.slice a2 x.effs.length c2)
 have O5:=a1V (ownsRow_setCell_other O2.out (a:=⟨b1,13,none⟩) (fun h=>by have h0:W0.heap.size≤b1:=(World.ownsRow.lt O2.out _ h).1;have:=a0L C1.out;omega) (.slice a2 x.effs.length c2)) (show b2+1≤W0.heap.size from by have:=HSZ.out;have:=HB1.out;have:=HB2.out;omega)
 clear c0 c6' f6 hc C1 C2 B0 BB2 O2 B4 C4 q0
 generalize hX:X0.set 13 (.slice a2 x.effs.length c2)=X5 at b5 hX5
 have HX5:Hid _:=hX5
 have x5l:X5.length=k41:=by rw[←hX,List.length_set];exact x0l
 have x51: ∀u∈X5,u.oneCell'=true:=by rw[hX5];exact a1P _ _ rfl
 clear hX hX5
 generalize W2.setCell ⟨b1,13,none⟩ (.slice a2 x.effs.length c2)=W5 at b5 b6 Bf O5 ⊢
 have lB:=a0I P (a0A b5) x5l
 have sB:=a0P P (a0A b6) X5 (by rw[x5l,hy3]) x51
 have b7:=a0Y b6 X5 (by rw[x5l,hy3])
 have lF:=a0I P (a0A b7) x5l
 have BF:Aside _:=a0l (show w.heap.size≤b2 from by have:=HB2.out;omega) X5 0 Bf
 have OF:Aside (World.ownsRow (W5.setCells b2 0 X5) w.heap.size 97 4 (.slice a2 x.effs.length c2) x.effs.length (x.effs.flatMap efV)):=a1V (O5.kept (a4r b2 X5 0 W5) (.inr fun h=>by have:=(O5.lt _ h).1;omega)) (by have:=HB2.out;omega)
 clear b5 b6 b7 Bf O5 x51
 go_wp2
 refine bodyPost_ret (v:=.agg X5.toArray) (by simp[results,go_sem,Try.results61,a41,z41,lF]) rfl ?_
 exact⟨a2,c2,by rw[HX5.out],OF.out,BF.out⟩
set_option maxHeartbeats 8000000 in
set_option maxRecDepth 100000 in
theorem a4W{P:Program}{k29 k31 k41 k43 k45 k66 k97:Nat}{y29 y31 y41 y43 y45 y66 y97:List Value}(L:LayS P k29 k31 k41 k43 k45 k66 k97 y29 y31 y41 y43 y45 y66 y97)(hk:k43=7)(hy3:y43.length=k43)(f65:P.funcs[65]? =some Try.f65)(e66: ∀args w,(callFunc 66 args).run P w= .ok (.enter 66 args) w)
  (hcl: ∀(ia:Option Addr) (l:List (Int×Int)) (ic:Nat) (w:World) (_:l.length≤maxLen) (_:l.length*1000≤140737488355328) (lo hh:Nat) (_:hh≤w.heap.size) (_:RowsI lo hh w ia 2 (l.map fun x=>((fun p:Int×Int=>[Value.int .i64 p.1,.int .i64 p.2]) x).toArray)),Calls P 66 #[.slice ia l.length ic] w fun e w'=> ∃lv,e= .returned lv∧w'.ownsRow w.heap.size 45 2 lv l.length (l.flatMap (fun p:Int×Int=>[Value.int .i64 p.1,.int .i64 p.2]))∧Below w.heap.size w w')
  (x:Itm) (ia:Option Addr) (ic:Nat) (w:World) (h63:x.ts.length≤maxLen) (hby:x.ts.length*1000≤140737488355328) {lo hh:Nat} (hh1:hh≤w.heap.size) (hI:RowsI lo hh w ia 2 (x.ts.map fun x=>((fun p:Int×Int=>[Value.int .i64 p.1,.int .i64 p.2]) x).toArray)):
  Calls P 65 #[.agg (a0f x (.slice ia x.ts.length ic)).toArray] w fun e w'=> ∃a c,e= .returned (.agg (a0f x (.slice a x.ts.length c)).toArray)∧w'.ownsRow w.heap.size 45 2 (.slice a x.ts.length c) x.ts.length (x.ts.flatMap (fun p:Int×Int=>[Value.int .i64 p.1,.int .i64 p.2]))∧Below w.heap.size w w':=by
 have mixed:=L.mixed;have t3:=L.t3;have a3:=L.a3;have z3:=L.z3;have t4:=L.t4;have a4:=L.a4;have z4:=L.z4;have t27:=L.t27;have a27:=L.a27;have z27:=L.z27;have qu27:=run_underlying L.t27;have qu43:=run_underlying L.t43;have a43:=L.a43;have z43:=L.z43;have v43:=L.v43
 have HK:Hid (k43=7):=hk
 have hy7:7=y43.length:=by rw[hy3,hk]
 have HY:Hid (7=y43.length):=hy7
 obtain⟨g0,c1,c2⟩:=a0W w (a0f x (.slice ia x.ts.length ic)) y43 43 43
 have B0:Aside (Below w.heap.size w _):=a0N (.refl _ _) (Nat.le_refl _) g0
 have hc:=hcl ia x.ts ic _ h63 hby lo hh (Nat.le_trans hh1 g0.le) (hI.kp ((Kp.gr g0 hh1)))
 have C1:Aside _:=c1
 have C2:Aside _:=c2
 generalize hX0:a0f x (.slice ia x.ts.length ic)=X0 at C1 C2 hc B0
 have HX0:Hid _:=hX0
 have x0l:X0.length=k43:=by rw[HK.out,←HX0.out];rfl
 clear hk hy7 g0 c1 c2 hcl hI hh1 h63 hby hX0
 go_enter f65,Try.ntmps65
 go_upto_region 1 with fail
 have hsz:w.heap.size+2≤((w.alloc (.cells X0.toArray 43)).alloc (.cells y43.toArray 43)).heap.size:=by simp
 generalize (w.alloc (.cells X0.toArray 43)).alloc (.cells y43.toArray 43)=W0 at B0 C1 C2 hc hsz ⊢
 generalize hb2:w.heap.size+1=b2 at C2 ⊢
 generalize hb1:w.heap.size=b1 at C1 C2 ⊢
 have HB2:Hid _:=hb2
 have HB1:Hid _:=hb1
 have HSZ:Aside _:=hsz
 clear hb1 hb2 hsz
 have q0:X0[6]? =some (.slice ia x.ts.length ic):=by rw[←HX0.out];rfl
 have c0:=a0B (a0A C1.out) q0
 go_upto_region 2 with(go_at_fn 66;refine hc.mono ?_;rintro e W2 ⟨v2,rfl,ho2,hb2⟩;obtain⟨a2,c2,rfl⟩:=a0o ho2;have O2:Aside _:=ho2;have BB2:Aside (Below W0.heap.size W0 W2):=hb2;have B4:Aside _:=(hb2.block _ (a0L C1.out)).trans C1.out;have C4:Aside _:=(hb2.block _ (a0L C2.out)).trans C2.out;have f6:=(a0A B4.out 6 (by have:=(List.getElem?_eq_some_iff.1 q0).1;simpa using this)).2;have c6':=a0B (a0A B4.out) q0;clear ho2 hb2)
 have b5:=a1X B4.out 6 (.slice a2 x.ts.length c2)
 have b6:=(a0n (b:=b2) (c:=b1) (by have:=HB1.out;have:=HB2.out;omega) 6 (.slice a2 x.ts.length c2)).trans C4.out
 have hX5:X0.set 6 (.slice a2 x.ts.length c2)=a0f x (.slice a2 x.ts.length c2):=by rw[←HX0.out];rfl
 have Bf:=(B0.out.trans (BB2.out.mono B0.out.size)).setCell (p:=⟨b1,6,none⟩) (by show w.heap.size≤b1;have:=HB1.out;omega) (.slice a2 x.ts.length c2)
 have O5:=a1V (ownsRow_setCell_other O2.out (a:=⟨b1,6,none⟩) (fun h=>by have h0:W0.heap.size≤b1:=(World.ownsRow.lt O2.out _ h).1;have:=a0L C1.out;omega) (.slice a2 x.ts.length c2)) (show b2+1≤W0.heap.size from by have:=HSZ.out;have:=HB1.out;have:=HB2.out;omega)
 clear c0 c6' f6 hc C1 C2 B0 BB2 O2 B4 C4 q0
 generalize hX:X0.set 6 (.slice a2 x.ts.length c2)=X5 at b5 hX5
 have HX5:Hid _:=hX5
 have x5l:X5.length=k43:=by rw[←hX,List.length_set];exact x0l
 have x51: ∀u∈X5,u.oneCell'=true:=by rw[hX5];exact a2M _ _ rfl
 clear hX hX5
 generalize W2.setCell ⟨b1,6,none⟩ (.slice a2 x.ts.length c2)=W5 at b5 b6 Bf O5 ⊢
 have lB:=a0I P (a0A b5) x5l
 have sB:=a0P P (a0A b6) X5 (by rw[x5l,hy3]) x51
 have b7:=a0Y b6 X5 (by rw[x5l,hy3])
 have lF:=a0I P (a0A b7) x5l
 have BF:Aside _:=a0l (show w.heap.size≤b2 from by have:=HB2.out;omega) X5 0 Bf
 have OF:Aside (World.ownsRow (W5.setCells b2 0 X5) w.heap.size 45 2 (.slice a2 x.ts.length c2) x.ts.length (x.ts.flatMap (fun p:Int×Int=>[Value.int .i64 p.1,.int .i64 p.2]))):=a1V (O5.kept (a4r b2 X5 0 W5) (.inr fun h=>by have:=(O5.lt _ h).1;omega)) (by have:=HB2.out;omega)
 clear b5 b6 b7 Bf O5 x51
 go_wp2
 refine bodyPost_ret (v:=.agg X5.toArray) (by simp[results,go_sem,Try.results65,a43,z43,lF]) rfl ?_
 exact⟨a2,c2,by rw[HX5.out],OF.out,BF.out⟩
end Go.Proofs.Ytcblehiddfnafaa.canonSame
namespace Go.Proofs.Ytcblehiddfnafaa.canonSame
open Go.Shelf Go.RowKit Go.Lib Go.Sort
structure Nd{α β:Type}(w:World)(bs e1 k e2 m:Nat)(lv:Value)(T:List (Value×α))(f:α→Value→List Value)(inn:α→List β)(g:β→List Value)(W:World):Prop where
 n:Nw w bs e1 k e2 m lv T f inn g W
 p:T.Pairwise fun p q=>p.1.ownBlock=none∨p.1.ownBlock≠q.1.ownBlock
section
variable{α β:Type}{w:World}{bs e1 k e2 m:Nat}{lv:Value}{T:List (Value×α)}{f:α→Value→List Value}{inn:α→List β}{g:β→List Value}{W W':World}
theorem Nd.start(w:World)(e1 k e2 m:Nat)(f:α→Value→List Value)(inn:α→List β)(g:β→List Value):Nd w w.heap.size e1 k e2 m (.slice none 0 0) [] f inn g w:=⟨Nw.start _ _ _ _ _ _ _ _,.nil⟩
theorem Nd.bel(h:Nd w bs e1 k e2 m lv T f inn g W)(q:Below W.heap.size W W'):Nd w bs e1 k e2 m lv T f inn g W':=⟨h.n.bel q,h.p⟩
theorem Nd.app{lv':Value}{N:Nat}(h:Nd w bs e1 k e2 m lv T f inn g W)(he:e2≠e1)(hN: ∀p∈T,∀b,p.1.ownBlock=some b→b<N)(x:Value×α)(hx:W.ownsRow N e2 m x.1 (inn x.2).length ((inn x.2).flatMap g))(hb:bs≤N)(q:W.grownBy W' lv.ownBlock)(o:W'.ownsRow bs e1 k lv' (T.length+1) ((T.flatMap fun p=>f p.2 p.1)++f x.2 x.1)):Nd w bs e1 k e2 m lv' (T++ [x]) f inn g W':=
 ⟨h.n.app he x (a1V hx hb) q o,by
  rw[List.pairwise_append]
  refine⟨h.p,List.pairwise_singleton _ _,fun p hp y hy=> ?_⟩
  rw[List.mem_singleton.1 hy]
  cases hv:p.1.ownBlock with
  |none=>exact .inl rfl
  |some b=>
   refine .inr fun e=> ?_
   have h1:=hN p hp b hv
   have h2:=(hx.lt b e.symm).1
   omega⟩
theorem Nd.lt(h:Nd w bs e1 k e2 m lv T f inn g W): ∀p∈T,∀b,p.1.ownBlock=some b→b<W.heap.size:=fun p hp b hb=>((h.n.e p hp).lt b hb).2
end
set_option maxHeartbeats 8000000 in
set_option maxRecDepth 100000 in
theorem a8W{P:Program}{k29 k31 k41 k43 k45 k66 k97:Nat}{y29 y31 y41 y43 y45 y66 y97:List Value}(L:LayS P k29 k31 k41 k43 k45 k66 k97 y29 y31 y41 y43 y45 y66 y97)(hk:k41=14)(hy3:y41.length=k41)(f60:P.funcs[60]? =some Try.f60)(e61: ∀args w,(callFunc 61 args).run P w= .ok (.enter 61 args) w)(i41:Inf P 41 14 1000)
  (hcl: ∀(x:Obd) (ia:Option Addr) (ic:Nat) (w:World) (_:x.effs.length≤maxLen) (_:x.effs.length*32≤140737488355328) (lo hh:Nat) (_:hh≤w.heap.size) (_:RowsI lo hh w ia 4 (x.effs.map fun x=>(efV x).toArray)),
   Calls P 61 #[.agg (obV x (.slice ia x.effs.length ic)).toArray] w fun e w'=> ∃a c,e= .returned (.agg (obV x (.slice a x.effs.length c)).toArray)∧w'.ownsRow w.heap.size 97 4 (.slice a x.effs.length c) x.effs.length (x.effs.flatMap efV)∧Below w.heap.size w w')
  (A:Loc) (xs:List Obd) (w:World) (hn:xs.length≤900) (hin: ∀x∈xs,x.effs.length≤maxLen∧x.effs.length*32≤140737488355328) {lo hh:Nat} (hhh:hh≤w.heap.size) (hI:Nst lo hh w A 14 4 xs obV Obd.effs efV):
  Calls P 60 #[.slice A.a xs.length A.c,.func (.func 61) #[] #[]] w fun e w'=> ∃lv,e= .returned lv∧ ∃T,T.map (·.2)=xs∧Nd w w.heap.size 41 14 97 4 lv T obV Obd.effs efV w':=by
 have mixed:=L.mixed;have t3:=L.t3;have a3:=L.a3;have z3:=L.z3;have v3:=L.v3;have qu3:=run_underlying L.t3;have t4:=L.t4;have a4:=L.a4;have z4:=L.z4;have t23:=L.t23;have a23:=L.a23;have z23:=L.z23;have qu23:=run_underlying L.t23;have qu41:=run_underlying L.t41;have a41:=L.a41;have z41:=L.z41;have v41:=L.v41
 have N0:Aside _:=(Nd.start w 41 14 97 4 obV Obd.effs efV)
 have HCL:Aside _:=hcl
 have HI:Aside (Nst lo hh w A 14 4 xs obV Obd.effs efV):=hI
 have HIN:Aside _:=hin
 generalize hA:A.a=ia
 have HA:Hid (A.a=ia):=hA
 have HK:Hid (k41=14):=hk
 have hy7:14=y41.length:=by rw[hy3,hk]
 have HY:Hid (14=y41.length):=hy7
 clear hy7 hcl hI hin hA hk
 go_enter f60,Try.ntmps60
 go_wp2
 go_loopg [5,10] xs.length (fun kx s5 s10 wr=> ∃(i:Nat) (v:Value) (T:List (Value×Obd)),v=s5∧s10= .int .i64 i∧i≤xs.length∧xs.length-i≤kx∧T.map (·.2)=xs.take i∧Aside (Nd w w.heap.size 41 14 97 4 v T obV Obd.effs efV wr))
 case atStart=>exact⟨0,_,[],rfl,rfl,Nat.zero_le _,Nat.le_refl _,rfl,N0⟩
 case round=>
  clear N0
  obtain⟨i,v,T,rfl,rfl,hi,hkx,hM,N1⟩:=hrel
  have HM:Hid _:=hM
  clear hM
  have wj:IntKind.i64.wrap ((i:Int)+1)=(i:Int)+1:=by rw[IntKind.wrap_i64];omega
  by_cases hlt:i<xs.length
  ·have hltz:(i:Int)<(xs.length:Int):=by omega
   obtain⟨B,O,hB,_,_,hc⟩:=HI.out.ld P hlt rfl
   rw[HA.out]at hB
   subst hB
   have q0:Kp lo hh w wr:=(Kp.below N1.out.n.i.b lo).mono (Nat.le_refl _) hhh
   have lA:=hc wr q0
   rw[←HK.out]at lA
   have hE:=HI.out.e i _ (List.getElem?_eq_getElem hlt)
   have hTs:=HIN.out _ (List.getElem_mem hlt)
   have hTl:T.length=i:=by
    have:=congrArg List.length HM.out
    rw[List.length_map,List.length_take]at this
    omega
   have hT:xs.take (i+1)=xs.take i++ [xs[i]]:=by
    rw[List.take_succ_eq_append_getElem hlt]
   clear hc q0
   generalize xs[i]=x at lA hE hT hTs
   have hT2: ∀v2:Value,(T++ [(v2,x)]).map (·.2)=xs.take (i+1):=fun v2=>by rw[hT,List.map_append,HM.out];rfl
   have HT2:Hid _:=hT2
   have HTL:Hid _:=hTl
   have HE:Aside (RowsI lo hh w (A.ad i) 4 (x.effs.map fun x=>(efV x).toArray)):=hE
   have HTS:Aside _:=hTs
   clear hT2 hTl hE hT hTs
   have sA:=a0P P (a0q wr y41 41) (obV x (.slice (A.ad i) x.effs.length (A.cp i))) HY.out (a1P _ _ rfl)
   have g1:Below wr.heap.size wr ((wr.alloc (.cells y41.toArray 41)).setCells wr.heap.size 0 (obV x (.slice (A.ad i) x.effs.length (A.cp i)))):=a0N (.refl _ _) (Nat.le_refl _) (Gr.sets (W:=wr) _ (Nat.le_refl _) _ _ ((Gr.refl _).alloc _))
   have b1:=a0Y (a0T wr (.cells y41.toArray 41)) (obV x (.slice (A.ad i) x.effs.length (A.cp i))) HY.out
   have hc1:=HCL.out x (A.ad i) (A.cp i) _ HTS.out.1 HTS.out.2 lo hh (Nat.le_trans hhh (N1.out.n.i.b.trans (g1.mono N1.out.n.i.hs)).size) (RowsI.kp HE.out ((Kp.below (N1.out.n.i.b.trans (g1.mono N1.out.n.i.hs)) lo).mono (Nat.le_refl _) hhh))
   have G1:Aside (Below wr.heap.size wr _):=g1
   have B1:Aside _:=b1
   clear g1 b1
   generalize hX0:obV x (.slice (A.ad i) x.effs.length (A.cp i))=X0 at lA sA G1 B1 hc1
   have HX0:Hid _:=hX0
   have x1':X0.length=k41:=by rw[HK.out,←HX0.out];rfl
   clear hX0
   go_upto_region 5 with fail
   clear lA sA
   generalize (wr.alloc (.cells y41.toArray 41)).setCells wr.heap.size 0 X0=W1 at G1 B1 hc1 ⊢
   have lB:=a0I P (a0A B1.out) x1'
   have HC1:Aside _:=hc1
   have hc2:Calls P 61 #[.agg X0.toArray] W1 fun e w'=> ∃X5:List Value,e= .returned (.agg X5.toArray)∧X5.length=k41∧(∀u∈X5,u.oneCell'=true)∧Aside (∃a c,X5=obV x (.slice a x.effs.length c)∧w'.ownsRow W1.heap.size 97 4 (.slice a x.effs.length c) x.effs.length (x.effs.flatMap efV))∧Aside (Below W1.heap.size W1 w'):=by
    refine Calls.mono hc1 ?_
    rintro e w' ⟨a,c,rfl,ho,hb⟩
    exact⟨_,rfl,by rw[HK.out];rfl,a1P _ _ rfl,⟨a,c,rfl,ho⟩,hb⟩
   clear hc1 HC1
   have kb1: ¬16777216<k41:=by have:=HK.out;omega
   have kb2: ¬k41=0:=by have:=HK.out;omega
   have HV:Aside (i≤900):=by show i≤900;omega
   go_wp2_with (first|((first|go_at_fn 61|go_at_call 61);refine hc2.mono ?_;rintro e W4 ⟨X5,rfl,x5l,x51,HXX,BB2⟩;have N5:Aside _:=(N1.out.bel G1.out).bel BB2.out;obtain⟨v',w6,hr,ho6,hg6⟩:=a1Y t23 i41 (by decide) (T.flatMap fun p=>obV p.2 p.1) X5 (by rw[x5l,HK.out]) x51 N5.out.n.i.o N5.out.n.i.hs (by have:=HTL.out;have:=HV.out;omega);have N7:Aside (∃x2:Value×Obd,x2.2=x∧Nd w w.heap.size 41 14 97 4 v' (T++ [x2]) obV Obd.effs efV w6):=(by
     obtain⟨a,c,hX5,ho2⟩:=HXX.out
     have g7:Below W4.heap.size W4 (W4.alloc (.cells X5.toArray 41)):=a0N (.refl _ _) (Nat.le_refl _) ((Gr.refl _).alloc _)
     exact⟨(.slice a x.effs.length c,x),rfl,(N5.out.bel g7).app (by decide) (N:=W1.heap.size) (N1.out.bel G1.out).lt (.slice a x.effs.length c,x) (a1K ho2 g7) (Nat.le_trans N1.out.n.i.hs G1.out.size) hg6 (by rw[←hX5];exact ho6)⟩);have hfc:=a1h y41 X5 x5l;clear ho6 hg6 x51 N5)|(at_builtin;refine a0E rfl _ _ #[23,23] rfl v (.slice (some ⟨W4.heap.size,0,none⟩) 1 1) rfl rfl _ w6 hr ?_))
   obtain⟨x2,hx2,N8⟩:=N7.out
   have HX2:Hid (T++ [x2]=T++ [(x2.1,x)]):=by rw[←hx2];rfl
   clear hx2
   go_roundg (xs.length-(i+1))
   case measure=>omega
   case rel=>exact⟨i+1,v',T++ [x2],rfl,by first|rfl|go_num,by omega,Nat.le_refl _,by rw[HX2.out];exact HT2.out _,N8⟩
  ·have hltz: ¬(i:Int)<(xs.length:Int):=by omega
   obtain rfl:i=xs.length:=by omega
   have hT:=HM.out
   rw[List.take_length]at hT
   have HT:Hid _:=hT
   clear hT
   go_wp2
   go_returns
   exact⟨v,rfl,T,HT.out,N1.out⟩
set_option maxHeartbeats 8000000 in
set_option maxRecDepth 100000 in
theorem a3y{P:Program}{k29 k31 k41 k43 k45 k66 k97:Nat}{y29 y31 y41 y43 y45 y66 y97:List Value}(L:LayS P k29 k31 k41 k43 k45 k66 k97 y29 y31 y41 y43 y45 y66 y97)(hk:k43=7)(hy3:y43.length=k43)(f64:P.funcs[64]? =some Try.f64)(e65: ∀args w,(callFunc 65 args).run P w= .ok (.enter 65 args) w)(i43:Inf P 43 7 1000)
  (hcl: ∀(x:Itm) (ia:Option Addr) (ic:Nat) (w:World) (_:x.ts.length≤maxLen) (_:x.ts.length*1000≤140737488355328) (lo hh:Nat) (_:hh≤w.heap.size) (_:RowsI lo hh w ia 2 (x.ts.map fun x=>((fun p:Int×Int=>[Value.int .i64 p.1,.int .i64 p.2]) x).toArray)),
   Calls P 65 #[.agg (a0f x (.slice ia x.ts.length ic)).toArray] w fun e w'=> ∃a c,e= .returned (.agg (a0f x (.slice a x.ts.length c)).toArray)∧w'.ownsRow w.heap.size 45 2 (.slice a x.ts.length c) x.ts.length (x.ts.flatMap (fun p:Int×Int=>[Value.int .i64 p.1,.int .i64 p.2]))∧Below w.heap.size w w')
  (A:Loc) (xs:List Itm) (w:World) (hn:xs.length≤900) (hin: ∀x∈xs,x.ts.length≤maxLen∧x.ts.length*1000≤140737488355328) {lo hh:Nat} (hhh:hh≤w.heap.size) (hI:Nst lo hh w A 7 2 xs a0f Itm.ts (fun p:Int×Int=>[Value.int .i64 p.1,.int .i64 p.2])):
  Calls P 64 #[.slice A.a xs.length A.c,.func (.func 65) #[] #[]] w fun e w'=> ∃lv,e= .returned lv∧ ∃T,T.map (·.2)=xs∧Nd w w.heap.size 43 7 45 2 lv T a0f Itm.ts (fun p:Int×Int=>[Value.int .i64 p.1,.int .i64 p.2]) w':=by
 have mixed:=L.mixed;have t3:=L.t3;have a3:=L.a3;have z3:=L.z3;have v3:=L.v3;have qu3:=run_underlying L.t3;have t4:=L.t4;have a4:=L.a4;have z4:=L.z4;have t26:=L.t26;have a26:=L.a26;have z26:=L.z26;have qu26:=run_underlying L.t26;have qu43:=run_underlying L.t43;have a43:=L.a43;have z43:=L.z43;have v43:=L.v43
 have N0:Aside _:=(Nd.start w 43 7 45 2 a0f Itm.ts (fun p:Int×Int=>[Value.int .i64 p.1,.int .i64 p.2]))
 have HCL:Aside _:=hcl
 have HI:Aside (Nst lo hh w A 7 2 xs a0f Itm.ts (fun p:Int×Int=>[Value.int .i64 p.1,.int .i64 p.2])):=hI
 have HIN:Aside _:=hin
 generalize hA:A.a=ia
 have HA:Hid (A.a=ia):=hA
 have HK:Hid (k43=7):=hk
 have hy7:7=y43.length:=by rw[hy3,hk]
 have HY:Hid (7=y43.length):=hy7
 clear hy7 hcl hI hin hA hk
 go_enter f64,Try.ntmps64
 go_wp2
 go_loopg [5,10] xs.length (fun kx s5 s10 wr=> ∃(i:Nat) (v:Value) (T:List (Value×Itm)),v=s5∧s10= .int .i64 i∧i≤xs.length∧xs.length-i≤kx∧T.map (·.2)=xs.take i∧Aside (Nd w w.heap.size 43 7 45 2 v T a0f Itm.ts (fun p:Int×Int=>[Value.int .i64 p.1,.int .i64 p.2]) wr))
 case atStart=>exact⟨0,_,[],rfl,rfl,Nat.zero_le _,Nat.le_refl _,rfl,N0⟩
 case round=>
  clear N0
  obtain⟨i,v,T,rfl,rfl,hi,hkx,hM,N1⟩:=hrel
  have HM:Hid _:=hM
  clear hM
  have wj:IntKind.i64.wrap ((i:Int)+1)=(i:Int)+1:=by rw[IntKind.wrap_i64];omega
  by_cases hlt:i<xs.length
  ·have hltz:(i:Int)<(xs.length:Int):=by omega
   obtain⟨B,O,hB,_,_,hc⟩:=HI.out.ld P hlt rfl
   rw[HA.out]at hB
   subst hB
   have q0:Kp lo hh w wr:=(Kp.below N1.out.n.i.b lo).mono (Nat.le_refl _) hhh
   have lA:=hc wr q0
   rw[←HK.out]at lA
   have hE:=HI.out.e i _ (List.getElem?_eq_getElem hlt)
   have hTs:=HIN.out _ (List.getElem_mem hlt)
   have hTl:T.length=i:=by
    have:=congrArg List.length HM.out
    rw[List.length_map,List.length_take]at this
    omega
   have hT:xs.take (i+1)=xs.take i++ [xs[i]]:=by
    rw[List.take_succ_eq_append_getElem hlt]
   clear hc q0
   generalize xs[i]=x at lA hE hT hTs
   have hT2: ∀v2:Value,(T++ [(v2,x)]).map (·.2)=xs.take (i+1):=fun v2=>by rw[hT,List.map_append,HM.out];rfl
   have HT2:Hid _:=hT2
   have HTL:Hid _:=hTl
   have HE:Aside (RowsI lo hh w (A.ad i) 2 (x.ts.map fun x=>((fun p:Int×Int=>[Value.int .i64 p.1,.int .i64 p.2]) x).toArray)):=hE
   have HTS:Aside _:=hTs
   clear hT2 hTl hE hT hTs
   have sA:=a0P P (a0q wr y43 43) (a0f x (.slice (A.ad i) x.ts.length (A.cp i))) HY.out (a2M _ _ rfl)
   have g1:Below wr.heap.size wr ((wr.alloc (.cells y43.toArray 43)).setCells wr.heap.size 0 (a0f x (.slice (A.ad i) x.ts.length (A.cp i)))):=a0N (.refl _ _) (Nat.le_refl _) (Gr.sets (W:=wr) _ (Nat.le_refl _) _ _ ((Gr.refl _).alloc _))
   have b1:=a0Y (a0T wr (.cells y43.toArray 43)) (a0f x (.slice (A.ad i) x.ts.length (A.cp i))) HY.out
   have hc1:=HCL.out x (A.ad i) (A.cp i) _ HTS.out.1 HTS.out.2 lo hh (Nat.le_trans hhh (N1.out.n.i.b.trans (g1.mono N1.out.n.i.hs)).size) (RowsI.kp HE.out ((Kp.below (N1.out.n.i.b.trans (g1.mono N1.out.n.i.hs)) lo).mono (Nat.le_refl _) hhh))
   have G1:Aside (Below wr.heap.size wr _):=g1
   have B1:Aside _:=b1
   clear g1 b1
   generalize hX0:a0f x (.slice (A.ad i) x.ts.length (A.cp i))=X0 at lA sA G1 B1 hc1
   have HX0:Hid _:=hX0
   have x1':X0.length=k43:=by rw[HK.out,←HX0.out];rfl
   clear hX0
   go_upto_region 5 with fail
   clear lA sA
   generalize (wr.alloc (.cells y43.toArray 43)).setCells wr.heap.size 0 X0=W1 at G1 B1 hc1 ⊢
   have lB:=a0I P (a0A B1.out) x1'
   have HC1:Aside _:=hc1
   have hc2:Calls P 65 #[.agg X0.toArray] W1 fun e w'=> ∃X5:List Value,e= .returned (.agg X5.toArray)∧X5.length=k43∧(∀u∈X5,u.oneCell'=true)∧Aside (∃a c,X5=a0f x (.slice a x.ts.length c)∧w'.ownsRow W1.heap.size 45 2 (.slice a x.ts.length c) x.ts.length (x.ts.flatMap (fun p:Int×Int=>[Value.int .i64 p.1,.int .i64 p.2])))∧Aside (Below W1.heap.size W1 w'):=by
    refine Calls.mono hc1 ?_
    rintro e w' ⟨a,c,rfl,ho,hb⟩
    exact⟨_,rfl,by rw[HK.out];rfl,a2M _ _ rfl,⟨a,c,rfl,ho⟩,hb⟩
   clear hc1 HC1
   have kb1: ¬16777216<k43:=by have:=HK.out;omega
   have kb2: ¬k43=0:=by have:=HK.out;omega
   have HV:Aside (i≤900):=by show i≤900;omega
   go_wp2_with (first|((first|go_at_fn 65|go_at_call 65);refine hc2.mono ?_;rintro e W4 ⟨X5,rfl,x5l,x51,HXX,BB2⟩;have N5:Aside _:=(N1.out.bel G1.out).bel BB2.out;obtain⟨v',w6,hr,ho6,hg6⟩:=a1Y t26 i43 (by decide) (T.flatMap fun p=>a0f p.2 p.1) X5 (by rw[x5l,HK.out]) x51 N5.out.n.i.o N5.out.n.i.hs (by have:=HTL.out;have:=HV.out;omega);have N7:Aside (∃x2:Value×Itm,x2.2=x∧Nd w w.heap.size 43 7 45 2 v' (T++ [x2]) a0f Itm.ts (fun p:Int×Int=>[Value.int .i64 p.1,.int .i64 p.2]) w6):=(by
     obtain⟨a,c,hX5,ho2⟩:=HXX.out
     have g7:Below W4.heap.size W4 (W4.alloc (.cells X5.toArray 43)):=a0N (.refl _ _) (Nat.le_refl _) ((Gr.refl _).alloc _)
     exact⟨(.slice a x.ts.length c,x),rfl,(N5.out.bel g7).app (by decide) (N:=W1.heap.size) (N1.out.bel G1.out).lt (.slice a x.ts.length c,x) (a1K ho2 g7) (Nat.le_trans N1.out.n.i.hs G1.out.size) hg6 (by rw[←hX5];exact ho6)⟩);have hfc:=a1h y43 X5 x5l;clear ho6 hg6 x51 N5)|(at_builtin;refine a0E rfl _ _ #[26,26] rfl v (.slice (some ⟨W4.heap.size,0,none⟩) 1 1) rfl rfl _ w6 hr ?_))
   obtain⟨x2,hx2,N8⟩:=N7.out
   have HX2:Hid (T++ [x2]=T++ [(x2.1,x)]):=by rw[←hx2];rfl
   clear hx2
   go_roundg (xs.length-(i+1))
   case measure=>omega
   case rel=>exact⟨i+1,v',T++ [x2],rfl,by first|rfl|go_num,by omega,Nat.le_refl _,by rw[HX2.out];exact HT2.out _,N8⟩
  ·have hltz: ¬(i:Int)<(xs.length:Int):=by omega
   obtain rfl:i=xs.length:=by omega
   have hT:=HM.out
   rw[List.take_length]at hT
   have HT:Hid _:=hT
   clear hT
   go_wp2
   go_returns
   exact⟨v,rfl,T,HT.out,N1.out⟩
set_option maxHeartbeats 4000000 in
set_option maxRecDepth 100000 in
theorem a1q{P:Program}{k29 k31 k41 k43 k45 k66 k97:Nat}{y29 y31 y41 y43 y45 y66 y97:List Value}(L:LayS P k29 k31 k41 k43 k45 k66 k97 y29 y31 y41 y43 y45 y66 y97)(f62:P.funcs[62]? =some Try.f62)(e63: ∀args w,(callFunc 63 args).run P w= .ok (.enter 63 args) w)(i25:Inf P 25 1 1000)
  (hcl: ∀(ia:Option Addr) (l:List Int) (ic:Nat) (w:World) (_:l.length≤maxLen) (_:l.length*1000≤140737488355328) (lo hh:Nat) (_:hh≤w.heap.size) (_:RowsI lo hh w ia 1 (l.map fun n=> #[Value.int .i64 n])),Calls P 63 #[.slice ia l.length ic] w fun e w'=> ∃lv,e= .returned lv∧w'.ownsRow w.heap.size 3 1 lv l.length (l.flatMap fun n=>[Value.int .i64 n])∧Below w.heap.size w w')
  (A:Loc) (ls:List (List Int)) (w:World) (hn:ls.length≤900) (hin: ∀l∈ls,l.length≤900) {lo hh:Nat} (hhh:hh≤w.heap.size) (hI:LstI lo hh w A ls):
  Calls P 62 #[.slice A.a ls.length A.c,.func (.func 63) #[] #[]] w fun e w'=> ∃lv,e= .returned lv∧ ∃T,T.map (·.2)=ls∧Nd (α:=List Int) (β:=Int) w w.heap.size 25 1 3 1 lv T (fun _ v=>[v]) id (fun n=>[.int .i64 n]) w':=by
 have mixed:=L.mixed;have t3:=L.t3;have a3:=L.a3;have z3:=L.z3;have v3:=L.v3;have qu3:=run_underlying L.t3;have t4:=L.t4;have a4:=L.a4;have z4:=L.z4;have t25:=L.t25;have a25:=L.a25;have z25:=L.z25;have v25:=L.v25;have qu25:=run_underlying L.t25;have t24:=L.t24;have a24:=L.a24;have z24:=L.z24;have qu24:=run_underlying L.t24
 have N0:Aside _:=(Nd.start w 25 1 3 1 _ _ _:Nd (α:=List Int) (β:=Int) w w.heap.size 25 1 3 1 (.slice none 0 0) [] (fun _ v=>[v]) id (fun n=>[.int .i64 n]) w)
 have HCL:Aside _:=hcl
 have HI:Aside (LstI lo hh w A ls):=hI
 have HIN:Aside _:=hin
 generalize hA:A.a=ia
 have HA:Hid (A.a=ia):=hA
 clear hcl hI hin hA
 go_enter f62,Try.ntmps62
 go_wp2
 go_loopg [5,10] ls.length (fun kx s5 s10 wr=> ∃(i:Nat) (v:Value) (T:List (Value×List Int)),v=s5∧s10= .int .i64 i∧i≤ls.length∧ls.length-i≤kx∧T.map (·.2)=ls.take i∧Aside (Nd (α:=List Int) (β:=Int) w w.heap.size 25 1 3 1 v T (fun _ v=>[v]) id (fun n=>[.int .i64 n]) wr))
 case atStart=>exact⟨0,_,[],rfl,rfl,Nat.zero_le _,Nat.le_refl _,rfl,N0⟩
 case round=>
  clear N0
  obtain⟨i,v,T,rfl,rfl,hi,hkx,hM,N1⟩:=hrel
  have HM:Hid _:=hM
  clear hM
  have wj:IntKind.i64.wrap ((i:Int)+1)=(i:Int)+1:=by rw[IntKind.wrap_i64];omega
  by_cases hlt:i<ls.length
  ·have hltz:(i:Int)<(ls.length:Int):=by omega
   obtain⟨B,O,hB,hc⟩:=HI.out.rd hlt
   rw[HA.out]at hB
   subst hB
   have q0:Kp lo hh w wr:=(Kp.below N1.out.n.i.b lo).mono (Nat.le_refl _) hhh
   have c0:=hc wr q0
   have hl9:=HIN.out _ (List.getElem_mem hlt)
   have h:=HCL.out (A.ad i) ls[i] (A.cp i) wr (by unfold maxLen;omega) (by omega) lo hh (Nat.le_trans hhh N1.out.n.i.b.size) ((HI.out.e i _ (List.getElem?_eq_getElem hlt)).kp q0)
   have hT:ls.take (i+1)=ls.take i++ [ls[i]]:=by
    rw[List.take_succ_eq_append_getElem hlt]
   have hTl:T.length=i:=by
    have:=congrArg List.length HM.out
    rw[List.length_map,List.length_take]at this
    omega
   clear hc q0 hl9
   generalize ls[i]=l at c0 h hT
   have HT:Hid _:=hT
   have HTL:Hid _:=hTl
   clear hT hTl
   have hT2: ∀v2:Value,(T++ [(v2,l)]).map (·.2)=ls.take (i+1):=fun v2=>by rw[HT.out,List.map_append,HM.out];rfl
   have HT2:Hid _:=hT2
   clear hT2
   go_wp2_with (first|((first|go_at_fn 63|go_at_call 63);refine h.mono ?_;rintro e w2 ⟨v2,rfl,ho2,hb2⟩;obtain⟨a2,c2,rfl⟩:=a0o ho2;have N2:Aside _:=N1.out.bel hb2;obtain⟨v',w3,hr,ho3,hg3⟩:=a1Y t24 i25 (by decide) (T.flatMap fun p=>[p.1]) [.slice a2 l.length c2] rfl (by intro u hu;rw[List.mem_singleton.1 hu];rfl) N2.out.n.i.o N2.out.n.i.hs (by have:=HTL.out;omega);have g5:Aside (Below w2.heap.size w2 (w2.alloc (.cells [Value.slice a2 l.length c2].toArray 25))):=a0N (.refl _ _) (Nat.le_refl _) ((Gr.refl w2).alloc _);have N3:Aside _:=(N2.out.bel g5.out).app (by decide) (N:=wr.heap.size) N1.out.lt (.slice a2 l.length c2,l) (a1K ho2 g5.out) N1.out.n.i.hs hg3 ho3;clear ho2 hb2 ho3 hg3 N2 g5)|(at_builtin;refine a0E rfl _ _ #[24,24] rfl v (.slice (some ⟨w2.heap.size,0,none⟩) 1 1) rfl rfl _ w3 hr ?_))
   go_roundg (ls.length-(i+1))
   case measure=>omega
   case rel=>exact⟨i+1,v',T++ [(.slice a2 l.length c2,l)],rfl,by first|rfl|go_num,by omega,Nat.le_refl _,HT2.out _,N3⟩
  ·have hltz: ¬(i:Int)<(ls.length:Int):=by omega
   obtain rfl:i=ls.length:=by omega
   have hT:=HM.out
   rw[List.take_length]at hT
   have HT:Hid _:=hT
   clear hT
   go_wp2
   go_returns
   exact⟨v,rfl,T,HT.out,N1.out⟩
end Go.Proofs.Ytcblehiddfnafaa.canonSame
