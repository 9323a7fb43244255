/-
  lands: forty-one cards.
-/
import Derived.Test.YtmmmknhdigapkaaTxS
import Derived.Laws.AppendOwn
import Derived.Laws.BytesArg
import Derived.OwnWalk
namespace Go.Proofs.Ytmmmknhdigapkaa.poolCut
open Go.Ev Go.RowKit Go.Proofs.Ytmmmknhdigapkaa.poolS Go.Proofs.Ytmmmknhdigapkaa.plq
set_option linter.unusedVariables false
set_option maxRecDepth 100000
def lnT(v:Value)(i:Int)(x5 x6 x7 x8 x9 x10 x11 x12 x13 x14 x15 x16 x17 x18 x19 x20 x21 x22 x23 x24 x1:Value):Array Value:=
 #[.int .i64 41,x1,.slice none 0 0,v,.int .i64 i,x5,x6,x7,x8,x9,x10,x11,x12,x13,x14,x15,x16,x17,x18,x19,x20,x21,x22,x23,x24]
theorem cv2(W:World)(x y:Int):(convert 69 9 (.slice (some ⟨W.heap.size,0,none⟩) 2 2)).run Try.prog (W.alloc (.cells #[.int .u8 x,.int .u8 y] 5))= .ok (.string (strOfNums [x,y])) (W.alloc (.cells #[.int .u8 x,.int .u8 y] 5)):=by
 refine run_convert_bytes_arg (P:=Try.prog) (W.alloc (.cells #[.int .u8 x,.int .u8 y] 5)) 69 5 Try.underlying69 Try.underlying5 W.heap.size 0 2 2 [x,y] rfl (fun i hi=> ?_) 9 Try.underlying9;simp only[World.cell?,b2M]
 match i,hi with
 |0,_=>rfl
 |1,_=>rfl
def lnI(v:Value):Nat:=match v with
 |.int _ n=>n.toNat|_=>0
theorem c6V{W:World}{B:Nat}{c:Array Value}{t:TypeId}{fr:Nat×Nat}{j:Nat}{u:Value}(hB:W.heap[B]? =some (.cells c t fr))(h:c.toList[j]? =some u):W.cell? ((⟨B,0,none⟩:Addr).add j)=some u:=by
 have e:(⟨B,0,none⟩:Addr).add j=⟨B,j,none⟩:=by
  unfold Addr.add;split
  ·rename_i h0;rw[h0]
  ·simp
 rw[e];unfold World.cell?;simp only[hB];simpa using h
theorem e3p:decide (42*Try.t40.bytes≤140737488355328)=true:=by kernel_rfl
theorem c0Y(w:World):Calls Try.prog 16 #[.int .i64 41] w fun e w'=> ∃a c,e= .returned (.slice a 41 c)∧Below w.heap.size w w':=by
 go_enter Try.func16,Try.ntmps16;go_wp2_with fail;refine wp_loop (fun act W=> ∃(i:Nat) (v:Value) (xs:List Value) (x5 x6 x7 x8 x9 x10 x11 x12 x13 x14 x15 x16 x17 x18 x19 x20 x21 x22 x23 x24 x1:Value),act={tmps:=lnT v i x5 x6 x7 x8 x9 x10 x11 x12 x13 x14 x15 x16 x17 x18 x19 x20 x21 x22 x23 x24 x1,defers:=[]}∧i≤41∧W.ownsRow w.heap.size 40 11 v i xs∧Below w.heap.size w W) (fun act _=>41-lnI (act.tmps.getD 4 undef)) ?_ ?_
 ·exact⟨0,.slice none 0 0,[],_,_,_,_,_,_,_,_,_,_,_,_,_,_,_,_,_,_,_,_,_,rfl,by omega,World.ownsRow_nil _ _ _ _,.refl _ _⟩
 ·rintro act W ⟨i,v,xs,x5,x6,x7,x8,x9,x10,x11,x12,x13,x14,x15,x16,x17,x18,x19,x20,x21,x22,x23,x24,x1,rfl,hi,hown,hb⟩;simp only[lnT];have hcv:=cv2;have h2:(((W.alloc (.cells #[.int .u8 (97+(i:Int)%26),.int .u8 (97+(i:Int)/26)] 5)).alloc (.cells #[.string (strOfNums [97+(i:Int)%26,97+(i:Int)/26]),.int .i64 1,.int .i64 0,.int .i64 0,.int .i64 0,.int .i64 0,.int .i64 1,.int .i64 0,.int .i64 0,.int .i64 0,.slice none 0 0] 40)).alloc (.cells #[.string (strOfNums [97+(i:Int)%26,97+(i:Int)/26]),.int .i64 1,.int .i64 0,.int .i64 0,.int .i64 0,.int .i64 0,.int .i64 1,.int .i64 0,.int .i64 0,.int .i64 0,.slice none 0 0] 40)).ownsRow w.heap.size 40 11 v i xs:=((hown.alloc _).alloc _).alloc _;have hbl:=hb.size;have i0:Try.prog.info? 40=some Try.t40:=by kernel_rfl
  have i1:Try.t40.zero=some (.agg #[.string ⟨#[]⟩,.int .i64 0,.int .i64 0,.int .i64 0,.int .i64 0,.int .i64 0,.int .i64 0,.int .i64 0,.int .i64 0,.int .i64 0,.slice none 0 0]):=by kernel_rfl
  have i2:Try.t40.size=11:=by kernel_rfl
  have i3: ∀j u,([.string (strOfNums [97+(i:Int)%26,97+(i:Int)/26]),.int .i64 1,.int .i64 0,.int .i64 0,.int .i64 0,.int .i64 0,.int .i64 1,.int .i64 0,.int .i64 0,.int .i64 0,.slice none 0 0]:List Value)[j]? =some u→(((W.alloc (.cells #[.int .u8 (97+(i:Int)%26),.int .u8 (97+(i:Int)/26)] 5)).alloc (.cells #[.string (strOfNums [97+(i:Int)%26,97+(i:Int)/26]),.int .i64 1,.int .i64 0,.int .i64 0,.int .i64 0,.int .i64 0,.int .i64 1,.int .i64 0,.int .i64 0,.int .i64 0,.slice none 0 0] 40)).alloc (.cells #[.string (strOfNums [97+(i:Int)%26,97+(i:Int)/26]),.int .i64 1,.int .i64 0,.int .i64 0,.int .i64 0,.int .i64 0,.int .i64 1,.int .i64 0,.int .i64 0,.int .i64 0,.slice none 0 0] 40)).cell? ((⟨W.heap.size+1+1,0,none⟩:Addr).add j)=some u:=fun j u hu=>c6V (a2c (by simp only[World.size_alloc])) hu;have i4:(i+1)*Try.t40.bytes≤140737488355328:=Nat.le_trans (Nat.mul_le_mul_right _ (show i+1≤42 by omega)) (of_decide_eq_true e3p);have i5:i+1≤maxLen:=Nat.le_trans (show i+1≤42 by omega) (by decide);have i6:w.heap.size≤(((W.alloc (.cells #[.int .u8 (97+(i:Int)%26),.int .u8 (97+(i:Int)/26)] 5)).alloc (.cells #[.string (strOfNums [97+(i:Int)%26,97+(i:Int)/26]),.int .i64 1,.int .i64 0,.int .i64 0,.int .i64 0,.int .i64 0,.int .i64 1,.int .i64 0,.int .i64 0,.int .i64 0,.slice none 0 0] 40)).alloc (.cells #[.string (strOfNums [97+(i:Int)%26,97+(i:Int)/26]),.int .i64 1,.int .i64 0,.int .i64 0,.int .i64 0,.int .i64 0,.int .i64 1,.int .i64 0,.int .i64 0,.int .i64 0,.slice none 0 0] 40)).heap.size:=by simp only[World.size_alloc];omega
  go_wp2_with fail
  ·refine(a4M _ _).mono ?_;rintro e w' ⟨rfl,rfl⟩;go_wp2_with (first|(at_builtin;refine wpList_append_own _ rfl _ _ 22 rfl w.heap.size 40 Try.t40 (.agg #[.string ⟨#[]⟩,.int .i64 0,.int .i64 0,.int .i64 0,.int .i64 0,.int .i64 0,.int .i64 0,.int .i64 0,.int .i64 0,.int .i64 0,.slice none 0 0]) 11 Try.t40.bytes Try.underlying22 i0 i1 i2 rfl rfl (by decide) _ _ _ rfl h2 ⟨W.heap.size+1+1,0,none⟩ 1 1 [.string (strOfNums [97+(i:Int)%26,97+(i:Int)/26]),.int .i64 1,.int .i64 0,.int .i64 0,.int .i64 0,.int .i64 0,.int .i64 1,.int .i64 0,.int .i64 0,.int .i64 0,.slice none 0 0] rfl rfl i3 (by simp[Value.oneCell']) i5 i4 i6 ?_;intro v' w3 hown' hgrow hnil));refine⟨⟨i+1,v',_,_,_,_,_,_,_,_,_,_,_,_,_,_,_,_,_,_,_,_,_,_,rfl,by omega,hown',(((hb.alloc hbl _).alloc (by simp only[World.size_alloc];omega) _).alloc (by simp only[World.size_alloc];omega) _).grown hgrow i6 fun q hq=>(hown.lt q hq).1⟩, ?_⟩;show 41-((i:Int)+1).toNat<41-(i:Int).toNat;omega
  ·go_ret;have e41:i=41:=by omega
   subst e41;rcases hown.2 with⟨_,h⟩|⟨g,cap,cur,hv,_⟩
   ·cases h
   ·exact⟨_,cap,congrArg Ending.returned hv,hb⟩
theorem c4W(w:World)(a:Option Addr)(c:Nat):Calls Try.prog 10 #[.slice a 41 c] w fun e w'=>e= .returned (.int .i64 3)∧w'=w:=by go_enter Try.func10,Try.ntmps10;go_wp2;go_ret;exact⟨rfl,rfl⟩
theorem a8q{B:Nat}{w w1 w2:World}(h:Below B w w1)(k:Below w1.heap.size w1 w2)(hB:B≤w1.heap.size):Below B w w2:=⟨k.os.trans h.os,k.tape.trans h.tape,k.output.trans h.output,Nat.le_trans h.size k.size,fun j hj=>by rw[k.block j (by omega),h.block j hj]⟩
theorem b1o{w1 w2:World}(k:Below w1.heap.size w1 w2):Sub w1 w2:=by have:=a4W (w:=w1) (w':=w2) (S:=fun _=>False) (l:=[]) (l':=[]) (by intro b hb;cases hb) (by intro b;simp) k.size (fun j hj _=>k.block j hj) (by intro b hb;cases hb);exact this
theorem d7L:encR la= [.s ⟨#[1,1,97,1,0,0,0,0,1,0,0,0,0]⟩,.i .i64 0]:=by unfold encR;rw[if_pos c6z,b5I]
theorem c9q:smallP la:=⟨by decide,fun x hx=>by
 rw[List.mem_singleton.1 hx]
 exact⟨by decide,by decide,fun a ha=>by cases ha⟩⟩
theorem d4S{us:List G}(h:c4m ⟨#[]⟩ us):us= [.l (.slice none 0 0) [],.i .i64 4]:=b5p (fun es h=>by
 rw[show pL 40 pCd (numsOf ⟨#[]⟩)=none from rfl]at h
 cases h) h
theorem d0J{us:List G}(h:c4m ⟨#[0]⟩ us):us= [.l (.slice none 0 0) [],.i .i64 4]:=by
 rcases h with⟨v,m,rfl,h1,h2⟩|⟨h1,_⟩
 ·rw[show pL 40 pCd (rest ⟨#[0]⟩ 0)=some ([.l (.bool false) []],[])by kernel_rfl]at h1;have h1:[]=erLL m:=by simpa using h1
  rw[a0k]at h1;have:m= []:=by simpa using h1.symm
  subst this;rw[c6U]at h2;cases h2
 ·exact h1
theorem d0K{es:List (List G)}(hl:(es.length:Int)≤40)(h: ∀x∈erLL es,c2D x){s:ByteArray}{l:List Int}(hs:numsOf s=numsOf (a7p es)++l)(hne:l≠[]){us:List G}(hd:c4m s us):us= [.l (.slice none 0 0) [],.i .i64 4]:=b5p (fun m hm=>by
 rw[hs,b1Y hl h l]at hm;simp only[Option.some.injEq,Prod.mk.injEq]at hm
 exact hne hm.2) hd
theorem d3m:numsOf ⟨#[1,1,97,1,0,0,0,0,1,0,0,0,0,0]⟩=numsOf (a7p la)++ [0]:=by rw[b5I];kernel_rfl
theorem d7X(W:World):GML W [.l (.slice none 0 0) []]:=by refine⟨?_,trivial⟩;simp only[GM];exact⟨none,0,rfl,.inl ⟨trivial,.inl rfl⟩⟩
theorem d6H:TyL [.l a1T] [.l (.slice none 0 0) []]:=⟨⟨trivial,by decide,none,0,rfl,Nat.le_refl _⟩,trivial⟩
theorem c7B:a9t [a2v ⟨#[]⟩]:=⟨by decide,fun x hx=>by
 rw[List.mem_singleton.1 hx]
 exact⟨by decide,fun a ha=>by cases ha⟩⟩
theorem c7A:a9t [a2v ⟨#[97]⟩,a2v ⟨#[97]⟩]:=⟨by decide,fun x hx=>by
 simp only[List.mem_cons,List.not_mem_nil,or_false]at hx
 rcases hx with rfl|rfl<;>exact⟨by decide,fun a ha=>by cases ha⟩⟩
theorem d7K{m:List (List G)}(h:erLL m=erLL la): ∃x,m= [x]∧erL x=erL (a2v ⟨#[97]⟩):=by
 rw[a0k]at h;have h:m.map erL= [erL (a2v ⟨#[97]⟩)]:=h;cases m with
 |nil=>cases h
 |cons x t=>
  rw[List.map_cons]at h;injection h with h3 h4
  have:t= []:=List.map_eq_nil_iff.1 h4;subst this;exact⟨x,rfl,h3⟩
theorem c8r{W:World}{B:Nat}{e:TypeId}{fr:Nat×Nat}{s:ByteArray}(hB:W.heap[B]? =some (.cells #[.string s,.int .i64 1,.int .i64 0,.int .i64 0,.int .i64 0,.int .i64 0,.int .i64 1,.int .i64 0,.int .i64 0,.int .i64 0,.slice none 0 0,.string s,.int .i64 1,.int .i64 0,.int .i64 0,.int .i64 0,.int .i64 0,.int .i64 1,.int .i64 0,.int .i64 0,.int .i64 0,.slice none 0 0] e fr)):GML W [.l (.slice (some ⟨B,0,none⟩) 2 2) [a2v s,a2v s]]:=by
 refine⟨?_,trivial⟩;simp only[GM];refine⟨_,_,rfl,.inr ⟨B,0,rfl,.inr ⟨c2K hB, ?_⟩⟩⟩;simp only[GME,and_true];refine⟨c0Z hB fun j g hj=> ?_,c0Z hB fun j g hj=> ?_⟩
 ·match j,hj with
  |0,hj=>cases hj;rfl
  |1,hj=>cases hj;rfl
  |2,hj=>cases hj;rfl
  |3,hj=>cases hj;rfl
  |4,hj=>cases hj;rfl
  |5,hj=>cases hj;rfl
  |6,hj=>cases hj;rfl
  |7,hj=>cases hj;rfl
  |8,hj=>cases hj;rfl
  |9,hj=>cases hj;rfl
  |10,hj=>cases hj;rfl
  |j+11,hj=>simp[a2v,cdL]at hj
 ·match j,hj with
  |0,hj=>cases hj;rfl
  |1,hj=>cases hj;rfl
  |2,hj=>cases hj;rfl
  |3,hj=>cases hj;rfl
  |4,hj=>cases hj;rfl
  |5,hj=>cases hj;rfl
  |6,hj=>cases hj;rfl
  |7,hj=>cases hj;rfl
  |8,hj=>cases hj;rfl
  |9,hj=>cases hj;rfl
  |10,hj=>cases hj;rfl
  |j+11,hj=>simp[a2v,cdL]at hj
theorem d9I(v:Value)(es:List (List G))(n:Int):a8w [.d (.l a1T),.d (.i .i64)] [.l v es,.i .i64 n]= .tuple #[v,.int .i64 n]:=rfl
theorem d5h(w:World):Calls Try.prog 12 #[] w fun e w'=>e= .returned (.bool true)∧Below w.heap.size w w':=by
 have nol: ∀(W:World),∀b∈([]:List Nat),b<W.heap.size:=fun W b hb=>by cases hb
 go_enter Try.func12,Try.ntmps12;go_wp2_with fail;refine(a4M _ _).mono ?_;rintro e w' ⟨rfl,rfl⟩;go_wp2_with fail;generalize hW:World.alloc (World.alloc w _) _=W1;have hB1:=hW▸a2c (w:=World.alloc w _) (k:=w.heap.size+1) (by simp only[World.size_alloc])
 have b1:Below w.heap.size w W1:=by rw[←hW];exact(((Below.refl _ w).alloc (Nat.le_refl _) _).alloc (by simp only[World.size_alloc];omega) _)
 clear hW;have hg1:=c2C hB1;have ht1:TyL [.l a1T] [.l (.slice (some ⟨w.heap.size+1,0,none⟩) 1 1) la]:=⟨⟨⟨b5H _ (by decide),trivial⟩,by decide,_,_,rfl,Nat.le_refl _⟩,trivial⟩;obtain⟨h40,hok⟩:=d1N ht1.1.1 hg1.1 c6z;refine(a6G (.slice (some ⟨w.heap.size+1,0,none⟩) 1 1) la c9q ht1 hg1).mono ?_;rintro e W2 ⟨gs,rfl,he,_,_,b2⟩
 have he':e= .returned (.tuple #[.string ⟨#[1,1,97,1,0,0,0,0,1,0,0,0,0]⟩,.int .i64 0]):=by rw[he,d7L];rfl
 subst he';have b2:=a8q b1 b2 b1.size;clear b1 he hB1 hg1;go_wp2_with fail;refine(a2q W2 _ (by decide) [] (nol W2)).mono ?_;rintro e W3 ⟨us,hd,rfl,hty,hg3,b3⟩;obtain⟨v,m,rfl,hem⟩:=d4T h40 hok c6z (b5I▸hd);rw[d9I];have b3:=a8q b2 b3 b2.size;clear b2 hd;go_wp2_with fail;refine(a2q W3 _ (by decide) [] (nol W3)).mono ?_;rintro e W4 ⟨us,hd,rfl,_,_,b4⟩;obtain rfl:=d4S hd;rw[d9I];have hg4:=GML.sub (b1o b4) (show GML W3 _ from hg3);have b4:=a8q b3 b4 b3.size;clear b3 hd hg3;go_wp2_with fail;refine(a2q W4 _ (by decide) [] (nol W4)).mono ?_;rintro e W5 ⟨us,hd,rfl,_,_,b5⟩;obtain rfl:=d0J hd;rw[d9I];have hg5:=GML.sub (b1o b5) hg4;have b5:=a8q b4 b5 b4.size;clear b4 hd hg4;go_wp2_with fail;refine(a2q W5 _ (by decide) [] (nol W5)).mono ?_;rintro e W6 ⟨us,hd,rfl,_,_,b6⟩;obtain rfl:=d0K h40 hok d3m (by intro h;cases h) hd;rw[d9I];have hg6:=GML.sub (b1o b6) hg5;have b6:=a8q b5 b6 b5.size;clear b5 hd hg5;obtain⟨x,hx,hxe⟩:=d7K hem;subst hx;obtain⟨s',n1,n2,n3,n4,n5,n6,n7,n8,n9,u,u',es1,es2,ex,el,_⟩:=c7u (TyLL.at hty.1.1 (i:=0) rfl) (b5H ⟨#[97]⟩ (by decide)) hxe;simp only[a2v,cdL,List.cons.injEq,G.s.injEq,G.i.injEq,true_and]at el;obtain⟨rfl,rfl,rfl,rfl,rfl,rfl,rfl,rfl,rfl,rfl,_⟩:=el;subst ex;have hv:=c0V hg6.1;obtain⟨ha,hlt,hc⟩:=a8L hg6.1 hty.1.1 (i:=0) rfl;rw[ha]at hv;generalize bkV v=B at hv hlt hc;generalize ofV v=O at hv hc;generalize cpc v=cp at hv;subst hv;have c0:W6.cell? ⟨B,O,none⟩=some (.string ⟨#[97]⟩):=(GMC.cell hc (j:=0) rfl).1;have c6:W6.cell? ⟨B,O+6,none⟩=some (.int .i64 1):=(GMC.cell hc (j:=6) rfl).1;go_wp2_with fail;refine(a4q W6 (.slice none 0 0) [] d6H (d7X W6) ⟨by decide,fun x hx=>by cases hx⟩).mono ?_;rintro e W7 ⟨rfl,b7⟩;rw[c6U];have b7:=a8q b6 b7 b6.size;clear b6;go_wp2_with fail;refine(c0Y W7).mono ?_;rintro e W8 ⟨a,c,rfl,b8⟩;have b8:=a8q b7 b8 b7.size;clear b7;go_wp2_with fail;refine(c4W W8 a c).mono ?_;rintro e w' ⟨rfl,rfl⟩;go_wp2_with fail;refine(a4M _ _).mono ?_;rintro e w' ⟨rfl,rfl⟩;go_wp2_with fail;refine(a4M _ _).mono ?_;rintro e w'' ⟨rfl,rfl⟩;go_wp2_with fail;generalize hW:World.alloc (World.alloc (World.alloc w' _) _) _=W9;have hB9:=hW▸a2c (w:=World.alloc (World.alloc w' _) _) (k:=w'.heap.size+1+1) (by simp only[World.size_alloc])
 have b9:Below w.heap.size w W9:=by have:=b8.size;rw[←hW];exact((b8.alloc this _).alloc (by simp only[World.size_alloc];omega) _).alloc (by simp only[World.size_alloc];omega) _
 clear hW b8;have tl:=b5H ⟨#[97]⟩ (by decide);refine(a4q W9 (.slice (some ⟨w'.heap.size+1+1,0,none⟩) 2 2) [a2v ⟨#[97]⟩,a2v ⟨#[97]⟩] ⟨⟨⟨tl,tl,trivial⟩,by decide,_,_,rfl,Nat.le_refl _⟩,trivial⟩ (c8r hB9) c7A).mono ?_;rintro e W10 ⟨rfl,b10⟩;rw[d3n];have b10:=a8q b9 b10 b9.size;clear b9 hB9 tl;go_wp2_with fail;refine(a4M _ _).mono ?_;rintro e w'' ⟨rfl,rfl⟩;go_wp2_with fail;generalize hW:World.alloc (World.alloc W10 _) _=W11;have hB11:=hW▸a2c (w:=World.alloc W10 _) (k:=W10.heap.size+1) (by simp only[World.size_alloc])
 have b11:Below w.heap.size w W11:=by have:=b10.size;rw[←hW];exact(b10.alloc this _).alloc (by simp only[World.size_alloc];omega) _
 clear hW b10;refine(a4q W11 (.slice (some ⟨W10.heap.size+1,0,none⟩) 1 1) [a2v ⟨#[]⟩] ⟨⟨⟨b5H _ (by decide),trivial⟩,by decide,_,_,rfl,Nat.le_refl _⟩,trivial⟩ (c2C hB11) c7B).mono ?_;rintro e W12 ⟨rfl,b12⟩;rw[d3o];have b12:=a8q b11 b12 b11.size;clear b11 hB11;go_wp2_with fail;go_ret;exact⟨rfl,b12⟩
end Go.Proofs.Ytmmmknhdigapkaa.poolCut
namespace Go.Proofs.Ytmmmknhdigapkaa.poolCut
open Go.Ev Go.RowKit Go.Proofs.Ytmmmknhdigapkaa.poolS Go.Proofs.Ytmmmknhdigapkaa.plq
set_option linter.unusedVariables false
noncomputable section
theorem d8r: ∀c∈C15,CtOK Try.prog c:=by
 intro c hc;rw[show C15=C10++ [d8N 8,cNo,e3Q,d8P,e2E]from rfl,List.mem_append]at hc;rcases hc with hc|hc
 ·exact c8T c hc
 ·simp only[List.mem_cons,List.not_mem_nil,or_false]at hc;rcases hc with rfl|rfl|rfl|rfl|rfl
  ·exact d7c fun v es hs ht hm=>a6G v es hs ht hm
  ·exact b0g
  ·refine⟨rfl,fun gs ht hp=>⟨trivial,trivial⟩,fun w gs ht hm hp=> ?_⟩;obtain rfl:=tyN ht;exact d5h w
  ·exact c8C
  ·exact d4r
def d8O:Cf:=⟨7,[.d (.l a1T)],[.d (.l a1T)],fun _=>True,fun _ us=> ∃v es,us= [.l v es]∧okP es⟩
theorem e2T: ∀c∈ [d8O,e2G],CfOK Try.prog c:=by
 intro c hc;simp only[List.mem_cons,List.not_mem_nil,or_false]at hc;rcases hc with rfl|rfl
 ·refine⟨fun t ht=> ?_,fun w gs L hL ht hm hp=> ?_⟩
  ·rw[List.mem_singleton.1 ht];rfl
  ·obtain⟨g,l,rfl,t,h0⟩:=tyC ht;obtain⟨v,es,rfl,e1,e2⟩:=b3l t;obtain rfl:=tyN h0;refine(b8V v es hL ht hm).mono ?_;rintro e w' ⟨gs,⟨v',es',rfl,hs⟩,he,hty,hg,hb⟩;refine⟨_,⟨v',es',rfl,hs,fun hz=> ?_⟩,he,hty,hg,hb⟩;obtain⟨v2,es2,e,h1,_⟩:=b3l (show TyOK (.l a1T) (.l v' es')from hty.1);cases e;exact d1N h1 (GML.at (j:=0) (GML.sub (b2R fun b hb'=>Nat.lt_of_lt_of_le (hL b hb') hb.size) hg) rfl) hz
 ·exact d4t
theorem d3E:b5t Try.prog (Cs C15) (Ds [d8O,e2G]) Try.f5 pcu=true:=by kernel_rfl
theorem e1l{es:List (List G)}(h:a3y es=0):encR es= [.s (a7p es),.i .i64 0]:=if_pos h
theorem e1k{es:List (List G)}(h:a3y es≠0):encR es= [.s ⟨#[]⟩,.i .i64 (a3y es)]:=if_neg h
theorem e1M(n m:Int)(hm:0≤m)(hn:0≤n):0≤(if m<n then m else n)∧(if m<n then m else n)≤n:=by split<;>omega
theorem c9a{s:ByteArray}{r:Int}(h0:0≤r):numsOf s=numsOf (s.extract (0:Int).toNat r.toNat)++(numsOf s).drop r.toNat:=by
 have:numsOf (s.extract (0:Int).toNat r.toNat)=(numsOf s).take r.toNat:=by have e:=b0S (s:=s) (a:=0) (n:=r.toNat) (Int.le_refl 0);rw[Int.zero_add,Int.toNat_natCast,c9I]at e;rw[e,b4z fun c hc=>c3B s c (List.mem_of_mem_take hc)]
 rw[this,List.take_append_drop]
def pcI(t:Nat)(σ:List G):Prop:=
 (t=1003001∧ ∃(n:Int) (s:ByteArray) (v:Value) (es:List (List G)),0≤n∧σ= [.i .u16 n,.s s,.l v es])∨
 (t=1006007∧ ∃s es p l,okP es∧a3y es=0∧numsOf (a7p es)=numsOf p++l∧l≠[]∧σ= [.s s,.s (a7p es),.s p])∨
 (t=1011007∧ ∃es c l,okP es∧a3y es=0∧numsOf c=numsOf (a7p es)++l∧l≠[]∧σ= [.s c])
def pcM(t:Nat)(σ:List G):Nat:=if t=1003001 then 3 else if t=1006007 then 2 else 1
theorem c4R{w:World}(v:Value)(es:List (List G))(n:Int)(s:ByteArray)(hn:0≤n)(ht:TyL [.l a1T,.i .u16,.s] [.l v es,.i .u16 n,.s s])(hm:GML w [.l v es,.i .u16 n,.s s]):
  Calls Try.prog 5 ⟨[v,.int .u16 n,.string s]⟩ w fun e w'=>e= .returned (.bool true)∧Below w.heap.size w w':=by
 refine(a3n hng plq.mixed (a8u d8r) (b9c e2T) Try.func5 d3E pcI pcM (fun gs=>gs= [.b true]) ?_ ?_ ?_ ?_ ?_ (L:=[]) (by intro b hb;cases hb) ht (by simpa[a0W]using hm):Calls Try.prog 5 ⟨a3e pcu.psh [.l v es,.i .u16 n,.s s]⟩ w _).mono ?_
 ·show wp _ d3F _ _;unfold d3F;refine a3Q (show True from trivial) (a3d (fun _=>a0C ?_) fun h=>by cases(show true=false from h));exact .inl ⟨rfl,n,s,v,es,hn,rfl⟩
 ·intro q hq;cases hq
 ·intro q hq σ _;simp only[pcu,List.mem_cons,List.not_mem_nil,or_false]at hq;rcases hq with rfl|rfl|rfl<;>exact bd0 rfl
 ·intro q hq;cases hq
 ·simp only[pcu,List.mem_cons,List.not_mem_nil,or_false];rintro q (rfl|rfl|rfl) σ hty hi
  ·rcases hi with⟨_,n,s,v,es,hn,rfl⟩|⟨h,_⟩|⟨h,_⟩
   ·refine⟨trivial,fun us hus htu=> ?_⟩;obtain⟨v',es',rfl,hs,hk⟩: ∃v es,us= [.l v es]∧okP es:=hus;show wp _ a5Y _ _;unfold a5Y;refine a3Q (show smallP es' from hs) ?_
    by_cases hz:a3y es'=0
    ·show wp _ _ (_++encR es') _;rw[e1l hz];obtain⟨h40,hok⟩:=hk hz;have hp:=d4L h40 hok;have hp': ¬((a7p es').size:Int)=0:=by omega
     have t0:0≤n.tmod (a7p es').size:=Int.tmod_nonneg _ hn;have t1:n.tmod (a7p es').size<(a7p es').size:=Int.tmod_lt_of_pos _ (by omega);refine a0r (fun _=>a4V ⟨n.tmod (a7p es').size,if_neg hp',a7t (Int.le_refl 0) t0 (by show n.tmod (a7p es').size≤(a7p es').size;omega) (a0C ?_)⟩) fun h=>(h rfl).elim;refine⟨.inr (.inl ⟨rfl,s,es',_,_,⟨hs,hk⟩,hz,c9a t0, ?_,rfl⟩),by show(2:Nat)<3;omega⟩;intro h;rw[List.drop_eq_nil_iff,a4J]at h;omega
    ·show wp _ _ (_++encR es') _;rw[e1k hz];exact a0r (fun h=>absurd h hz) fun _=>a0c rfl
   ·exact absurd h (by decide)
   ·exact absurd h (by decide)
  ·rcases hi with⟨h,_⟩|⟨_,s,es,p,l,⟨hs,hk⟩,hz,hpl,hl,rfl⟩|⟨h,_⟩
   ·exact absurd h (by decide)
   ·refine⟨trivial,fun us hus htu=> ?_⟩;obtain⟨h40,hok⟩:=hk hz
    obtain rfl:=b5p (fun m hm=>by
     obtain⟨g1,g2,g3⟩:=c5m hm;have h1:=b3i (r:=l) g1 g2;have h2:=b1Y h40 hok [];rw[List.append_nil]at h2 g3;rw[←g3,←hpl,h2]at h1;simp only[Option.some.injEq,Prod.mk.injEq]at h1
     exact hl h1.2.symm) (show c4m p us from hus)
    show wp _ a5X _ _;unfold a5X;refine a0r (fun _=>d0o (fun _=>a0c rfl) fun hne=>a4V (d2H ?_)) fun h=>(h rfl).elim;have hne:s≠⟨#[]⟩:=hne;obtain⟨m1,m2⟩:=e1M (s.size:Int) 100 (by decide) (by omega);have m3:(if(100:Int)<s.size then(100:Int)else s.size)≤100:=by split<;>omega
    have hs0:0<s.size:=by
     rcases Nat.eq_zero_or_pos s.size with h|h
     ·exfalso;apply hne;obtain⟨⟨l⟩⟩:=s;have:l.length=0:=h;rw[List.eq_nil_of_length_eq_zero this]
     ·exact h
    have m4:0<(if(100:Int)<s.size then(100:Int)else s.size):=by split<;>omega
    refine a7t (Int.le_refl 0) m1 m2 (c4v ?_ (a0C ?_))
    ·show((a7p es++s.extract (0:Int).toNat (if(100:Int)<s.size then(100:Int)else s.size).toNat).size:Int)≤9223372036854775807;have hsz:=c8u hs es.length;rw[List.take_of_length_le (Nat.le_refl _)]at hsz;have h42:=hs.1;have h2:(a7p es).size≤9+5674*es.length:=hsz;rw[ByteArray.size_append,ByteArray.size_extract];omega
    ·refine⟨.inr (.inr ⟨rfl,es,_,_,⟨hs,hk⟩,hz,b1T _ _, ?_,rfl⟩),by show(1:Nat)<2;omega⟩;intro h;have h:numsOf (s.extract (0:Int).toNat (if(100:Int)<s.size then(100:Int)else s.size).toNat)= []:=h;have:=congrArg List.length h;rw[a4J,ByteArray.size_extract,List.length_nil]at this;have:(0:Int).toNat=0:=rfl;omega
   ·exact absurd h (by decide)
  ·rcases hi with⟨h,_⟩|⟨h,_⟩|⟨_,es,c,l,⟨hs,hk⟩,hz,hc,hl,rfl⟩
   ·exact absurd h (by decide)
   ·exact absurd h (by decide)
   ·refine⟨trivial,fun us hus htu=> ?_⟩;obtain⟨h40,hok⟩:=hk hz
    obtain rfl:=b5p (fun m hm=>by
     rw[hc,b1Y h40 hok l]at hm;simp only[Option.some.injEq,Prod.mk.injEq]at hm
     exact hl hm.2) (show c4m c us from hus)
    show wp _ a5W _ _;unfold a5W;exact a0r (fun _=>a0c rfl) fun h=>(h rfl).elim
 ·rintro e w' ⟨gs,rfl,he,_,_,hb⟩;exact⟨he,hb⟩
end
end Go.Proofs.Ytmmmknhdigapkaa.poolCut
