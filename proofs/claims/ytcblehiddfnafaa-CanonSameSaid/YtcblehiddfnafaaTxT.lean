/-
  Chapter 28: what Names holds while it gives names.
-/
import Derived.Test.YtcblehiddfnafaaTxS
import Derived.Test.YtcblehiddfnafaaTxR
namespace Go.Proofs.Ytcblehiddfnafaa.canonSame
open Go.Shelf Go.RowKit Go.Lib Go.Sort
structure Nt(w:World)(A:Lcs)(S:Std)(D bf:Nat)(o:List Int)(W:World):Prop where
 s:W.heap[w.heap.size]? =some (.cells (stV A S).toArray 31)
 n:W.heap[w.heap.size+1+1]? =some (.cells #[.map (some (w.heap.size+1))] 54)
 z:W.heap[w.heap.size+1+1+1+1]? =some (.cells #[.map (some (w.heap.size+1+1+1))] 34)
 f:W.heap[bf]? =some (.cells [Value.func (.func 22) #[] #[.pointer (some ⟨w.heap.size+1+1+1+1,0,none⟩)]].toArray 59)
 m:MapF W (w.heap.size+1) o.length (nmO o)
 y: ∃n,MapF W (w.heap.size+1+1+1) n (zon S.obs)
 b:Below w.heap.size w W
 d:W.heap[D]? =some (.deferred (some []))
 hd:w.heap.size+6≤D
 hf:w.heap.size+6≤bf
theorem Nt.gr{w:World}{A:Lcs}{S:Std}{D bf:Nat}{o:List Int}{W W':World}(h:Nt w A S D bf o W)(g:Gr W W'):Nt w A S D bf o W':=by
 have gg:=a0i g
 have hd:=(gg.block D ((Array.getElem?_eq_some_iff.1 h.d).1) (by simp)).trans h.d
 obtain⟨n,hy⟩:=h.y
 exact⟨a0M h.s g,a0M h.n g,a0M h.z g,a0M h.f g,h.m.gr g,⟨n,hy.gr g⟩,a0N h.b h.b.size g,hd,h.hd,h.hf⟩
theorem Nt.gv{w:World}{A:Lcs}{S:Std}{D bf:Nat}{o o':List Int}{W W':World}(h:Nt w A S D bf o W)(g:Gv W (w.heap.size+1+1) (w.heap.size+1) o' W'):Nt w A S D bf o' W':=by
 have kp: ∀k x,k≠w.heap.size+1→W.heap[k]? =some x→W'.heap[k]? =some x:=fun k x hk hx=>(g.g.block k ((Array.getElem?_eq_some_iff.1 hx).1) (by simpa using fun e=>hk e)).trans hx
 obtain⟨n,hy⟩:=h.y
 have:=h.hd
 have:=h.hf
 exact⟨kp _ _ (by omega) h.s,kp _ _ (by omega) h.n,kp _ _ (by omega) h.z,kp _ _ (by omega) h.f,g.m,⟨n,hy.keep (g.g.block _ hy.lt (fun e=>by injection e with e;omega))⟩,h.b.grown g.g h.b.size (fun k e=>by cases e;omega),kp _ _ (by omega) h.d,h.hd,h.hf⟩
theorem Nt.start{w:World}{A:Lcs}{S:Std}{D:Nat}{W:World}(h:Zd w A S D W)(hs:w.heap.size+6≤W.heap.size):Nt w A S D W.heap.size [] (W.alloc (.cells [Value.func (.func 22) #[] #[.pointer (some ⟨w.heap.size+1+1+1+1,0,none⟩)]].toArray 59)):=by
 have g:Gr W (W.alloc (.cells [Value.func (.func 22) #[] #[.pointer (some ⟨w.heap.size+1+1+1+1,0,none⟩)]].toArray 59)):=(Gr.refl _).alloc _
 have gg:=a0i g
 obtain⟨n,hy⟩:=h.y
 rw[b1R]at hy
 exact⟨a0M h.s g,a0M h.n g,a0M h.z g,a0T _ _,h.m.gr g,⟨n,hy.gr g⟩,a0N h.b h.b.size g,(gg.block D ((Array.getElem?_eq_some_iff.1 h.d).1) (by simp)).trans h.d,h.h,hs⟩
end Go.Proofs.Ytcblehiddfnafaa.canonSame
namespace Go.Proofs.Ytcblehiddfnafaa.canonSame
open Go.Shelf Go.RowKit Go.Lib Go.Sort
def b5P(A B:Loc)(xs ys:List Itm)(i:Nat):List Value:=if i<xs.length then fI A xs i else fI B ys (i-xs.length)
theorem b1I(A B:Loc)(xs ys:List Itm){i j:Nat}(h:i<(xs++ys).length)(hj:j<7):(a2D (fI A xs) xs.length++a2D (fI B ys) ys.length)[i*7+j]? =(b5P A B xs ys i)[j]? :=by
 have hx:=a2O (f:=fI A xs) (k:=7) (n:=xs.length) fun i h=>a2X A h
 have hy:=a2O (f:=fI B ys) (k:=7) (n:=ys.length) fun i h=>a2X B h
 rw[List.length_append]at h
 unfold b5P
 rcases Nat.lt_or_ge i xs.length with h'|h'
 ·rw[if_pos h',List.getElem?_append_left (by rw[hx];omega)]
  exact a2l (f:=fI A xs) (k:=7) (n:=xs.length) (fun i h=>a2X A h) i j h' hj
 ·rw[if_neg (by omega),List.getElem?_append_right (by rw[hx];omega),hx,show i*7+j-xs.length*7=(i-xs.length)*7+j by omega]
  exact a2l (f:=fI B ys) (k:=7) (n:=ys.length) (fun i h=>a2X B h) (i-xs.length) j (by omega) hj
theorem b4o(A B:Loc)(xs ys:List Itm){i:Nat}(h:i<(xs++ys).length):(b5P A B xs ys i).length=7:=by
 rw[List.length_append]at h
 unfold b5P
 split
 ·exact a2X A (by assumption)
 ·exact a2X B (by omega)
theorem b4n(A B:Loc)(xs ys:List Itm){i:Nat}(h:i<(xs++ys).length): ∀u∈b5P A B xs ys i,u.oneCell'=true:=by
 rw[List.length_append]at h
 unfold b5P
 split
 ·exact a7a A (by assumption)
 ·exact a7a B (by omega)
theorem b6N(A B:Loc)(xs ys:List Itm){i:Nat}(h:i<(xs++ys).length):(b5P A B xs ys i)[0]? =some (.int .i64 (xs++ys)[i].id):=by
 rw[←b1I A B xs ys h (by decide),Nat.add_zero]
 exact b5J A B xs ys h
theorem b6w(P:Program){W:World}{base e k g n c:Nat}{X:List Value}(h:W.ownsRow base e k (.slice (some ⟨g,0,none⟩) n c) n X){i:Nat}(hi:i<n)(X0:List Value)(hX0:X0.length=k)(hx: ∀j,j<k→X[i*k+j]? =X0[j]?):Sem.run P (loadCellsFrom ⟨g,i*k,none⟩ 0 k #[]) W= .ok X0.toArray W:=
 run_loadCellsFrom_list P W ⟨g,i*k,none⟩ X0 k hX0 fun j v hv=>by
  have hj:j<k:=by rw[←hX0];exact(List.getElem?_eq_some_iff.1 hv).1
  rw[Addr.add_lit]
  refine(h.cellAt (i*k+j) ?_).trans ((hx j hj).trans hv)
  have:=Nat.mul_le_mul_right k (show i+1≤n by omega)
  rw[Nat.succ_mul]at this
  omega
theorem Nt.bel{w:World}{A:Lcs}{S:Std}{D bf:Nat}{o:List Int}{W W':World}(h:Nt w A S D bf o W)(hb:Below W.heap.size W W'):Nt w A S D bf o W':=by
 have kp: ∀k x,W.heap[k]? =some x→W'.heap[k]? =some x:=fun k x hx=>(hb.block k ((Array.getElem?_eq_some_iff.1 hx).1)).trans hx
 obtain⟨n,hy⟩:=h.y
 exact⟨kp _ _ h.s,kp _ _ h.n,kp _ _ h.z,kp _ _ h.f,h.m.below hb h.m.lt,⟨n,hy.below hb hy.lt⟩,h.b.trans (hb.mono h.b.size),kp _ _ h.d,h.hd,h.hf⟩
def b8L:Code→Option Code
 |.seq _ b=>some b
 |_=>none
abbrev Gn(P:Program)(w:World)(A:Lcs)(S:Std)(D bf:Nat)(fv:Value)(res:List Int→Int→List Int):Prop:= ∀(o:List Int) (n:Int) (B:Nat) (W:World),Nt w A S D bf o W→o.length≤1900→w.heap.size+6≤B→W.heap[B]? =some (.cells #[.int .i64 n] 3)→
 Calls P 23 #[.pointer (some ⟨w.heap.size+1+1,0,none⟩),fv,.slice (some ⟨B,0,none⟩) 1 1] W fun e w'=>e= .returned (.tuple #[])∧Aside (Nt w A S D bf (res o n) w'∧W.grownBy w' (some (w.heap.size+1)))
set_option linter.unusedVariables false in
set_option maxRecDepth 100000 in
set_option maxHeartbeats 16000000 in
theorem b2k{P:Program}{k29 k31 k41 k43 k45 k66 k97:Nat}{y29 y31 y41 y43 y45 y66 y97:List Value}(L:LayS P k29 k31 k41 k43 k45 k66 k97 y29 y31 y41 y43 y45 y66 y97)(hk:k41=14)(hy3:y41.length=k41)(hk3:k43=7)(hy4:y43.length=k43)
  (a34: ∀w,(isAgg 34).run P w= .ok false w) (z34: ∀w,(Go.sizeOf 34).run P w= .ok 1 w) (v34: ∀w,(zeroValue 34).run P w= .ok (.map none) w)
  (t54:P.underlying 54=some (.struct #[{name:= "names",type:=34,offset:=0,embedded:=false,tag:= "",pkgPath:= "trefoil/canon",byteOffset:=0}]))
  (a59: ∀w,(isAgg 59).run P w= .ok false w) (z59: ∀w,(Go.sizeOf 59).run P w= .ok 1 w) (t94:P.underlying 94=some (.slice 26))
  (e23: ∀args w,(callFunc 23 args).run P w= .ok (.enter 23 args) w) (e26: ∀args w,(callFunc 26 args).run P w= .ok (.enter 26 args) w)
  (A:Lcs) (S:Std) (w:World) (hB:Bo S) {lo hh:Nat} (hhh:hh≤w.heap.size) (hI:StI lo hh w A S) (R:Ending→World→Prop) (D bf:Nat)
  (h25:Gn P w A S D bf (.func (.func 25) #[] #[.pointer (some ⟨bf,0,none⟩),.pointer (some ⟨w.heap.size+1+1+1+1,0,none⟩)]) fun o n=>if b1k S n then mor S.fi o [n]else o)
  (h22:Gn P w A S D bf (.func (.func 22) #[] #[.pointer (some ⟨w.heap.size+1+1+1+1,0,none⟩)]) fun o n=>mor S.fi o [n])
  (h27:Gn P w A S D bf (.func (.func 27) #[] #[]) fun o n=>if plc n o<o.length then o else o++ [n])
  (xs:List Itm) (hord:ord S=a6O S xs) (hxl:xs.length≤24)
  (h26: ∀(b:Nat) (W:World),Kp lo hh w W→hh≤W.heap.size→W.heap[b]? =some (.cells [.slice A.s.a S.stack.length A.s.c,.slice A.w.a S.waits.length A.w.c].toArray 26)→
   Calls P 26 #[.slice (some ⟨b,0,none⟩) 2 2] W fun e w'=> ∃a c X,e= .returned (.slice a xs.length c)∧Aside (w'.ownsRow W.heap.size 43 7 (.slice a xs.length c) xs.length X∧(∀i (h:i<xs.length),∃X0:List Value,X0.length=7∧(∀u∈X0,u.oneCell'=true)∧X0[0]? =some (.int .i64 xs[i].id)∧ ∀j,j<7→X[i*7+j]? =X0[j]?)∧Below W.heap.size W w'))
  (hR: ∀W,Nt w A S D bf (ord S) W→R (.returned (.map (some (w.heap.size+1)))) (W.putObj D (.deferred none)))
  (c:Code) (W:World) (hc:(Try.f8.body.bind (a0Z 16)).bind b8L=some c) (hN:Nt w A S D bf (b6X S) W) (hbf:w.heap.size+6≤bf)
  (s5 s6 s8 s9 s10 s11 s12 s13 s14 s15 s16 s17 s18 s19 s20 s21 s22 s23 s24 s25 s26 s27 s28 s29 s30 s31 s32 s33 s34 s35 s36 s37 s38 s39 s40 s41 s42 s43 s44 s45 s46 s47 s48 s49 s50 s51 s52 s53 s54 s55 s56 s57 s58 s59 s60 s61 s62 s63 s64 s65 s66 s67 s68 s69 s70 s71 s72 s73 s74 s75 s76 s77 s78 s79 s80 s81 s82 s83 s84 s85 s86 s87 s88 s89 s90 s91 s92 s93 s94 s95 s96 s97 s98 s99 s100 s101 s102 s103 s104 s105 s106 s107 s108 s109 s110 s111 s112 s113:Value):
  c.wp P (bodyPostM Fence.wide 5 P Try.f8 R) {tmps:= #[.agg (stV A S).toArray,.pointer (some ⟨w.heap.size,0,none⟩),.map none,.pointer (some ⟨w.heap.size+1+1,0,none⟩),.pointer (some ⟨w.heap.size+1+1+1+1,0,none⟩),s5,s6,.pointer (some ⟨bf,0,none⟩),s8,s9,s10,s11,s12,s13,s14,s15,s16,s17,s18,s19,s20,s21,s22,s23,s24,s25,s26,s27,s28,s29,s30,s31,s32,s33,s34,s35,s36,s37,s38,s39,s40,s41,s42,s43,s44,s45,s46,s47,s48,s49,s50,s51,s52,s53,s54,s55,s56,s57,s58,s59,s60,s61,s62,s63,s64,s65,s66,s67,s68,s69,s70,s71,s72,s73,s74,s75,s76,s77,s78,s79,s80,s81,s82,s83,s84,s85,s86,s87,s88,s89,s90,s91,s92,s93,s94,s95,s96,s97,s98,s99,s100,s101,s102,s103,s104,s105,s106,s107,s108,s109,s110,s111,s112,s113],defers:=[{target:=.collected D,args:= #[]}]} W:=by
 have mixed:=L.mixed;have t3:=L.t3;have a3:=L.a3;have z3:=L.z3;have v3:=L.v3;have qu3:=run_underlying L.t3;have t4:=L.t4;have a4:=L.a4;have z4:=L.z4
 have t22:=L.t22;have a22:=L.a22;have z22:=L.z22;have v22:=L.v22;have qu22:=run_underlying L.t22
 have t23:=L.t23;have a23:=L.a23;have z23:=L.z23;have v23:=L.v23;have qu23:=run_underlying L.t23
 have t24:=L.t24;have a24:=L.a24;have z24:=L.z24;have v24:=L.v24;have qu24:=run_underlying L.t24
 have t25:=L.t25;have a25:=L.a25;have z25:=L.z25;have v25:=L.v25;have qu25:=run_underlying L.t25
 have t26:=L.t26;have a26:=L.a26;have z26:=L.z26;have v26:=L.v26;have qu26:=run_underlying L.t26
 have t27:=L.t27;have a27:=L.a27;have z27:=L.z27;have v27:=L.v27;have qu27:=run_underlying L.t27
 have t39:=L.t39;have a39:=L.a39;have z39:=L.z39;have v39:=L.v39;have qu39:=run_underlying L.t39
 have qu29:=run_underlying L.t29;have a29:=L.a29;have z29:=L.z29;have v29:=L.v29
 have qu31:=run_underlying L.t31;have a31:=L.a31;have z31:=L.z31;have v31:=L.v31
 have qu41:=run_underlying L.t41;have a41:=L.a41;have z41:=L.z41;have v41:=L.v41
 have qu43:=run_underlying L.t43;have a43:=L.a43;have z43:=L.z43;have v43:=L.v43
 have qu54:=run_underlying t54
 have qu94:=run_underlying t94
 have hc':=Option.some.inj ((show _=(Try.f8.body.bind (a0Z 16)).bind b8L from rfl).trans hc)
 clear hc
 subst hc'
 have HORD:Hid (ord S=a6O S xs):=hord
 have HI:Aside (StI lo hh w A S):=hI
 have HB:Aside (Bo S):=hB
 have H25:Aside _:=h25
 have H22:Aside _:=h22
 have H27:Aside _:=h27
 have H26:Aside _:=h26
 have HR:Aside _:=hR
 have HK:Hid (k41=14):=hk
 have HK3:Hid (k43=7):=hk3
 have HY3:Hid (y41.length=k41):=hy3
 have HY4:Hid (y43.length=k43):=hy4
 have hn3: ¬k43=0:=by omega
 have hn1: ¬k41=0:=by omega
 have kb1: ¬16777216<k41:=by omega
 have kb3: ¬16777216<k43:=by omega
 have ho5:=hB.obs
 have hs5:=hB.stack
 have hw5:=hB.waits
 have HHH:Aside (hh≤w.heap.size):=hhh
 have HBF:Aside (w.heap.size+6≤bf):=hbf
 generalize hAs:A.s.a=isa
 have HAS:Hid (A.s.a=isa):=hAs
 have N2:Aside (Nt w A S D bf (a6s S (S.stack.take 0)) W):=hN
 have c7:=a0B (a0A N2.out.s) (j:=7) (v:=.slice A.s.a S.stack.length A.s.c) rfl
 rw[hAs]at c7
 clear hord hI hB h25 h22 h27 h26 hR hk hk3 hy3 hy4 hAs hN hbf hhh
 go_wp2
 go_loopg [68] S.stack.length (fun kx q wr=> ∃i:Nat,q= .int .i64 i∧i≤S.stack.length∧S.stack.length-i≤kx∧Aside (Nt w A S D bf (a6s S (S.stack.take i)) wr))
 case atStart=>exact⟨0,rfl,Nat.zero_le _,Nat.le_refl _,N2⟩
 case round=>
  clear N2
  obtain⟨i,rfl,hi,hkx,N1⟩:=hrel
  have wj:IntKind.i64.wrap ((i:Int)+1)=(i:Int)+1:=by rw[IntKind.wrap_i64];omega
  by_cases hlt:i<S.stack.length
  ·have hltz:(i:Int)<(S.stack.length:Int):=by omega
   obtain⟨B,O,hB,_,_,hc⟩:=HI.out.s.ld P hlt rfl
   have q0:Kp lo hh w wr:=(Kp.below N1.out.b lo).mono (Nat.le_refl _) HHH.out
   have lA:=hc wr q0
   rw[←HK3.out]at lA
   rw[HAS.out]at hB
   subst hB
   have hT:=a8u S (S.stack.take i) S.stack[i]
   rw[←List.take_succ_eq_append_getElem hlt]at hT
   have hx3:(a0f S.stack[i] (.slice (A.s.ad i) S.stack[i].ts.length (A.s.cp i)))[3]? =some (.int .i64 S.stack[i].obj):=rfl
   have hxl:(a0f S.stack[i] (.slice (A.s.ad i) S.stack[i].ts.length (A.s.cp i))).length=k43:=HK3.out.symm
   have hx1:=a2M S.stack[i] (.slice (A.s.ad i) S.stack[i].ts.length (A.s.cp i)) rfl
   have hlen:(a6s S (S.stack.take i)).length≤900:=by have:=a7q HB.out (S.stack.take i);rw[List.length_take]at this;omega
   generalize a0f S.stack[i] (.slice (A.s.ad i) S.stack[i].ts.length (A.s.cp i))=X0 at lA hx3 hxl hx1
   generalize S.stack[i].obj=n at hT hx3
   have HT:Hid _:=hT
   have HLEN:Aside _:=hlen
   clear hT hlen hc q0
   have sA:=a0P P (a0q wr y43 43) X0 (by rw[hxl,HY4.out]) hx1
   have g1:Gr wr ((wr.alloc (.cells y43.toArray 43)).setCells wr.heap.size 0 X0):=Gr.sets (W:=wr) _ (Nat.le_refl _) _ _ ((Gr.refl _).alloc _)
   have b1:=a0Y (a0T wr (.cells y43.toArray 43)) X0 (by rw[hxl,HY4.out])
   have N2:Aside _:=N1.out.gr g1
   have B1:Aside _:=b1
   have SZ:Aside (w.heap.size+6≤((wr.alloc (.cells y43.toArray 43)).setCells wr.heap.size 0 X0).heap.size):=(by have h1:=a0L N2.out.f;have h2:=HBF.out;show _≤_;omega)
   clear g1 b1 N1
   go_upto_region 20 with fail
   clear lA sA
   have hb0:wr.heap.size=wr.heap.size:=rfl
   generalize (wr.alloc (.cells y43.toArray 43)).setCells wr.heap.size 0 X0=W1 at N2 B1 SZ ⊢
   generalize wr.heap.size=b1 at B1 ⊢
   have cb:=a0B (a0A B1.out) (j:=3) (v:=.int .i64 n) (by simpa using hx3)
   have hg:=H25.out (a6s S (S.stack.take i)) n W1.heap.size _ (N2.out.gr ((Gr.refl W1).alloc (.cells #[.int .i64 n] 3))) (by have:=HLEN.out;omega) SZ.out (a0T W1 _)
   rw[←HT.out]at hg
   clear hx3 hxl hx1
   go_wp2_with (go_at_fn 23;refine hg.mono ?_;rintro e V1 ⟨rfl,hM⟩;have N4:Aside (Nt w A S D bf (a6s S (S.stack.take (i+1))) V1):=hM.out.1;clear hM)
   go_roundg (S.stack.length-(i+1))
   case measure=>omega
   case rel=>exact⟨i+1,by first|rfl|go_num,by omega,by omega,N4⟩
  ·have hltz: ¬(i:Int)<(S.stack.length:Int):=by omega
   obtain rfl:i=S.stack.length:=by omega
   have N3:Aside (Nt w A S D bf (a8k S (S.obs.take 0)) wr):=(by have:=N1.out;rw[List.take_length]at this;exact this)
   generalize hAo:A.o.a=ioa
   have HAO:Hid (A.o.a=ioa):=hAo
   have c1:=a0B (a0A N3.out.s) (j:=1) (v:=.slice A.o.a S.obs.length A.o.c) rfl
   rw[hAo]at c1
   clear N1 hAo
   go_wp2
   go_loopg [82] S.obs.length (fun kx q wr=> ∃i:Nat,q= .int .i64 i∧i≤S.obs.length∧S.obs.length-i≤kx∧Aside (Nt w A S D bf (a8k S (S.obs.take i)) wr))
   case atStart=>exact⟨0,rfl,Nat.zero_le _,Nat.le_refl _,N3⟩
   case round=>
    clear N3
    obtain⟨i,rfl,hi,hkx,N1⟩:=hrel
    have wj:IntKind.i64.wrap ((i:Int)+1)=(i:Int)+1:=by rw[IntKind.wrap_i64];omega
    by_cases hlt:i<S.obs.length
    ·have hltz:(i:Int)<(S.obs.length:Int):=by omega
     obtain⟨B,O,hB,_,_,hc⟩:=HI.out.o.ld P hlt rfl
     have q0:Kp lo hh w wr:=(Kp.below N1.out.b lo).mono (Nat.le_refl _) HHH.out
     have lA:=hc wr q0
     rw[←HK.out]at lA
     rw[HAO.out]at hB
     subst hB
     have hT:=a8t S (S.obs.take i) S.obs[i]
     rw[←List.take_succ_eq_append_getElem hlt]at hT
     have hx3:(obV S.obs[i] (.slice (A.o.ad i) S.obs[i].effs.length (A.o.cp i)))[0]? =some (.int .i64 S.obs[i].id):=rfl
     have hxl:(obV S.obs[i] (.slice (A.o.ad i) S.obs[i].effs.length (A.o.cp i))).length=k41:=HK.out.symm
     have hx1:=a1P S.obs[i] (.slice (A.o.ad i) S.obs[i].effs.length (A.o.cp i)) rfl
     have hlen:(a8k S (S.obs.take i)).length≤900:=by have:=a7p HB.out (S.obs.take i);rw[List.length_take]at this;omega
     generalize obV S.obs[i] (.slice (A.o.ad i) S.obs[i].effs.length (A.o.cp i))=X0 at lA hx3 hxl hx1
     generalize S.obs[i].id=n at hT hx3
     have HT:Hid _:=hT
     have HLEN:Aside _:=hlen
     clear hT hlen hc q0
     have sA:=a0P P (a0q wr y41 41) X0 (by rw[hxl,HY3.out]) hx1
     have g1:Gr wr ((wr.alloc (.cells y41.toArray 41)).setCells wr.heap.size 0 X0):=Gr.sets (W:=wr) _ (Nat.le_refl _) _ _ ((Gr.refl _).alloc _)
     have b1:=a0Y (a0T wr (.cells y41.toArray 41)) X0 (by rw[hxl,HY3.out])
     have N2:Aside _:=N1.out.gr g1
     have B1:Aside _:=b1
     have SZ:Aside (w.heap.size+6≤((wr.alloc (.cells y41.toArray 41)).setCells wr.heap.size 0 X0).heap.size):=(by have h1:=a0L N2.out.f;have h2:=HBF.out;show _≤_;omega)
     clear g1 b1 N1
     go_upto_region 25 with fail
     clear lA sA
     have hb0:wr.heap.size=wr.heap.size:=rfl
     generalize (wr.alloc (.cells y41.toArray 41)).setCells wr.heap.size 0 X0=W1 at N2 B1 SZ ⊢
     generalize wr.heap.size=b1 at B1 ⊢
     have cb:=a0B (a0A B1.out) (j:=0) (v:=.int .i64 n) (by simpa using hx3)
     have cf:=a0B (a0A N2.out.f) (j:=0) (v:=.func (.func 22) #[] #[.pointer (some ⟨w.heap.size+1+1+1+1,0,none⟩)]) rfl
     have hg:=H22.out (a8k S (S.obs.take i)) n W1.heap.size _ (N2.out.gr ((Gr.refl W1).alloc (.cells #[.int .i64 n] 3))) (by have:=HLEN.out;omega) SZ.out (a0T W1 _)
     rw[←HT.out]at hg
     clear hx3 hxl hx1
     go_wp2_with (go_at_fn 23;refine hg.mono ?_;rintro e V1 ⟨rfl,hM⟩;have N4:Aside (Nt w A S D bf (a8k S (S.obs.take (i+1))) V1):=hM.out.1;clear hM)
     go_roundg (S.obs.length-(i+1))
     case measure=>omega
     case rel=>exact⟨i+1,by first|rfl|go_num,by omega,by omega,N4⟩
    ·have hltz: ¬(i:Int)<(S.obs.length:Int):=by omega
     obtain rfl:i=S.obs.length:=by omega
     have N3:Aside (Nt w A S D bf (a6O S (xs.take 0)) wr):=(by have:=N1.out;rw[List.take_length]at this;exact this)
     have c7:=a0B (a0A N3.out.s) (j:=7) (v:=.slice A.s.a S.stack.length A.s.c) rfl
     have c8:=a0B (a0A N3.out.s) (j:=8) (v:=.slice A.w.a S.waits.length A.w.c) rfl
     have N5:Aside _:=N3.out.gr ((Gr.refl wr).alloc (.cells [.slice A.s.a S.stack.length A.s.c,.slice A.w.a S.waits.length A.w.c].toArray 26))
     have hg:=H26.out wr.heap.size _ ((Kp.below N5.out.b lo).mono (Nat.le_refl _) HHH.out) (Nat.le_trans HHH.out N5.out.b.size) (a0T wr (.cells [.slice A.s.a S.stack.length A.s.c,.slice A.w.a S.waits.length A.w.c].toArray 26))
     have SZ:Aside (w.heap.size+6≤wr.heap.size):=(by have h1:=a0L N3.out.f;have h2:=HBF.out;show _≤_;omega)
     clear N1 N3
     go_upto_block 10 with(go_at_fn 26;refine hg.mono ?_;rintro e V0 ⟨qa,qc,X,rfl,OX⟩;have N6:Aside (Nt w A S D bf (a6O S (xs.take 0)) V0):=N5.out.bel OX.out.2.2;have O7:Aside (V0.ownsRow (w.heap.size+6) 43 7 (.slice qa xs.length qc) xs.length X):=a1V OX.out.1 (by rw[World.size_alloc];have:=SZ.out;omega);have HROW:Aside _:=OX.out.2.1;clear OX)
     clear c7 c8 hg N5
     go_wp2
     go_loopg [100] xs.length (fun kx q wrr=> ∃i:Nat,q= .int .i64 i∧i≤xs.length∧xs.length-i≤kx∧Aside (Nt w A S D bf (a6O S (xs.take i)) wrr∧wrr.ownsRow (w.heap.size+6) 43 7 (.slice qa xs.length qc) xs.length X))
     case atStart=>exact⟨0,rfl,Nat.zero_le _,Nat.le_refl _,⟨N6.out,O7.out⟩⟩
     case round=>
      clear N6 O7
      obtain⟨i,rfl,hi,hkx,M⟩:=hrel
      have wj:IntKind.i64.wrap ((i:Int)+1)=(i:Int)+1:=by rw[IntKind.wrap_i64];omega
      by_cases hlt:i<xs.length
      ·have hltz:(i:Int)<(xs.length:Int):=by omega
       obtain⟨g,hg⟩:=a1m M.out.2 (by omega)
       subst hg
       obtain⟨X0,hxl0,hx1,hx3,hxj⟩:=HROW.out i hlt
       have lA:=b6w P M.out.2 hlt X0 hxl0 hxj
       have hT:=a8s S (xs.take i) xs[i]
       rw[←List.take_succ_eq_append_getElem hlt]at hT
       have hxl2:=hxl0.trans HK3.out.symm
       have hlen:(a6O S (xs.take i)).length≤900:=by have:=a7o HB.out (xs.take i);rw[List.length_take]at this;omega
       rw[←HK3.out]at lA
       generalize xs[i].id=n at hT hx3
       have HT:Hid _:=hT
       have HLEN:Aside _:=hlen
       clear hT hlen
       have sA:=a0P P (a0q wr y43 43) X0 (by rw[hxl2,HY4.out]) hx1
       have g1:Gr wr ((wr.alloc (.cells y43.toArray 43)).setCells wr.heap.size 0 X0):=Gr.sets (W:=wr) _ (Nat.le_refl _) _ _ ((Gr.refl _).alloc _)
       have b1:=a0Y (a0T wr (.cells y43.toArray 43)) X0 (by rw[hxl2,HY4.out])
       have N2:Aside _:=M.out.1.gr g1
       have O2:Aside (((wr.alloc (.cells y43.toArray 43)).setCells wr.heap.size 0 X0).ownsRow (w.heap.size+6) 43 7 (.slice (some ⟨g,0,none⟩) xs.length qc) xs.length X):=M.out.2.kept (a0i g1) (by simp[Value.ownBlock])
       have B1:Aside _:=b1
       have SZ2:Aside (w.heap.size+6≤((wr.alloc (.cells y43.toArray 43)).setCells wr.heap.size 0 X0).heap.size):=(by have h1:=a0L N2.out.f;have h2:=HBF.out;show _≤_;omega)
       clear g1 b1 M
       go_upto_region 30 with fail
       clear lA sA
       generalize (wr.alloc (.cells y43.toArray 43)).setCells wr.heap.size 0 X0=W1 at N2 O2 B1 SZ2 ⊢
       generalize wr.heap.size=b1 at B1 ⊢
       have cb:=a0B (a0A B1.out) (j:=0) (v:=.int .i64 n) (by simpa using hx3)
       have gA:Gr W1 (W1.alloc (.cells #[.int .i64 n] 3)):=(Gr.refl W1).alloc _
       have hg:=H27.out (a6O S (xs.take i)) n W1.heap.size _ (N2.out.gr gA) (by have:=HLEN.out;omega) SZ2.out (a0T W1 _)
       have O3:Aside ((W1.alloc (.cells #[.int .i64 n] 3)).ownsRow (w.heap.size+6) 43 7 (.slice (some ⟨g,0,none⟩) xs.length qc) xs.length X):=World.ownsRow.kept O2.out (a0i gA) (by simp[Value.ownBlock])
       rw[←HT.out]at hg
       clear hx3 hxl2 hx1 gA
       go_wp2_with (go_at_fn 23;refine hg.mono ?_;rintro e V1 ⟨rfl,hM⟩;have N4:Aside (Nt w A S D bf (a6O S (xs.take (i+1))) V1∧V1.ownsRow (w.heap.size+6) 43 7 (.slice (some ⟨g,0,none⟩) xs.length qc) xs.length X):=⟨hM.out.1,O3.out.kept hM.out.2 (.inr (fun e=>by have:=(O3.out.lt _ e).1;omega))⟩;clear hM)
       go_roundg (xs.length-(i+1))
       case measure=>omega
       case rel=>exact⟨i+1,by first|rfl|go_num,by omega,by omega,N4⟩
      ·have hltz: ¬(i:Int)<(xs.length:Int):=by omega
       obtain rfl:i=xs.length:=by omega
       have N7:Aside (Nt w A S D bf (ord S) wr):=(by have:=M.out.1;rw[List.take_length]at this;rw[HORD.out];exact this)
       clear M
       have cn:=a0B (a0A N7.out.n) (j:=0) (v:=.map (some (w.heap.size+1))) rfl
       go_wp2
       refine⟨by simp,.inl ⟨_,_,rfl,run_takeDeferred N7.out.d, ?_⟩⟩
       exact⟨.map (some (w.heap.size+1)),by simp[results,go_sem,Try.results8],HR.out _ N7.out⟩
end Go.Proofs.Ytcblehiddfnafaa.canonSame
namespace Go.Proofs.Ytcblehiddfnafaa.canonSame
open Go.Shelf Go.RowKit Go.Lib Go.Sort
theorem a6X{P:Program}{e k b:Nat}(h:(P.info? e).map (fun i=>(i.zero.map fun z=>z.cells.size,i.size,decide (i.bytes≤b)))=some (some k,k,true)):Inf P e k b:=by
 cases hi:P.info? e with
 |none=>rw[hi]at h;cases h
 |some i=>
  rw[hi]at h
  simp only[Option.map_some,Option.some.injEq,Prod.mk.injEq,Option.map_eq_some_iff,decide_eq_true_eq]at h
  obtain⟨⟨z,hz,h1⟩,h2,h3⟩:=h
  exact⟨i,z,hi.trans rfl,hz,h1,h2,h3⟩
theorem b5I:Inf Try.prog 3 1 1000:=a6X (by kernel_rfl)
theorem b0R:Inf Try.prog 25 1 1000:=a6X (by kernel_rfl)
theorem b5y:Inf Try.prog 41 14 1000:=a6X (by kernel_rfl)
theorem a9K:Inf Try.prog 43 7 1000:=a6X (by kernel_rfl)
theorem b4g:Inf Try.prog 45 2 1000:=a6X (by kernel_rfl)
theorem b7Q:Inf Try.prog 66 8 1000:=a6X (by kernel_rfl)
theorem b7P:Inf Try.prog 97 4 32:=a6X (by kernel_rfl)
end Go.Proofs.Ytcblehiddfnafaa.canonSame
namespace Go.Proofs.Ytcblehiddfnafaa.canonSame
open Go.Shelf Go.RowKit Go.Lib Go.Sort
def b4M(S:Std)(i:Nat):Nat→List Int
 |0=>a1f S i
 |1=>mor S.fi (a1f S i) (atL S.libs i)
 |2=>mor S.fi (mor S.fi (a1f S i) (atL S.libs i)) (atL S.hands i)
 |3=>mor S.fi (mor S.fi (mor S.fi (a1f S i) (atL S.libs i)) (atL S.hands i)) (atL S.graves i)
 |_=>b6x S i (a1f S i)
theorem b1A{lo hh bm:Nat}{w:World}{a:Option Addr}{ids:List Int}(h:a2o lo hh w a ids)(hb:hh≤bm)(hw:hh≤w.heap.size): ∀i (_:i<ids.length),∃B O,a=some ⟨B,O,none⟩∧ ∀W,w.grownBy W (some bm)→W.cell? ⟨B,O+i,none⟩=some (.int .i64 ids[i]):=fun i hi=>by
 rcases h with h|⟨B,O,e,h1,h2,h⟩
 ·rw[List.map_eq_nil_iff.1 h]at hi
  simp at hi
 ·refine⟨B,O,e,fun W hW=> ?_⟩
  have:=h i #[.int .i64 ids[i]] (by simp[hi]) 0 (.int .i64 ids[i]) rfl
  rw[Nat.mul_one,Nat.add_zero]at this
  rw[←this]
  unfold World.cell?
  rw[hW.block B (by omega) (fun e=>by injection e with e;omega)]
theorem b4L{S:Std}(h:Bo S)(i j:Nat):(b4M S i j).length≤(a1f S i).length+120:=by
 have e1:=a0a S.fi (atL S.libs i) (a1f S i)
 have e2:=a0a S.fi (atL S.hands i) (mor S.fi (a1f S i) (atL S.libs i))
 have e3:=a0a S.fi (atL S.graves i) (mor S.fi (mor S.fi (a1f S i) (atL S.libs i)) (atL S.hands i))
 have:=a0g h.libs i
 have:=a0g h.hands i
 have:=a0g h.graves i
 have e4:=a3c h i (a1f S i)
 match j with
 |0=>show(a1f S i).length≤_;omega
 |1=>show(mor S.fi _ _).length≤_;omega
 |2=>show(mor S.fi _ _).length≤_;omega
 |3=>show(mor S.fi _ _).length≤_;omega
 |_+4=>exact e4
theorem Nt.zn{w:World}{A:Lcs}{S:Std}{D bf:Nat}{o:List Int}{U:World}(h:Nt w A S D bf o U)(k:Int)(W:World)(g:U.grownBy W (some (w.heap.size+1))):
  Calls Try.prog 22 #[.int .i64 k,.pointer (some ⟨w.heap.size+1+1+1+1,0,none⟩)] W fun e w'=>e= .returned (.bool (zon S.obs k).isSome)∧w'=W:=by
 obtain⟨n,hy⟩:=h.y
 refine a8w (n:=n) (bm:=w.heap.size+1+1+1) k W ⟨(g.block _ (a0L h.z) (fun e=>by injection e with e;omega)).trans h.z,hy.keep (g.block _ hy.lt (fun e=>by injection e with e;omega))⟩
theorem b0K{_w W:World}{B bm:Nat}{n:Int}(hb:W.heap[B]? =some (.cells #[.int .i64 n] 3))(hne:B≠bm): ∀i (_:i< [n].length),∃B' O,some (⟨B,0,none⟩:Addr)=some ⟨B',O,none⟩∧ ∀W',W.grownBy W' (some bm)→W'.cell? ⟨B',O+i,none⟩=some (.int .i64 [n][i]):=fun i hi=>by
 obtain rfl:i=0:=by simpa using hi
 refine⟨B,0,rfl,fun W' hW=> ?_⟩
 exact a0B (a0A ((hW.block B (a0L hb) (fun e=>by injection e with e;exact hne e)).trans hb)) (j:=0) (v:=.int .i64 n) rfl
theorem Gv.nt{w W w':World}{A:Lcs}{S:Std}{D bf:Nat}{o o':List Int}(hN:Nt w A S D bf o W)(g:Gv W (w.heap.size+1+1) (w.heap.size+1) o' w'):Nt w A S D bf o' w'∧W.grownBy w' (some (w.heap.size+1)):=⟨hN.gv g,g.g⟩
theorem b8r(w:World)(A:Lcs)(S:Std)(D bf:Nat):Gn Try.prog w A S D bf (.func (.func 22) #[] #[.pointer (some ⟨w.heap.size+1+1+1+1,0,none⟩)]) fun o n=>mor S.fi o [n]:=fun o n B W hN ho hB hb=>by
 have h:=a3I (bn:=w.heap.size+1+1) (bm:=w.heap.size+1) (bz:=w.heap.size+1+1+1+1) (fun k=>(zon S.obs k).isSome) o [n] (some ⟨B,0,none⟩) 1 W (by omega) hN.n hN.m (by simp;omega) (b0K (_w:=w) hb (by omega)) (fun k W g=>hN.zn k W g)
 rw[b0T]at h
 refine h.mono ?_
 rintro e w' ⟨rfl,g⟩
 exact⟨rfl,g.out.nt hN⟩
theorem Nt.st{w:World}{A:Lcs}{S:Std}{D bf:Nat}{o:List Int}{U:World}(h:Nt w A S D bf o U)(k:Int)(W:World)(g:U.grownBy W (some (w.heap.size+1))):
  Calls Try.prog 25 #[.int .i64 k,.pointer (some ⟨bf,0,none⟩),.pointer (some ⟨w.heap.size+1+1+1+1,0,none⟩)] W fun e w'=>e= .returned (.bool ((zon S.obs k).isSome&&(zon S.obs k).getD 0==5))∧w'=W:=by
 obtain⟨n,hy⟩:=h.y
 have:=h.hf
 exact b2Q (n:=n) (bm:=w.heap.size+1+1+1) k W ⟨(g.block _ (a0L h.z) (fun e=>by injection e with e;omega)).trans h.z,hy.keep (g.block _ hy.lt (fun e=>by injection e with e;omega))⟩ ((g.block _ (a0L h.f) (fun e=>by injection e with e;omega)).trans h.f)
theorem b8q(w:World)(A:Lcs)(S:Std)(D bf:Nat):Gn Try.prog w A S D bf (.func (.func 25) #[] #[.pointer (some ⟨bf,0,none⟩),.pointer (some ⟨w.heap.size+1+1+1+1,0,none⟩)]) fun o n=>if b1k S n then mor S.fi o [n]else o:=fun o n B W hN ho hB hb=>by
 have h:=a9O (bn:=w.heap.size+1+1) (bm:=w.heap.size+1) (bo:=bf) (bz:=w.heap.size+1+1+1+1) (fun k=>(zon S.obs k).isSome&&(zon S.obs k).getD 0==5) o [n] (some ⟨B,0,none⟩) 1 W (by omega) hN.n hN.m (by simp;omega) (b0K (_w:=w) hb (by omega)) (fun k W g=>hN.st k W g)
 rw[b5z]at h
 refine h.mono ?_
 rintro e w' ⟨rfl,g⟩
 exact⟨rfl,g.out.nt hN⟩
theorem b8p(w:World)(A:Lcs)(S:Std)(D bf:Nat):Gn Try.prog w A S D bf (.func (.func 27) #[] #[]) fun o n=>if plc n o<o.length then o else o++ [n]:=fun o n B W hN ho hB hb=>by
 have h:=a9N (bn:=w.heap.size+1+1) (bm:=w.heap.size+1) (fun _=>true) o [n] (some ⟨B,0,none⟩) 1 W (by omega) hN.n hN.m (by simp;omega) (b0K (_w:=w) hb (by omega)) (fun k W _=>b3e k W)
 rw[b6A]at h
 refine h.mono ?_
 rintro e w' ⟨rfl,g⟩
 exact⟨rfl,g.out.nt hN⟩
theorem b7S: ∀(n:Nat) (w:World),n*1000≤140737488355328→Calls Try.prog 58 #[.slice none 0 0,.int .i64 n] w fun e w'=> ∃v,e= .returned v∧w'.ownsRow w.heap.size 43 7 v 0 []∧Below w.heap.size w w':=fun n w h=>b1s a1L Try.func58 a9K n w h
set_option linter.unusedVariables false in
set_option maxRecDepth 100000 in
set_option maxHeartbeats 8000000 in
theorem b1m(A:Lcs)(S:Std)(w:World)(hB:Bo S){lo hh:Nat}(hhh:hh≤w.heap.size)(hI:StI lo hh w A S)(R:Ending→World→Prop)
  (c:Code) (D:Nat) (W:World) (hc:Try.f8.body.bind (a0Z 6)=some c) (hZ:Zd w A S D W) (hs:w.heap.size+6≤W.heap.size)
  (hR: ∀bf W,w.heap.size+6≤bf→Nt w A S D bf (ord S) W→R (.returned (.map (some (w.heap.size+1)))) (W.putObj D (.deferred none))):
  c.wp Try.prog (bodyPostM Fence.wide 5 Try.prog Try.f8 R) {tmps:=zdF w A S,defers:=[{target:=.collected D,args:= #[]}]} W:=by
 have mixed:=a1L.mixed
 have hc':=Option.some.inj ((show _=Try.f8.body.bind (a0Z 6)from rfl).trans hc)
 clear hc
 subst hc'
 unfold zdF
 have N0:Aside (Nt w A S D W.heap.size [] (W.alloc (.cells [Value.func (.func 22) #[] #[.pointer (some ⟨w.heap.size+1+1+1+1,0,none⟩)]].toArray 59))):=Nt.start hZ hs
 have c0:=a0B (a0A N0.out.s) (j:=0) (v:=.slice A.p.a S.pl.length A.p.c) rfl
 have hp5:=hB.pl
 clear hZ
 go_upto_region 7 with fail
 generalize hbf:W.heap.size=bf at N0 c0 ⊢
 generalize W.alloc (.cells [Value.func (.func 22) #[] #[.pointer (some ⟨w.heap.size+1+1+1+1,0,none⟩)]].toArray 59)=W1 at N0 c0 ⊢
 go_wp2
 have HB:Aside (Bo S):=hB
 have HI:Aside (StI lo hh w A S):=hI
 have HR:Aside _:=hR
 clear hR
 clear hB hI c0
 go_loopg [35] S.pl.length (fun kx s35 wr=> ∃i:Nat,s35= .int .i64 i∧i≤S.pl.length∧S.pl.length-i≤kx∧Aside (Nt w A S D bf (a1f S i) wr))
 case atStart=>exact⟨0,rfl,Nat.zero_le _,Nat.le_refl _,N0⟩
 case round=>
  clear N0
  obtain⟨i,rfl,hi,hkx,N1⟩:=hrel
  have wj:IntKind.i64.wrap ((i:Int)+1)=(i:Int)+1:=by rw[IntKind.wrap_i64];omega
  by_cases hlt:i<S.pl.length
  ·have hltz:(i:Int)<(S.pl.length:Int):=by omega
   have cl:=a0B (a0A N1.out.s) (j:=2) (v:=.slice A.l.a S.libs.length A.l.c) rfl
   have ch:=a0B (a0A N1.out.s) (j:=3) (v:=.slice A.h.a S.hands.length A.h.c) rfl
   have cg:=a0B (a0A N1.out.s) (j:=4) (v:=.slice A.g.a S.graves.length A.g.c) rfl
   have cx:=a0B (a0A N1.out.s) (j:=5) (v:=.slice A.x.a S.exiles.length A.x.c) rfl
   have N2:Aside (Nt w A S D bf (b4M S i 0) (wr.alloc (.cells #[.slice A.l.a S.libs.length A.l.c,.slice A.h.a S.hands.length A.h.c,.slice A.g.a S.graves.length A.g.c,.slice A.x.a S.exiles.length A.x.c] 24))):=N1.out.gr ((Gr.refl _).alloc _)
   have bl:=a0T wr (.cells #[.slice A.l.a S.libs.length A.l.c,.slice A.h.a S.hands.length A.h.c,.slice A.g.a S.graves.length A.g.c,.slice A.x.a S.exiles.length A.x.c] 24)
   have BL:Aside _:=bl
   have HBW:Aside (w.heap.size+6≤wr.heap.size):=(by have:=a0L N1.out.f;have:=N1.out.hf;show w.heap.size+6≤wr.heap.size;omega)
   clear bl N1
   go_wp2
   have hbl:w.heap.size+6≤wr.heap.size:=by
    have h1:=HBW.out
    exact h1
   generalize wr.heap.size=bl at BL hbl ⊢
   generalize wr.alloc (.cells #[.slice A.l.a S.libs.length A.l.c,.slice A.h.a S.hands.length A.h.c,.slice A.g.a S.graves.length A.g.c,.slice A.x.a S.exiles.length A.x.c] 24)=W2 at N2 BL ⊢
   have HBL:Aside _:=hbl
   clear hbl cl ch cg cx
   go_loopg [48] 4 (fun kx s48 wr=> ∃j:Nat,s48= .int .i64 j∧j≤4∧4-j≤kx∧Aside (Nt w A S D bf (b4M S i j) wr∧wr.heap[bl]? =some (.cells [.slice A.l.a S.libs.length A.l.c,.slice A.h.a S.hands.length A.h.c,.slice A.g.a S.graves.length A.g.c,.slice A.x.a S.exiles.length A.x.c].toArray 24)))
   case atStart=>exact⟨0,rfl,Nat.zero_le _,Nat.le_refl _,⟨N2.out,BL.out⟩⟩
   case round=>
    clear N2 BL
    obtain⟨j,rfl,hj,hjx,M⟩:=hrel
    have wk:IntKind.i64.wrap ((j:Int)+1)=(j:Int)+1:=by rw[IntKind.wrap_i64];omega
    by_cases hl4:j<4
    ·have hj4:(j:Int)<4:=by omega
     obtain⟨Aj,ls,e1,e2,e3,e4⟩: ∃(Aj:Loc) (ls:List (List Int)),wr.cell? ⟨bl,j,none⟩=some (.slice Aj.a ls.length Aj.c)∧LstI lo hh w Aj ls∧(∀l∈ls,l.length≤30)∧b4M S i (j+1)=mor S.fi (b4M S i j) (atL ls i):=by
      obtain rfl|rfl|rfl|rfl:j=0∨j=1∨j=2∨j=3:=by omega
      ·exact⟨A.l,S.libs,a0B (a0A M.out.2) (j:=0) rfl,HI.out.l,HB.out.libs,rfl⟩
      ·exact⟨A.h,S.hands,a0B (a0A M.out.2) (j:=1) rfl,HI.out.h,HB.out.hands,rfl⟩
      ·exact⟨A.g,S.graves,a0B (a0A M.out.2) (j:=2) rfl,HI.out.g,HB.out.graves,rfl⟩
      ·exact⟨A.x,S.exiles,a0B (a0A M.out.2) (j:=3) rfl,HI.out.x,HB.out.exiles,rfl⟩
     have E2:Aside (LstI lo hh w Aj ls):=e2
     have E3:Aside _:=e3
     have E4:Hid _:=e4
     clear e2 e3 e4
     go_upto_region 13 with fail
     clear e1
     have N3:Aside (Nt w A S D bf (b4M S i j) wr.drew):=M.out.1.gr ((Gr.refl _).drew)
     have B3:Aside (wr.drew.heap[bl]? =_):=M.out.2
     have cf:=a0B (a0A M.out.1.f) (j:=0) (v:=.func (.func 22) #[] #[.pointer (some ⟨w.heap.size+1+1+1+1,0,none⟩)]) rfl
     have h24:=b6T Aj ls i wr.drew (E2.out.kp ((Kp.below N3.out.b lo).mono (Nat.le_refl _) hhh))
     go_still_tail 5,mixed
     still_call h24
     refine wpStill_nil ?_
     change wpList _ _ _ _ _ wr.drew
     clear cf h24 M
     generalize wr.drew=U0 at N3 B3 ⊢
     have hlen:(b4M S i j).length+(atL ls i).length≤2000:=by
      have h1:=b4L HB.out i j
      have h2:=a2C HB.out i
      have h3:=a0g E3.out i
      have h4:=HB.out.pl
      have h5:i*120≤5*120:=Nat.mul_le_mul_right _ (by omega)
      omega
     have hg:=a3I (bn:=w.heap.size+1+1) (bm:=w.heap.size+1) (bz:=w.heap.size+1+1+1+1) (fun k=>(zon S.obs k).isSome) (b4M S i j) (atL ls i) (atA Aj ls i) (atC Aj ls i) U0 (by omega) N3.out.n N3.out.m hlen (b1A (a9l (E2.out.kp ((Kp.below N3.out.b lo).mono (Nat.le_refl _) hhh)) i) (by omega) (Nat.le_trans hhh N3.out.b.size)) (fun k W g=>N3.out.zn k W g)
     rw[b0T,←E4.out]at hg
     clear hlen
     go_wp2_with (go_at_call 23;refine hg.mono ?_;rintro e V1 ⟨rfl,GV⟩;have N4:Aside (Nt w A S D bf (b4M S i (j+1)) V1∧V1.heap[bl]? =some (.cells [.slice A.l.a S.libs.length A.l.c,.slice A.h.a S.hands.length A.h.c,.slice A.g.a S.graves.length A.g.c,.slice A.x.a S.exiles.length A.x.c].toArray 24)):=⟨N3.out.gv GV.out,(GV.out.g.block bl (a0L B3.out) (by have:=HBL.out;exact fun e=>by injection e with e;omega)).trans B3.out⟩;clear GV)
     go_roundg (4-(j+1))
     case measure=>omega
     case rel=>exact⟨j+1,by first|rfl|go_num,by omega,by omega,N4⟩
    ·obtain rfl:j=4:=by omega
     have N5:Aside (Nt w A S D bf (a1f S (i+1)) wr):=by rw[a6P];exact M.out.1
     clear M
     go_wp2
     go_roundg (S.pl.length-(i+1))
     case measure=>omega
     case rel=>exact⟨i+1,by first|rfl|go_num,by omega,by omega,N5⟩
  ·obtain rfl:i=S.pl.length:=by omega
   have cf:=a0B (a0A N1.out.f) (j:=0) (v:=.func (.func 22) #[] #[.pointer (some ⟨w.heap.size+1+1+1+1,0,none⟩)]) rfl
   have c6:=a0B (a0A N1.out.s) (j:=6) (v:=.slice A.f.a S.field.length A.f.c) rfl
   have hlen:(a1f S S.pl.length).length+S.field.length≤2000:=by
    have h2:=a2C HB.out S.pl.length
    have h3:=HB.out.field
    have h4:=HB.out.pl
    have h5:S.pl.length*120≤5*120:=Nat.mul_le_mul_right _ (by omega)
    omega
   have hg:=a3I (bn:=w.heap.size+1+1) (bm:=w.heap.size+1) (bz:=w.heap.size+1+1+1+1) (fun k=>(zon S.obs k).isSome) (a1f S S.pl.length) S.field A.f.a A.f.c wr (by omega) N1.out.n N1.out.m hlen (b1A (RowsI.kp HI.out.f ((Kp.below N1.out.b lo).mono (Nat.le_refl _) hhh)) (by omega) (Nat.le_trans hhh N1.out.b.size)) (fun k W g=>N1.out.zn k W g)
   rw[b0T]at hg
   clear hlen
   go_upto_region 16 with fail
   rename_i hKK
   have HKK:Aside _:=hKK
   clear hKK
   go_wp2_with (go_at_call 23;refine hg.mono ?_;rintro e V1 ⟨rfl,GV⟩;have N2:Aside (Nt w A S D bf (b6X S) V1):=N1.out.gv GV.out;clear GV)
   refine HKK.out _ _ ?_
   clear HKK
   refine b2k a1L rfl rfl rfl rfl Try.isAgg34 Try.sizeOf34 Try.zeroValue34 Try.underlying54 Try.isAgg59 Try.sizeOf59 Try.underlying94 (enters_of Try.func23 (by kernel_rfl) rfl) (enters_of Try.func26 (by kernel_rfl) rfl) A S w HB.out hhh HI.out R D bf (b8q w A S D bf) (b8r w A S D bf) (b8p w A S D bf) (S.stack++S.waits) rfl (by rw[List.length_append];have:=HB.out.stack;have:=HB.out.waits;omega) (fun b W k hk hb=> ?_) (fun W hN=>HR.out bf W N2.out.hf hN) _ V1 (by kernel_rfl) N2.out N2.out.hf _ _ _ _ _ _ _ _ _ _ _ _ _ _ _ _ _ _ _ _ _ _ _ _ _ _ _ _ _ _ _ _ _ _ _ _ _ _ _ _ _ _ _ _ _ _ _ _ _ _ _ _ _ _ _ _ _ _ _ _ _ _ _ _ _ _ _ _ _ _ _ _ _ _ _ _ _ _ _ _ _ _ _ _ _ _ _ _ _ _ _ _ _ _ _ _ _ _ _ _ _ _ _ _ _ _ _ _
   refine(a9e a1L Try.underlying94 Try.func26 (enters_of Try.func58 (by kernel_rfl) rfl) a9K b7S A.s A.w S.stack S.waits b W (by have:=HB.out.stack;omega) (by have:=HB.out.waits;omega) hk (HI.out.s.kp k) (HI.out.wt.kp k) hb).mono ?_
   rintro e w' ⟨v,rfl,ho,hbl⟩
   obtain⟨a,c,rfl⟩:=a6M ho
   rw[←List.length_append]at ho
   rw[←List.length_append]
   exact⟨a,c,_,rfl,ho,fun i h=>⟨b5P A.s A.w S.stack S.waits i,b4o _ _ _ _ h,b4n _ _ _ _ h,b6N _ _ _ _ h,fun j hj=>b1I _ _ _ _ h hj⟩,hbl⟩
theorem a8y(A:Lcs)(S:Std)(w:World)(hB:Bo S){lo hh:Nat}(hhh:hh≤w.heap.size)(hI:StI lo hh w A S):
  Calls Try.prog 8 #[.agg (stV A S).toArray] w fun e w'=> ∃b,e= .returned (.map (some b))∧w.heap.size≤b∧MapF w' b (ord S).length (nmO (ord S))∧Below w.heap.size w w':=by
 refine b1n a1L rfl rfl Try.func8 Try.func21 Try.func57 Try.underlying34 Try.isAgg34 Try.sizeOf34 Try.zeroValue34 Try.underlying54 Try.isAgg54 Try.sizeOf54 Try.zeroValue54 (enters_of Try.func21 (by kernel_rfl) rfl) (enters_of Try.func57 (by kernel_rfl) rfl) A S w hB hhh hI _ fun c D W hc hZ=> ?_
 refine b1m A S w hB hhh hI _ c D W hc hZ (by have:=(Array.getElem?_eq_some_iff.1 hZ.d).1;have:=hZ.h;omega) fun bf V hbf hN=>⟨w.heap.size+1,rfl,by omega, ?_, ?_⟩
 ·have:=hN.hd
  exact hN.m.keep (World.putObj_heap_other (by omega))
 ·have:=hN.hd
  exact hN.b.trans ⟨rfl,rfl,rfl,by simp[World.putObj],fun k hk=>World.putObj_heap_other (by omega)⟩
end Go.Proofs.Ytcblehiddfnafaa.canonSame
