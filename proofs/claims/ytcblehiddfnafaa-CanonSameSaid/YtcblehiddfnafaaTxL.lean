/-
  Chapter 28: the answer's Same, walked.
-/
import Derived.Test.YtcblehiddfnafaaTxK
namespace Go.Proofs.Ytcblehiddfnafaa.canonSame
open Go.Shelf Go.RowKit Go.Lib Go.Sort
theorem b6h{S S':Std}(hpl:S.pl=S'.pl)(hobs:S.obs=S'.obs)(hlibs:S.libs=S'.libs)(hhands:S.hands=S'.hands)(hgraves:S.graves=S'.graves)(hexiles:S.exiles=S'.exiles)(hfield:S.field=S'.field)(hstack:S.stack=S'.stack)(hwaits:S.waits=S'.waits)(hk:S.cast.kind=S'.cast.kind)(ho:S.cast.obj=S'.cast.obj)(ha:S.cast.abil=S'.cast.abil)(hp:S.cast.paying=S'.cast.paying)(ht:S.cast.ts=S'.cast.ts)(hturn:S.turn=S'.turn)(hactive:S.active=S'.active)(hphase:S.phase=S'.phase)(hprio:S.prio=S'.prio)(hpasses:S.passes=S'.passes)(hblocker:S.blocker=S'.blocker)(hnext:S.next=S'.next)(hstamp:S.stamp=S'.stamp)(hused:S.used=S'.used)(houtcome:S.outcome=S'.outcome)(hwinner:S.winner=S'.winner):S=S':=by
 obtain⟨_,_,_,_,_,_,_,_,_,_,_,_,_,_,_,_,_,_,⟨_,_,_,_,_⟩,_,_⟩:=S
 obtain⟨_,_,_,_,_,_,_,_,_,_,_,_,_,_,_,_,_,_,⟨_,_,_,_,_⟩,_,_⟩:=S'
 simp only at hpl hobs hlibs hhands hgraves hexiles hfield hstack hwaits hk ho ha hp ht hturn hactive hphase hprio hpasses hblocker hnext hstamp hused houtcome hwinner
 subst hpl hobs hlibs hhands hgraves hexiles hfield hstack hwaits hk ho ha hp ht hturn hactive hphase hprio hpasses hblocker hnext hstamp hused houtcome hwinner
 rfl
set_option maxHeartbeats 64000000 in
set_option maxRecDepth 100000 in
theorem b1d{P:Program}{k29 k31 k41 k43 k45 k66 k97:Nat}{y29 y31 y41 y43 y45 y66 y97:List Value}(L:LayS P k29 k31 k41 k43 k45 k66 k97 y29 y31 y41 y43 y45 y66 y97)(hk0: ¬k29=0)(hk29:k29=5)(hy3:y29.length=k29)(hk66:k66=8)(f9:P.funcs[9]? =some Try.f9)
  (e28: ∀args w,(callFunc 28 args).run P w= .ok (.enter 28 args) w) (e29: ∀args w,(callFunc 29 args).run P w= .ok (.enter 29 args) w) (e30: ∀args w,(callFunc 30 args).run P w= .ok (.enter 30 args) w) (e31: ∀args w,(callFunc 31 args).run P w= .ok (.enter 31 args) w) (e32: ∀args w,(callFunc 32 args).run P w= .ok (.enter 32 args) w)
  (ne66: ∀(x y:Pld) (W:World),Sem.run P (binOp .neq 66 (.agg (plV x).toArray) (.agg (plV y).toArray)) W= .ok (.bool (!(decide (x=y)))) W)
  (g66: ∀s t (xs ys:Array Value) W,Sem.run P (eqGuard .neq 66 s t (.agg xs) (.agg ys)) W= .ok () W)
  (h28: ∀(l m:List Obd) (A B':Loc) (w:World) (lo hh lo' hh':Nat) (_:l.length≤900) (_: ∀x∈l,x.effs.length≤maxLen) (_:hh≤w.heap.size) (_:hh'≤w.heap.size) (_:b1P lo hh w A l) (_:b1P lo' hh' w B' m),Calls P 28 #[.slice A.a l.length A.c,.slice B'.a m.length B'.c] w fun e w'=>e= .returned (.bool (decide (l=m)))∧Gr w w')
  (h29: ∀(l m:List (List Int)) (A B':Loc) (w:World) (lo hh lo' hh':Nat) (_:l.length≤900) (_: ∀x∈l,x.length≤900) (_:hh≤w.heap.size) (_:hh'≤w.heap.size) (_:LstI lo hh w A l) (_:LstI lo' hh' w B' m),Calls P 29 #[.slice A.a l.length A.c,.slice B'.a m.length B'.c] w fun e w'=>e= .returned (.bool (decide (l=m)))∧Gr w w')
  (h30: ∀(l m:List Int) (a b:Option Addr) (c d:Nat) (w:World) (lo hh lo' hh':Nat) (_:l.length≤900) (_:hh≤w.heap.size) (_:hh'≤w.heap.size) (_:a2o lo hh w a l) (_:a2o lo' hh' w b m),Calls P 30 #[.slice a l.length c,.slice b m.length d] w fun e w'=>e= .returned (.bool (decide (l=m)))∧Gr w w')
  (h31: ∀(l m:List Itm) (A B':Loc) (w:World) (lo hh lo' hh':Nat) (_:l.length≤900) (_: ∀x∈l,x.ts.length≤900) (_:hh≤w.heap.size) (_:hh'≤w.heap.size) (_:ItsI lo hh w A l) (_:ItsI lo' hh' w B' m),Calls P 31 #[.slice A.a l.length A.c,.slice B'.a m.length B'.c] w fun e w'=>e= .returned (.bool (decide (l=m)))∧Gr w w')
  (h32: ∀(l m:List (Int×Int)) (a b:Option Addr) (c d:Nat) (w:World) (lo hh lo' hh':Nat) (_:l.length≤900) (_:hh≤w.heap.size) (_:hh'≤w.heap.size) (_:a9n lo hh w a l) (_:a9n lo' hh' w b m),Calls P 32 #[.slice a l.length c,.slice b m.length d] w fun e w'=>e= .returned (.bool (decide (l=m)))∧Gr w w')
  (A A':Lcs) (S S':Std) (w:World) (hB:Bd S) {lo hh lo' hh':Nat} (h1:hh≤w.heap.size) (h2:hh'≤w.heap.size) (hA:StI lo hh w A S) (hB':StI lo' hh' w A' S'):
  Calls P 9 #[.agg (stV A S).toArray,.agg (stV A' S').toArray] w fun e w'=>e= .returned (.bool (decide (S=S')))∧Gr w w':=by
 have mixed:=L.mixed;have t3:=L.t3;have a3:=L.a3;have z3:=L.z3;have v3:=L.v3;have qu3:=run_underlying L.t3;have t4:=L.t4;have a4:=L.a4;have z4:=L.z4
 have t22:=L.t22;have a22:=L.a22;have z22:=L.z22;have qu22:=run_underlying L.t22
 have t23:=L.t23;have a23:=L.a23;have z23:=L.z23;have qu23:=run_underlying L.t23
 have t24:=L.t24;have a24:=L.a24;have z24:=L.z24;have qu24:=run_underlying L.t24
 have t25:=L.t25;have a25:=L.a25;have z25:=L.z25;have qu25:=run_underlying L.t25
 have t26:=L.t26;have a26:=L.a26;have z26:=L.z26;have qu26:=run_underlying L.t26
 have t27:=L.t27;have a27:=L.a27;have z27:=L.z27;have qu27:=run_underlying L.t27
 have qu29:=run_underlying L.t29;have a29:=L.a29;have z29:=L.z29;have v29:=L.v29
 have qu31:=run_underlying L.t31;have a31:=L.a31;have z31:=L.z31;have v31:=L.v31
 have qu66:=run_underlying L.t66;have a66:=L.a66;have z66:=L.z66;have v66:=L.v66
 have HA:Aside (StI lo hh w A S):=hA
 have HA':Aside (StI lo' hh' w A' S'):=hB'
 have HB:Aside (Bd S):=hB
 have H1:Aside _:=h1
 have H2:Aside _:=h2
 have H28:Aside _:=h28
 have H29:Aside _:=h29
 have H30:Aside _:=h30
 have H31:Aside _:=h31
 have H32:Aside _:=h32
 have NE:Aside _:=ne66
 have HK66:Hid (k66=8):=hk66
 have HK29:Hid (k29=5):=hk29
 have kb66: ¬k66=0:=by omega
 have kc29: ¬16777216<k29:=by omega
 obtain⟨g0,c2,c3⟩:=a0W w (stV A S) (stV A' S') 31 31
 have G0:Aside (Gr w ((w.alloc (.cells (stV A S).toArray 31)).alloc (.cells (stV A' S').toArray 31))):=g0
 have C2:Aside _:=c2
 have C3:Aside _:=c3
 clear hA hB hB' h1 h2 h28 h29 h30 h31 h32 ne66 hk66 hk29 g0 c2 c3
 go_enter f9,Try.ntmps9
 go_upto_region 1 with fail
 generalize hb3:w.heap.size+1=b3 at C3 ⊢
 generalize hb2:w.heap.size=b2 at C2 ⊢
 generalize (w.alloc (.cells (stV A S).toArray 31)).alloc (.cells (stV A' S').toArray 31)=W0 at G0 C2 C3 ⊢
 clear hb2 hb3
 have nope: ∀{b:Bool},S≠S'→b=false→b=decide (S=S'):=fun h h'=>by rw[h',decide_eq_false h]
 have NOPE:Aside _:= @nope
 clear nope
 have cp:=a0B (a0A C2.out) (j:=0) (v:=.slice A.p.a S.pl.length A.p.c) rfl
 have cp':=a0B (a0A C3.out) (j:=0) (v:=.slice A'.p.a S'.pl.length A'.p.c) rfl
 have hnp:=HB.out.pl
 by_cases hlm:S.pl.length=S'.pl.length
 ·have hd:((S.pl.length:Int) !=(S'.pl.length:Int))=false:=by simp[hlm]
  have HLM:Hid _:=hlm
  clear hlm
  go_upto_block 0 with fail
  clear cp cp' hd
  go_wp2
  go_loopg [5] S.pl.length (fun kx s5 wr=> ∃i:Nat,s5= .int .i64 i∧i≤S.pl.length∧S.pl.length-i≤kx∧Hid (S.pl.take i=S'.pl.take i)∧Aside (Gr W0 wr))
  case atStart=>exact⟨0,rfl,Nat.zero_le _,Nat.le_refl _,Eq.refl _,Gr.refl _⟩
  case round=>
   obtain⟨i,rfl,hi,hkx,HT,G1⟩:=hrel
   have wj:IntKind.i64.wrap ((i:Int)+1)=(i:Int)+1:=by rw[IntKind.wrap_i64];omega
   have cp:=a0B (a0A (a0M C2.out G1.out)) (j:=0) (v:=.slice A.p.a S.pl.length A.p.c) rfl
   have cp':=a0B (a0A (a0M C3.out G1.out)) (j:=0) (v:=.slice A'.p.a S'.pl.length A'.p.c) rfl
   rw[←HLM.out]at cp'
   by_cases hlt:i<S.pl.length
   ·have hltz:(i:Int)<(S.pl.length:Int):=by omega
    have hlm2:i<S'.pl.length:=by rw[←HLM.out];exact hlt
    obtain⟨B,O,hg,ca⟩:=RowsI.ld P HA.out.p hlt rfl
    obtain⟨B2,O2,hg',cb⟩:=RowsI.ld P HA'.out.p hlm2 rfl
    rw[hg]at cp
    rw[hg']at cp'
    have lx: ∀W,Gr wr W→Sem.run P (loadCellsFrom ⟨B,O+i*k66,none⟩ 0 k66 #[]) W= .ok (plV S.pl[i]).toArray W:=fun W hW=>by rw[HK66.out];exact ca W (Kp.gr ((G0.out.trans G1.out).trans hW) H1.out)
    have ly: ∀W,Gr wr W→Sem.run P (loadCellsFrom ⟨B2,O2+i*k66,none⟩ 0 k66 #[]) W= .ok (plV S'.pl[i]).toArray W:=fun W hW=>by rw[HK66.out];exact cb W (Kp.gr ((G0.out.trans G1.out).trans hW) H2.out)
    have nn:=NE.out S.pl[i] S'.pl[i]
    obtain⟨b,hb⟩: ∃b,decide (S.pl[i]=S'.pl[i])=b:=⟨_,rfl⟩
    rw[hb]at nn
    have HQ:Hid _:=hb
    have lx0:=lx _ (Gr.refl wr).drew
    have ly0:=ly _ (Gr.refl wr).drew
    generalize plV S.pl[i]=X at lx0 nn
    generalize plV S'.pl[i]=Y at ly0 nn
    clear hb ca cb hg hg' lx ly
    cases b with
    |false=>
     go_wp2
     go_big_region_o
     go_wp2
     go_returns
     refine⟨congrArg _ (congrArg _ (NOPE.out ?_ rfl)),(G0.out.trans G1.out).drew⟩
     intro h
     exact a1J hlt hlm2 (of_decide_eq_false HQ.out) (congrArg Std.pl h)
    |true=>
     have HT2:Hid (S.pl.take (i+1)=S'.pl.take (i+1)):=a0m hlt hlm2 HT.out (of_decide_eq_true HQ.out)
     go_wp2
     go_big_region_o
     go_wp2
     go_roundg (S.pl.length-(i+1))
     case measure=>omega
     case rel=>exact⟨i+1,by first|rfl|go_num,by omega,Nat.le_refl _,HT2,G1.out.drew⟩
   ·have hltz: ¬(i:Int)<(S.pl.length:Int):=by omega
    obtain rfl:i=S.pl.length:=by omega
    have HPL:Hid (S.pl=S'.pl):=a1F HLM.out HT.out
    go_upto_region 8 with fail
    clear cp cp'
    have C4:Aside _:=a0M C2.out G1.out
    have C5:Aside _:=a0M C3.out G1.out
    have G4:Aside (Gr w wr):=G0.out.trans G1.out
    clear C2 C3 G0 G1
    have cx0: ∀W,Gr wr W→W.cell? ⟨b2,1,none⟩=some (.slice A.o.a S.obs.length A.o.c):=fun W h=>a0B (a0A (a0M C4.out h)) rfl
    have cy0: ∀W,Gr wr W→W.cell? ⟨b3,1,none⟩=some (.slice A'.o.a S'.obs.length A'.o.c):=fun W h=>a0B (a0A (a0M C5.out h)) rfl
    have CX0:Aside _:=cx0
    have CY0:Aside _:=cy0
    clear cx0 cy0
    obtain⟨q0,hq0⟩: ∃q,decide (S.obs=S'.obs)=q:=⟨_,rfl⟩
    have k0:=fun(W:World) (hW:Gr wr W)=>H28.out S.obs S'.obs A.o A'.o W lo hh lo' hh' HB.out.obs (fun x hx=>(HB.out.effs x hx).1) (Nat.le_trans H1.out (G4.out.trans hW).le) (Nat.le_trans H2.out (G4.out.trans hW).le) (HA.out.o.kp (Kp.gr (G4.out.trans hW) H1.out)) (HA'.out.o.kp (Kp.gr (G4.out.trans hW) H2.out))
    rw[hq0]at k0
    have K0:Aside _:=k0
    have HQ0:Hid _:=hq0
    clear k0 hq0
    have cx1: ∀W,Gr wr W→W.cell? ⟨b2,2,none⟩=some (.slice A.l.a S.libs.length A.l.c):=fun W h=>a0B (a0A (a0M C4.out h)) rfl
    have cy1: ∀W,Gr wr W→W.cell? ⟨b3,2,none⟩=some (.slice A'.l.a S'.libs.length A'.l.c):=fun W h=>a0B (a0A (a0M C5.out h)) rfl
    have CX1:Aside _:=cx1
    have CY1:Aside _:=cy1
    clear cx1 cy1
    obtain⟨q1,hq1⟩: ∃q,decide (S.libs=S'.libs)=q:=⟨_,rfl⟩
    have k1:=fun(W:World) (hW:Gr wr W)=>H29.out S.libs S'.libs A.l A'.l W lo hh lo' hh' HB.out.libs.1 HB.out.libs.2 (Nat.le_trans H1.out (G4.out.trans hW).le) (Nat.le_trans H2.out (G4.out.trans hW).le) (HA.out.l.kp (Kp.gr (G4.out.trans hW) H1.out)) (HA'.out.l.kp (Kp.gr (G4.out.trans hW) H2.out))
    rw[hq1]at k1
    have K1:Aside _:=k1
    have HQ1:Hid _:=hq1
    clear k1 hq1
    have cx2: ∀W,Gr wr W→W.cell? ⟨b2,3,none⟩=some (.slice A.h.a S.hands.length A.h.c):=fun W h=>a0B (a0A (a0M C4.out h)) rfl
    have cy2: ∀W,Gr wr W→W.cell? ⟨b3,3,none⟩=some (.slice A'.h.a S'.hands.length A'.h.c):=fun W h=>a0B (a0A (a0M C5.out h)) rfl
    have CX2:Aside _:=cx2
    have CY2:Aside _:=cy2
    clear cx2 cy2
    obtain⟨q2,hq2⟩: ∃q,decide (S.hands=S'.hands)=q:=⟨_,rfl⟩
    have k2:=fun(W:World) (hW:Gr wr W)=>H29.out S.hands S'.hands A.h A'.h W lo hh lo' hh' HB.out.hands.1 HB.out.hands.2 (Nat.le_trans H1.out (G4.out.trans hW).le) (Nat.le_trans H2.out (G4.out.trans hW).le) (HA.out.h.kp (Kp.gr (G4.out.trans hW) H1.out)) (HA'.out.h.kp (Kp.gr (G4.out.trans hW) H2.out))
    rw[hq2]at k2
    have K2:Aside _:=k2
    have HQ2:Hid _:=hq2
    clear k2 hq2
    have cx3: ∀W,Gr wr W→W.cell? ⟨b2,4,none⟩=some (.slice A.g.a S.graves.length A.g.c):=fun W h=>a0B (a0A (a0M C4.out h)) rfl
    have cy3: ∀W,Gr wr W→W.cell? ⟨b3,4,none⟩=some (.slice A'.g.a S'.graves.length A'.g.c):=fun W h=>a0B (a0A (a0M C5.out h)) rfl
    have CX3:Aside _:=cx3
    have CY3:Aside _:=cy3
    clear cx3 cy3
    obtain⟨q3,hq3⟩: ∃q,decide (S.graves=S'.graves)=q:=⟨_,rfl⟩
    have k3:=fun(W:World) (hW:Gr wr W)=>H29.out S.graves S'.graves A.g A'.g W lo hh lo' hh' HB.out.graves.1 HB.out.graves.2 (Nat.le_trans H1.out (G4.out.trans hW).le) (Nat.le_trans H2.out (G4.out.trans hW).le) (HA.out.g.kp (Kp.gr (G4.out.trans hW) H1.out)) (HA'.out.g.kp (Kp.gr (G4.out.trans hW) H2.out))
    rw[hq3]at k3
    have K3:Aside _:=k3
    have HQ3:Hid _:=hq3
    clear k3 hq3
    have cx4: ∀W,Gr wr W→W.cell? ⟨b2,5,none⟩=some (.slice A.x.a S.exiles.length A.x.c):=fun W h=>a0B (a0A (a0M C4.out h)) rfl
    have cy4: ∀W,Gr wr W→W.cell? ⟨b3,5,none⟩=some (.slice A'.x.a S'.exiles.length A'.x.c):=fun W h=>a0B (a0A (a0M C5.out h)) rfl
    have CX4:Aside _:=cx4
    have CY4:Aside _:=cy4
    clear cx4 cy4
    obtain⟨q4,hq4⟩: ∃q,decide (S.exiles=S'.exiles)=q:=⟨_,rfl⟩
    have k4:=fun(W:World) (hW:Gr wr W)=>H29.out S.exiles S'.exiles A.x A'.x W lo hh lo' hh' HB.out.exiles.1 HB.out.exiles.2 (Nat.le_trans H1.out (G4.out.trans hW).le) (Nat.le_trans H2.out (G4.out.trans hW).le) (HA.out.x.kp (Kp.gr (G4.out.trans hW) H1.out)) (HA'.out.x.kp (Kp.gr (G4.out.trans hW) H2.out))
    rw[hq4]at k4
    have K4:Aside _:=k4
    have HQ4:Hid _:=hq4
    clear k4 hq4
    have cx5: ∀W,Gr wr W→W.cell? ⟨b2,6,none⟩=some (.slice A.f.a S.field.length A.f.c):=fun W h=>a0B (a0A (a0M C4.out h)) rfl
    have cy5: ∀W,Gr wr W→W.cell? ⟨b3,6,none⟩=some (.slice A'.f.a S'.field.length A'.f.c):=fun W h=>a0B (a0A (a0M C5.out h)) rfl
    have CX5:Aside _:=cx5
    have CY5:Aside _:=cy5
    clear cx5 cy5
    obtain⟨q5,hq5⟩: ∃q,decide (S.field=S'.field)=q:=⟨_,rfl⟩
    have k5:=fun(W:World) (hW:Gr wr W)=>H30.out S.field S'.field A.f.a A'.f.a A.f.c A'.f.c W lo hh lo' hh' HB.out.field (Nat.le_trans H1.out (G4.out.trans hW).le) (Nat.le_trans H2.out (G4.out.trans hW).le) (RowsI.kp HA.out.f (Kp.gr (G4.out.trans hW) H1.out)) (RowsI.kp HA'.out.f (Kp.gr (G4.out.trans hW) H2.out))
    rw[hq5]at k5
    have K5:Aside _:=k5
    have HQ5:Hid _:=hq5
    clear k5 hq5
    have cx6: ∀W,Gr wr W→W.cell? ⟨b2,7,none⟩=some (.slice A.s.a S.stack.length A.s.c):=fun W h=>a0B (a0A (a0M C4.out h)) rfl
    have cy6: ∀W,Gr wr W→W.cell? ⟨b3,7,none⟩=some (.slice A'.s.a S'.stack.length A'.s.c):=fun W h=>a0B (a0A (a0M C5.out h)) rfl
    have CX6:Aside _:=cx6
    have CY6:Aside _:=cy6
    clear cx6 cy6
    obtain⟨q6,hq6⟩: ∃q,decide (S.stack=S'.stack)=q:=⟨_,rfl⟩
    have k6:=fun(W:World) (hW:Gr wr W)=>H31.out S.stack S'.stack A.s A'.s W lo hh lo' hh' HB.out.stack.1 HB.out.stack.2 (Nat.le_trans H1.out (G4.out.trans hW).le) (Nat.le_trans H2.out (G4.out.trans hW).le) (HA.out.s.kp (Kp.gr (G4.out.trans hW) H1.out)) (HA'.out.s.kp (Kp.gr (G4.out.trans hW) H2.out))
    rw[hq6]at k6
    have K6:Aside _:=k6
    have HQ6:Hid _:=hq6
    clear k6 hq6
    have cx7: ∀W,Gr wr W→W.cell? ⟨b2,8,none⟩=some (.slice A.w.a S.waits.length A.w.c):=fun W h=>a0B (a0A (a0M C4.out h)) rfl
    have cy7: ∀W,Gr wr W→W.cell? ⟨b3,8,none⟩=some (.slice A'.w.a S'.waits.length A'.w.c):=fun W h=>a0B (a0A (a0M C5.out h)) rfl
    have CX7:Aside _:=cx7
    have CY7:Aside _:=cy7
    clear cx7 cy7
    obtain⟨q7,hq7⟩: ∃q,decide (S.waits=S'.waits)=q:=⟨_,rfl⟩
    have k7:=fun(W:World) (hW:Gr wr W)=>H31.out S.waits S'.waits A.w A'.w W lo hh lo' hh' HB.out.waits.1 HB.out.waits.2 (Nat.le_trans H1.out (G4.out.trans hW).le) (Nat.le_trans H2.out (G4.out.trans hW).le) (HA.out.wt.kp (Kp.gr (G4.out.trans hW) H1.out)) (HA'.out.wt.kp (Kp.gr (G4.out.trans hW) H2.out))
    rw[hq7]at k7
    have K7:Aside _:=k7
    have HQ7:Hid _:=hq7
    clear k7 hq7
    have FX0:=CX0.out wr (Gr.refl _)
    have FY0:=CY0.out wr (Gr.refl _)
    cases q0 with
    |false=>
     go_wp2_with (first|(go_at_fn 28;refine Calls.mono (K0.out wr (Gr.refl _)) ?_;rintro e u0 ⟨rfl,hg⟩;have M0:Aside (Gr wr u0):=(Gr.refl _).trans hg;clear hg))
     go_returns
     exact⟨congrArg _ (congrArg _ (NOPE.out (fun h=>of_decide_eq_false HQ0.out (congrArg Std.obs h)) rfl)),G4.out.trans M0.out⟩
    |true=>
     cases q1 with
     |false=>
      go_wp2_with (first|(go_at_fn 28;refine Calls.mono (K0.out wr (Gr.refl _)) ?_;rintro e u0 ⟨rfl,hg⟩;have M0:Aside (Gr wr u0):=(Gr.refl _).trans hg;clear hg;have FX1:=CX1.out u0 M0.out;have FY1:=CY1.out u0 M0.out)|(go_at_fn 29;refine Calls.mono (K1.out u0 M0.out) ?_;rintro e u1 ⟨rfl,hg⟩;have M1:Aside (Gr wr u1):=M0.out.trans hg;clear hg))
      go_returns
      exact⟨congrArg _ (congrArg _ (NOPE.out (fun h=>of_decide_eq_false HQ1.out (congrArg Std.libs h)) rfl)),G4.out.trans M1.out⟩
     |true=>
      cases q2 with
      |false=>
       go_wp2_with (first|(go_at_fn 28;refine Calls.mono (K0.out wr (Gr.refl _)) ?_;rintro e u0 ⟨rfl,hg⟩;have M0:Aside (Gr wr u0):=(Gr.refl _).trans hg;clear hg;have FX1:=CX1.out u0 M0.out;have FY1:=CY1.out u0 M0.out)|(go_at_fn 29;refine Calls.mono (K1.out u0 M0.out) ?_;rintro e u1 ⟨rfl,hg⟩;have M1:Aside (Gr wr u1):=M0.out.trans hg;clear hg;have FX2:=CX2.out u1 M1.out;have FY2:=CY2.out u1 M1.out)|(go_at_fn 29;refine Calls.mono (K2.out u1 M1.out) ?_;rintro e u2 ⟨rfl,hg⟩;have M2:Aside (Gr wr u2):=M1.out.trans hg;clear hg))
       go_returns
       exact⟨congrArg _ (congrArg _ (NOPE.out (fun h=>of_decide_eq_false HQ2.out (congrArg Std.hands h)) rfl)),G4.out.trans M2.out⟩
      |true=>
       cases q3 with
       |false=>
        go_wp2_with (first|(go_at_fn 28;refine Calls.mono (K0.out wr (Gr.refl _)) ?_;rintro e u0 ⟨rfl,hg⟩;have M0:Aside (Gr wr u0):=(Gr.refl _).trans hg;clear hg;have FX1:=CX1.out u0 M0.out;have FY1:=CY1.out u0 M0.out)|(go_at_fn 29;refine Calls.mono (K1.out u0 M0.out) ?_;rintro e u1 ⟨rfl,hg⟩;have M1:Aside (Gr wr u1):=M0.out.trans hg;clear hg;have FX2:=CX2.out u1 M1.out;have FY2:=CY2.out u1 M1.out)|(go_at_fn 29;refine Calls.mono (K2.out u1 M1.out) ?_;rintro e u2 ⟨rfl,hg⟩;have M2:Aside (Gr wr u2):=M1.out.trans hg;clear hg;have FX3:=CX3.out u2 M2.out;have FY3:=CY3.out u2 M2.out)|(go_at_fn 29;refine Calls.mono (K3.out u2 M2.out) ?_;rintro e u3 ⟨rfl,hg⟩;have M3:Aside (Gr wr u3):=M2.out.trans hg;clear hg))
        go_returns
        exact⟨congrArg _ (congrArg _ (NOPE.out (fun h=>of_decide_eq_false HQ3.out (congrArg Std.graves h)) rfl)),G4.out.trans M3.out⟩
       |true=>
        cases q4 with
        |false=>
         go_wp2_with (first|(go_at_fn 28;refine Calls.mono (K0.out wr (Gr.refl _)) ?_;rintro e u0 ⟨rfl,hg⟩;have M0:Aside (Gr wr u0):=(Gr.refl _).trans hg;clear hg;have FX1:=CX1.out u0 M0.out;have FY1:=CY1.out u0 M0.out)|(go_at_fn 29;refine Calls.mono (K1.out u0 M0.out) ?_;rintro e u1 ⟨rfl,hg⟩;have M1:Aside (Gr wr u1):=M0.out.trans hg;clear hg;have FX2:=CX2.out u1 M1.out;have FY2:=CY2.out u1 M1.out)|(go_at_fn 29;refine Calls.mono (K2.out u1 M1.out) ?_;rintro e u2 ⟨rfl,hg⟩;have M2:Aside (Gr wr u2):=M1.out.trans hg;clear hg;have FX3:=CX3.out u2 M2.out;have FY3:=CY3.out u2 M2.out)|(go_at_fn 29;refine Calls.mono (K3.out u2 M2.out) ?_;rintro e u3 ⟨rfl,hg⟩;have M3:Aside (Gr wr u3):=M2.out.trans hg;clear hg;have FX4:=CX4.out u3 M3.out;have FY4:=CY4.out u3 M3.out)|(go_at_fn 29;refine Calls.mono (K4.out u3 M3.out) ?_;rintro e u4 ⟨rfl,hg⟩;have M4:Aside (Gr wr u4):=M3.out.trans hg;clear hg))
         go_returns
         exact⟨congrArg _ (congrArg _ (NOPE.out (fun h=>of_decide_eq_false HQ4.out (congrArg Std.exiles h)) rfl)),G4.out.trans M4.out⟩
        |true=>
         cases q5 with
         |false=>
          go_wp2_with (first|(go_at_fn 28;refine Calls.mono (K0.out wr (Gr.refl _)) ?_;rintro e u0 ⟨rfl,hg⟩;have M0:Aside (Gr wr u0):=(Gr.refl _).trans hg;clear hg;have FX1:=CX1.out u0 M0.out;have FY1:=CY1.out u0 M0.out)|(go_at_fn 29;refine Calls.mono (K1.out u0 M0.out) ?_;rintro e u1 ⟨rfl,hg⟩;have M1:Aside (Gr wr u1):=M0.out.trans hg;clear hg;have FX2:=CX2.out u1 M1.out;have FY2:=CY2.out u1 M1.out)|(go_at_fn 29;refine Calls.mono (K2.out u1 M1.out) ?_;rintro e u2 ⟨rfl,hg⟩;have M2:Aside (Gr wr u2):=M1.out.trans hg;clear hg;have FX3:=CX3.out u2 M2.out;have FY3:=CY3.out u2 M2.out)|(go_at_fn 29;refine Calls.mono (K3.out u2 M2.out) ?_;rintro e u3 ⟨rfl,hg⟩;have M3:Aside (Gr wr u3):=M2.out.trans hg;clear hg;have FX4:=CX4.out u3 M3.out;have FY4:=CY4.out u3 M3.out)|(go_at_fn 29;refine Calls.mono (K4.out u3 M3.out) ?_;rintro e u4 ⟨rfl,hg⟩;have M4:Aside (Gr wr u4):=M3.out.trans hg;clear hg;have FX5:=CX5.out u4 M4.out;have FY5:=CY5.out u4 M4.out)|(go_at_fn 30;refine Calls.mono (K5.out u4 M4.out) ?_;rintro e u5 ⟨rfl,hg⟩;have M5:Aside (Gr wr u5):=M4.out.trans hg;clear hg))
          go_returns
          exact⟨congrArg _ (congrArg _ (NOPE.out (fun h=>of_decide_eq_false HQ5.out (congrArg Std.field h)) rfl)),G4.out.trans M5.out⟩
         |true=>
          cases q6 with
          |false=>
           go_wp2_with (first|(go_at_fn 28;refine Calls.mono (K0.out wr (Gr.refl _)) ?_;rintro e u0 ⟨rfl,hg⟩;have M0:Aside (Gr wr u0):=(Gr.refl _).trans hg;clear hg;have FX1:=CX1.out u0 M0.out;have FY1:=CY1.out u0 M0.out)|(go_at_fn 29;refine Calls.mono (K1.out u0 M0.out) ?_;rintro e u1 ⟨rfl,hg⟩;have M1:Aside (Gr wr u1):=M0.out.trans hg;clear hg;have FX2:=CX2.out u1 M1.out;have FY2:=CY2.out u1 M1.out)|(go_at_fn 29;refine Calls.mono (K2.out u1 M1.out) ?_;rintro e u2 ⟨rfl,hg⟩;have M2:Aside (Gr wr u2):=M1.out.trans hg;clear hg;have FX3:=CX3.out u2 M2.out;have FY3:=CY3.out u2 M2.out)|(go_at_fn 29;refine Calls.mono (K3.out u2 M2.out) ?_;rintro e u3 ⟨rfl,hg⟩;have M3:Aside (Gr wr u3):=M2.out.trans hg;clear hg;have FX4:=CX4.out u3 M3.out;have FY4:=CY4.out u3 M3.out)|(go_at_fn 29;refine Calls.mono (K4.out u3 M3.out) ?_;rintro e u4 ⟨rfl,hg⟩;have M4:Aside (Gr wr u4):=M3.out.trans hg;clear hg;have FX5:=CX5.out u4 M4.out;have FY5:=CY5.out u4 M4.out)|(go_at_fn 30;refine Calls.mono (K5.out u4 M4.out) ?_;rintro e u5 ⟨rfl,hg⟩;have M5:Aside (Gr wr u5):=M4.out.trans hg;clear hg;have FX6:=CX6.out u5 M5.out;have FY6:=CY6.out u5 M5.out)|(go_at_fn 31;refine Calls.mono (K6.out u5 M5.out) ?_;rintro e u6 ⟨rfl,hg⟩;have M6:Aside (Gr wr u6):=M5.out.trans hg;clear hg))
           go_returns
           exact⟨congrArg _ (congrArg _ (NOPE.out (fun h=>of_decide_eq_false HQ6.out (congrArg Std.stack h)) rfl)),G4.out.trans M6.out⟩
          |true=>
           cases q7 with
           |false=>
            go_wp2_with (first|(go_at_fn 28;refine Calls.mono (K0.out wr (Gr.refl _)) ?_;rintro e u0 ⟨rfl,hg⟩;have M0:Aside (Gr wr u0):=(Gr.refl _).trans hg;clear hg;have FX1:=CX1.out u0 M0.out;have FY1:=CY1.out u0 M0.out)|(go_at_fn 29;refine Calls.mono (K1.out u0 M0.out) ?_;rintro e u1 ⟨rfl,hg⟩;have M1:Aside (Gr wr u1):=M0.out.trans hg;clear hg;have FX2:=CX2.out u1 M1.out;have FY2:=CY2.out u1 M1.out)|(go_at_fn 29;refine Calls.mono (K2.out u1 M1.out) ?_;rintro e u2 ⟨rfl,hg⟩;have M2:Aside (Gr wr u2):=M1.out.trans hg;clear hg;have FX3:=CX3.out u2 M2.out;have FY3:=CY3.out u2 M2.out)|(go_at_fn 29;refine Calls.mono (K3.out u2 M2.out) ?_;rintro e u3 ⟨rfl,hg⟩;have M3:Aside (Gr wr u3):=M2.out.trans hg;clear hg;have FX4:=CX4.out u3 M3.out;have FY4:=CY4.out u3 M3.out)|(go_at_fn 29;refine Calls.mono (K4.out u3 M3.out) ?_;rintro e u4 ⟨rfl,hg⟩;have M4:Aside (Gr wr u4):=M3.out.trans hg;clear hg;have FX5:=CX5.out u4 M4.out;have FY5:=CY5.out u4 M4.out)|(go_at_fn 30;refine Calls.mono (K5.out u4 M4.out) ?_;rintro e u5 ⟨rfl,hg⟩;have M5:Aside (Gr wr u5):=M4.out.trans hg;clear hg;have FX6:=CX6.out u5 M5.out;have FY6:=CY6.out u5 M5.out)|(go_at_fn 31;refine Calls.mono (K6.out u5 M5.out) ?_;rintro e u6 ⟨rfl,hg⟩;have M6:Aside (Gr wr u6):=M5.out.trans hg;clear hg;have FX7:=CX7.out u6 M6.out;have FY7:=CY7.out u6 M6.out)|(go_at_fn 31;refine Calls.mono (K7.out u6 M6.out) ?_;rintro e u7 ⟨rfl,hg⟩;have M7:Aside (Gr wr u7):=M6.out.trans hg;clear hg))
            go_returns
            exact⟨congrArg _ (congrArg _ (NOPE.out (fun h=>of_decide_eq_false HQ7.out (congrArg Std.waits h)) rfl)),G4.out.trans M7.out⟩
           |true=>
            go_upto_region 10 with(first|(go_at_fn 28;refine Calls.mono (K0.out wr (Gr.refl _)) ?_;rintro e u0 ⟨rfl,hg⟩;have M0:Aside (Gr wr u0):=(Gr.refl _).trans hg;clear hg;have FX1:=CX1.out u0 M0.out;have FY1:=CY1.out u0 M0.out)|(go_at_fn 29;refine Calls.mono (K1.out u0 M0.out) ?_;rintro e u1 ⟨rfl,hg⟩;have M1:Aside (Gr wr u1):=M0.out.trans hg;clear hg;have FX2:=CX2.out u1 M1.out;have FY2:=CY2.out u1 M1.out)|(go_at_fn 29;refine Calls.mono (K2.out u1 M1.out) ?_;rintro e u2 ⟨rfl,hg⟩;have M2:Aside (Gr wr u2):=M1.out.trans hg;clear hg;have FX3:=CX3.out u2 M2.out;have FY3:=CY3.out u2 M2.out)|(go_at_fn 29;refine Calls.mono (K3.out u2 M2.out) ?_;rintro e u3 ⟨rfl,hg⟩;have M3:Aside (Gr wr u3):=M2.out.trans hg;clear hg;have FX4:=CX4.out u3 M3.out;have FY4:=CY4.out u3 M3.out)|(go_at_fn 29;refine Calls.mono (K4.out u3 M3.out) ?_;rintro e u4 ⟨rfl,hg⟩;have M4:Aside (Gr wr u4):=M3.out.trans hg;clear hg;have FX5:=CX5.out u4 M4.out;have FY5:=CY5.out u4 M4.out)|(go_at_fn 30;refine Calls.mono (K5.out u4 M4.out) ?_;rintro e u5 ⟨rfl,hg⟩;have M5:Aside (Gr wr u5):=M4.out.trans hg;clear hg;have FX6:=CX6.out u5 M5.out;have FY6:=CY6.out u5 M5.out)|(go_at_fn 31;refine Calls.mono (K6.out u5 M5.out) ?_;rintro e u6 ⟨rfl,hg⟩;have M6:Aside (Gr wr u6):=M5.out.trans hg;clear hg;have FX7:=CX7.out u6 M6.out;have FY7:=CY7.out u6 M6.out)|(go_at_fn 31;refine Calls.mono (K7.out u6 M6.out) ?_;rintro e u7 ⟨rfl,hg⟩;have M7:Aside (Gr wr u7):=M6.out.trans hg;clear hg))
            clear FX0 FY0 CX0 CY0 K0 FX1 FY1 CX1 CY1 K1 FX2 FY2 CX2 CY2 K2 FX3 FY3 CX3 CY3 K3 FX4 FY4 CX4 CY4 K4 FX5 FY5 CX5 CY5 K5 FX6 FY6 CX6 CY6 K6 FX7 FY7 CX7 CY7 K7
            have c5x:[Value.int .i64 S.cast.kind,.int .i64 S.cast.obj,.int .i64 S.cast.abil,.slice A.t.a S.cast.ts.length A.t.c,.bool S.cast.paying].length=k29:=HK29.out.symm
            have c5y:[Value.int .i64 S'.cast.kind,.int .i64 S'.cast.obj,.int .i64 S'.cast.abil,.slice A'.t.a S'.cast.ts.length A'.t.c,.bool S'.cast.paying].length=k29:=HK29.out.symm
            have lX: ∀W,Gr u7 W→Sem.run P (loadCellsFrom ⟨b2,18,none⟩ 0 k29 #[]) W= .ok [Value.int .i64 S.cast.kind,.int .i64 S.cast.obj,.int .i64 S.cast.abil,.slice A.t.a S.cast.ts.length A.t.c,.bool S.cast.paying].toArray W:=fun W h=>run_loadCellsFrom_list P W _ _ _ c5x fun j v hv=>by
             have hc:=a0A (a0M C4.out (M7.out.trans h))
             rw[Addr.add_lit]
             refine a0B hc ?_
             rw[←hv]
             have hj:=(List.getElem?_eq_some_iff.1 hv).1
             simp only[List.length_cons,List.length_nil]at hj
             obtain rfl|rfl|rfl|rfl|rfl:j=0∨j=1∨j=2∨j=3∨j=4:=by omega
             all_goals rfl
            have lY: ∀W,Gr u7 W→Sem.run P (loadCellsFrom ⟨b3,18,none⟩ 0 k29 #[]) W= .ok [Value.int .i64 S'.cast.kind,.int .i64 S'.cast.obj,.int .i64 S'.cast.abil,.slice A'.t.a S'.cast.ts.length A'.t.c,.bool S'.cast.paying].toArray W:=fun W h=>run_loadCellsFrom_list P W _ _ _ c5y fun j v hv=>by
             have hc:=a0A (a0M C5.out (M7.out.trans h))
             rw[Addr.add_lit]
             refine a0B hc ?_
             rw[←hv]
             have hj:=(List.getElem?_eq_some_iff.1 hv).1
             simp only[List.length_cons,List.length_nil]at hj
             obtain rfl|rfl|rfl|rfl|rfl:j=0∨j=1∨j=2∨j=3∨j=4:=by omega
             all_goals rfl
            have x01: ∀v∈ [Value.int .i64 S.cast.kind,.int .i64 S.cast.obj,.int .i64 S.cast.abil,.slice A.t.a S.cast.ts.length A.t.c,.bool S.cast.paying],v.oneCell'=true:=by intro v hv;simp only[List.mem_cons,List.not_mem_nil,or_false]at hv;rcases hv with rfl|rfl|rfl|rfl|rfl<;>rfl
            have y01: ∀v∈ [Value.int .i64 S'.cast.kind,.int .i64 S'.cast.obj,.int .i64 S'.cast.abil,.slice A'.t.a S'.cast.ts.length A'.t.c,.bool S'.cast.paying],v.oneCell'=true:=by intro v hv;simp only[List.mem_cons,List.not_mem_nil,or_false]at hv;rcases hv with rfl|rfl|rfl|rfl|rfl<;>rfl
            generalize hX0:[Value.int .i64 S.cast.kind,.int .i64 S.cast.obj,.int .i64 S.cast.abil,.slice A.t.a S.cast.ts.length A.t.c,.bool S.cast.paying]=X0 at lX x01 c5x
            generalize hY0:[Value.int .i64 S'.cast.kind,.int .i64 S'.cast.obj,.int .i64 S'.cast.abil,.slice A'.t.a S'.cast.ts.length A'.t.c,.bool S'.cast.paying]=Y0 at lY y01 c5y
            have LX:Aside _:=lX
            have LY:Aside _:=lY
            have HX0:Hid _:=hX0
            have HY0:Hid _:=hY0
            have x0l:=c5x
            have y0l:=c5y
            clear lX lY hX0 hY0 c5x c5y
            go_cut [6,7]from 95 to 207 (fun s6 s7 wc=> ∃b6 b7:Nat,s6= .pointer (some ⟨b6,0,none⟩)∧s7= .pointer (some ⟨b7,0,none⟩)∧Aside (Gr u7 wc)∧Aside (wc.heap[b6]? =some (.cells X0.toArray 29))∧Aside (wc.heap[b7]? =some (.cells Y0.toArray 29)))
            case first=>
             have OB0:Gr u7 u7.drew:=(Gr.refl _).drew
             refine wp_region_held_drew (S:=fun W=>Gr u7 W) mixed OB0 (fun hHeld=> ?_)
             generalize u7.drew=U at OB0 hHeld ⊢
             refine wtk (i:=0) (v:=.pointer (some ⟨b2,18,none⟩)) hHeld ?_ ?_
             ·intro W hW
              clear hW hHeld OB0
              go_simp
             simp only[Act.put,px]
             refine wtk (i:=1) (v:=.agg X0.toArray) hHeld ?_ ?_
             ·intro W hW
              have lX:=LX.out W hW
              clear hW hHeld OB0
              go_simp
             simp only[Act.put,px]
             refine wtk (i:=2) (v:=.pointer (some ⟨b3,18,none⟩)) hHeld ?_ ?_
             ·intro W hW
              clear hW hHeld OB0
              go_simp
             simp only[Act.put,px]
             refine wtk (i:=3) (v:=.agg Y0.toArray) hHeld ?_ ?_
             ·intro W hW
              have lY:=LY.out W hW
              clear hW hHeld OB0
              go_simp
             simp only[Act.put,px]
             obtain⟨ga,ha1,ha2⟩:=b3Z U y29 X0 Y0 29 (x0l.trans hy3.symm) (y0l.trans hy3.symm)
             obtain⟨gb,hb1,hb2⟩:=b0m U y29 X0 Y0 29 (x0l.trans hy3.symm) (y0l.trans hy3.symm)
             have GA:Aside (Gr U _):=ga
             have HA1:Aside _:=ha1
             have HA2:Aside _:=ha2
             have GB:Aside (Gr U _):=gb
             have HB1:Aside _:=hb1
             have HB2:Aside _:=hb2
             obtain⟨gz,hz1,hz2⟩:=a0W U y29 y29 29 29
             have sa1:=a0P P (a0A hz1) X0 (x0l.trans hy3.symm) x01
             have sa2:=a0P P (a0A ((a0R (b:=U.heap.size+1) (c:=U.heap.size) (by omega) X0 0).trans hz2)) Y0 (y0l.trans hy3.symm) y01
             have sb1:=a0P P (a0A hz2) X0 (x0l.trans hy3.symm) x01
             have sb2:=a0P P (a0A ((a0R (b:=U.heap.size) (c:=U.heap.size+1) (by omega) X0 0).trans hz1)) Y0 (y0l.trans hy3.symm) y01
             have g1:Gr u7 (U.alloc (.cells y29.toArray 29)):=OB0.alloc _
             have g2:Gr u7 ((U.alloc (.cells y29.toArray 29)).alloc (.cells y29.toArray 29)):=g1.alloc _
             have ga3:=Gr.sets (W:=(U.alloc (.cells y29.toArray 29)).alloc (.cells y29.toArray 29)) U.heap.size OB0.le X0 0 g2
             have gb3:=Gr.sets (W:=(U.alloc (.cells y29.toArray 29)).alloc (.cells y29.toArray 29)) (U.heap.size+1) (Nat.le_succ_of_le OB0.le) X0 0 g2
             clear ga ha1 ha2 gb hb1 hb2 gz hz1 hz2
             refine wpAnyH_ready (rs:=[4,5]) (by kernel_rfl) (by simp) ?_
             refine AllReadyH.cons rfl (fun K hK=> ?_) (AllReadyH.cons rfl (fun K hK=> ?_) AllReadyH.nil)
             ·go_simp
              refine hK.out _ _ g1 (fun hHeld=> ?_)
              clear hK K
              refine wrd 5 fun K hK=> ?_
              go_simp
              refine hK.out _ _ g2 (fun hHeld=> ?_)
              clear hK K
              refine wrd 6 fun K hK=> ?_
              go_simp
              refine hK.out _ _ ga3 (fun hHeld=> ?_)
              clear hK K
              refine wrd 7 fun K hK=> ?_
              go_simp
              refine hK.out _ _ (OB0.trans GA.out) (fun hHeld=> ?_)
              clear hK K
              refine wpAnyH_done (by kernel_rfl) ?_ _
              have OBM:Aside (Gr u7 U):=OB0
              clear OB0
              go_wp2
              go_meet
              case rel=>exact⟨_,_,rfl,rfl,OBM.out.trans GA.out,HA1.out,HA2.out⟩
             ·go_simp
              refine hK.out _ _ g1 (fun hHeld=> ?_)
              clear hK K
              refine wrd 4 fun K hK=> ?_
              go_simp
              refine hK.out _ _ g2 (fun hHeld=> ?_)
              clear hK K
              refine wrd 6 fun K hK=> ?_
              go_simp
              refine hK.out _ _ gb3 (fun hHeld=> ?_)
              clear hK K
              refine wrd 7 fun K hK=> ?_
              go_simp
              refine hK.out _ _ (OB0.trans GB.out) (fun hHeld=> ?_)
              clear hK K
              refine wpAnyH_done (by kernel_rfl) ?_ _
              have OBM:Aside (Gr u7 U):=OB0
              clear OB0
              go_wp2
              go_meet
              case rel=>exact⟨_,_,rfl,rfl,OBM.out.trans GB.out,HB1.out,HB2.out⟩
            case rest=>
             obtain⟨b6,b7,rfl,rfl,G5,J6,J7⟩:=hcut
             have G6:Aside (Gr wr wc):=M7.out.trans G5.out
             clear LX LY x01 y01
             have k8:=H32.out S.cast.ts S'.cast.ts A.t.a A'.t.a A.t.c A'.t.c wc lo hh lo' hh' HB.out.ts (Nat.le_trans H1.out (G4.out.trans G6.out).le) (Nat.le_trans H2.out (G4.out.trans G6.out).le) (RowsI.kp HA.out.t (Kp.gr (G4.out.trans G6.out) H1.out)) (RowsI.kp HA'.out.t (Kp.gr (G4.out.trans G6.out) H2.out))
             obtain⟨q12,hq12⟩: ∃q,decide (S.cast.ts=S'.cast.ts)=q:=⟨_,rfl⟩
             rw[hq12]at k8
             have HQ12:Hid _:=hq12
             have K8:Aside _:=k8
             have J6c:wc.heap[b6]? =some (.cells ([Value.int .i64 S.cast.kind,.int .i64 S.cast.obj,.int .i64 S.cast.abil,.slice A.t.a S.cast.ts.length A.t.c,.bool S.cast.paying]:List Value).toArray 29):=by have:=J6.out;rw[←HX0.out]at this;exact this
             have J7c:wc.heap[b7]? =some (.cells ([Value.int .i64 S'.cast.kind,.int .i64 S'.cast.obj,.int .i64 S'.cast.abil,.slice A'.t.a S'.cast.ts.length A'.t.c,.bool S'.cast.paying]:List Value).toArray 29):=by have:=J7.out;rw[←HY0.out]at this;exact this
             clear J6 J7 HX0 HY0 x0l y0l k8 hq12
             have CC:Aside _:=a3Q J6c J7c
             have HPF:Aside (PF P foS plS [22,23,24,25,26,27,39]):=pfS L hk0
             clear J6c J7c
             go_upto_region 11 with fail
             cases r0:(S.cast.kind !=S'.cast.kind)with
             |true=>
              have HQ:Hid _:=r0
              refine a0F HPF.out CC.out [(6,.ptr 0 0),(7,.ptr 1 0)] [true] 99 132 (cmps:=[.int false S.cast.kind S'.cast.kind true]) (v:=.bool true) (by kernel_rfl) (fun k s h=>by rcases a1C h with⟨rfl,rfl⟩|⟨rfl,rfl⟩<;>rfl) ⟨r0,trivial⟩ rfl rfl (b4U (fun u99 u100 u101 u102 u103 u104 u105 u106 u107 u108 u109 u110 u111 u112 u113 u114 u115 u116 u117 u118 u119 u120 u121 u122 u123 u124 u125 u126 u127 u128 u129 u130 u131=>b4T (fun u133 u134 u135 u136 u137 u138 u139 u140 u141 u142 u143 u144 u145 u146 u147 u148 u149 u150 u151 u152 u153 u154 u155 u156 u157 u158 u159 u160 u161 u162 u163 u164 u165 u166 u167 u168 u169 u170 u171 u172 u173 u174 u175 u176 u177 u178 u179 u180 u181 u182 u183 u184 u185 u186 u187 u188 u189 u190 u191 u192 u193 u194 u195 u196 u197 u198 u199 u200 u201 u202 u203 u204 u205 u206 u207=> ?_)))
              simp only[List.take_succ_cons,List.take_zero,List.cons_append,List.nil_append]
              clear r0
              go_wp2
              go_returns
              exact⟨congrArg _ (congrArg _ (NOPE.out (fun h=>by have:=HQ.out;rw[h]at this;simp at this) rfl)),G4.out.trans G6.out⟩
             |false=>
              cases r1:(S.cast.obj !=S'.cast.obj)with
              |true=>
               have HQ:Hid _:=r1
               refine a0F HPF.out CC.out [(6,.ptr 0 0),(7,.ptr 1 0)] [false,true] 99 132 (cmps:=[.int false S.cast.obj S'.cast.obj true,.int false S.cast.kind S'.cast.kind false]) (v:=.bool true) (by kernel_rfl) (fun k s h=>by rcases a1C h with⟨rfl,rfl⟩|⟨rfl,rfl⟩<;>rfl) ⟨r1,r0,trivial⟩ rfl rfl (b4U (fun u99 u100 u101 u102 u103 u104 u105 u106 u107 u108 u109 u110 u111 u112 u113 u114 u115 u116 u117 u118 u119 u120 u121 u122 u123 u124 u125 u126 u127 u128 u129 u130 u131=>b4T (fun u133 u134 u135 u136 u137 u138 u139 u140 u141 u142 u143 u144 u145 u146 u147 u148 u149 u150 u151 u152 u153 u154 u155 u156 u157 u158 u159 u160 u161 u162 u163 u164 u165 u166 u167 u168 u169 u170 u171 u172 u173 u174 u175 u176 u177 u178 u179 u180 u181 u182 u183 u184 u185 u186 u187 u188 u189 u190 u191 u192 u193 u194 u195 u196 u197 u198 u199 u200 u201 u202 u203 u204 u205 u206 u207=> ?_)))
               simp only[List.take_succ_cons,List.take_zero,List.cons_append,List.nil_append]
               clear r0 r1
               go_wp2
               go_returns
               exact⟨congrArg _ (congrArg _ (NOPE.out (fun h=>by have:=HQ.out;rw[h]at this;simp at this) rfl)),G4.out.trans G6.out⟩
              |false=>
               cases r2:(S.cast.abil !=S'.cast.abil)with
               |true=>
                have HQ:Hid _:=r2
                refine a0F HPF.out CC.out [(6,.ptr 0 0),(7,.ptr 1 0)] [false,false,true] 99 132 (cmps:=[.int false S.cast.abil S'.cast.abil true,.int false S.cast.obj S'.cast.obj false,.int false S.cast.kind S'.cast.kind false]) (v:=.bool true) (by kernel_rfl) (fun k s h=>by rcases a1C h with⟨rfl,rfl⟩|⟨rfl,rfl⟩<;>rfl) ⟨r2,r1,r0,trivial⟩ rfl rfl (b4U (fun u99 u100 u101 u102 u103 u104 u105 u106 u107 u108 u109 u110 u111 u112 u113 u114 u115 u116 u117 u118 u119 u120 u121 u122 u123 u124 u125 u126 u127 u128 u129 u130 u131=>b4T (fun u133 u134 u135 u136 u137 u138 u139 u140 u141 u142 u143 u144 u145 u146 u147 u148 u149 u150 u151 u152 u153 u154 u155 u156 u157 u158 u159 u160 u161 u162 u163 u164 u165 u166 u167 u168 u169 u170 u171 u172 u173 u174 u175 u176 u177 u178 u179 u180 u181 u182 u183 u184 u185 u186 u187 u188 u189 u190 u191 u192 u193 u194 u195 u196 u197 u198 u199 u200 u201 u202 u203 u204 u205 u206 u207=> ?_)))
                simp only[List.take_succ_cons,List.take_zero,List.cons_append,List.nil_append]
                clear r0 r1 r2
                go_wp2
                go_returns
                exact⟨congrArg _ (congrArg _ (NOPE.out (fun h=>by have:=HQ.out;rw[h]at this;simp at this) rfl)),G4.out.trans G6.out⟩
               |false=>
                cases r3:(S.cast.paying !=S'.cast.paying)with
                |true=>
                 have HQ:Hid _:=r3
                 refine a0F HPF.out CC.out [(6,.ptr 0 0),(7,.ptr 1 0)] [false,false,false,true] 99 132 (cmps:=[.bool false S.cast.paying S'.cast.paying true,.int false S.cast.abil S'.cast.abil false,.int false S.cast.obj S'.cast.obj false,.int false S.cast.kind S'.cast.kind false]) (v:=.bool true) (by kernel_rfl) (fun k s h=>by rcases a1C h with⟨rfl,rfl⟩|⟨rfl,rfl⟩<;>rfl) ⟨r3,r2,r1,r0,trivial⟩ rfl rfl (b4U (fun u99 u100 u101 u102 u103 u104 u105 u106 u107 u108 u109 u110 u111 u112 u113 u114 u115 u116 u117 u118 u119 u120 u121 u122 u123 u124 u125 u126 u127 u128 u129 u130 u131=>b4T (fun u133 u134 u135 u136 u137 u138 u139 u140 u141 u142 u143 u144 u145 u146 u147 u148 u149 u150 u151 u152 u153 u154 u155 u156 u157 u158 u159 u160 u161 u162 u163 u164 u165 u166 u167 u168 u169 u170 u171 u172 u173 u174 u175 u176 u177 u178 u179 u180 u181 u182 u183 u184 u185 u186 u187 u188 u189 u190 u191 u192 u193 u194 u195 u196 u197 u198 u199 u200 u201 u202 u203 u204 u205 u206 u207=> ?_)))
                 simp only[List.take_succ_cons,List.take_zero,List.cons_append,List.nil_append]
                 clear r0 r1 r2 r3
                 go_wp2
                 go_returns
                 exact⟨congrArg _ (congrArg _ (NOPE.out (fun h=>by have:=HQ.out;rw[h]at this;simp at this) rfl)),G4.out.trans G6.out⟩
                |false=>
                 have R0:Hid _:=r0
                 have R1:Hid _:=r1
                 have R2:Hid _:=r2
                 have R3:Hid _:=r3
                 refine a7K HPF.out CC.out 31 [(6,.ptr 0 0),(7,.ptr 1 0)] [false,false,false,false] 99 [125,127,129] (cmps:=[.bool false S.cast.paying S'.cast.paying false,.int false S.cast.abil S'.cast.abil false,.int false S.cast.obj S'.cast.obj false,.int false S.cast.kind S'.cast.kind false]) (vs:=[.bool false,.slice A.t.a S.cast.ts.length A.t.c,.slice A'.t.a S'.cast.ts.length A'.t.c]) (by kernel_rfl) (fun k s h=>by rcases a1C h with⟨rfl,rfl⟩|⟨rfl,rfl⟩<;>rfl) ⟨r3,r2,r1,r0,trivial⟩ (b7I (fun u99 u100 u101 u102 u103 u104 u105 u106 u107 u108 u109 u110 u111 u112 u113 u114 u115 u116 u117 u118 u119 u120 u121 u122 u123 u124 u125 u126 u127 u128 u129 u130 u131 u132 u133 u134 u135 u136 u137 u138 u139 u140 u141 u142 u143 u144 u145 u146 u147 u148 u149 u150 u151 u152 u153 u154 u155 u156 u157 u158 u159 u160 u161 u162 u163 u164 u165 u166 u167 u168 u169 u170 u171 u172 u173 u174 u175 u176 u177 u178 u179 u180 u181 u182 u183 u184 u185 u186 u187 u188 u189 u190 u191 u192 u193 u194 u195 u196 u197 u198 u199 u200 u201 u202 u203 u204 u205 u206 u207 hv=> ?_))
                 obtain⟨rfl,rfl,rfl⟩:u125=Value.bool false∧u127= .slice A.t.a S.cast.ts.length A.t.c∧u129= .slice A'.t.a S'.cast.ts.length A'.t.c:=by simpa using hv
                 simp only[List.take_succ_cons,List.take_zero,List.cons_append,List.nil_append,List.drop_succ_cons,List.drop_zero]
                 clear hv r0 r1 r2 r3
                 cases q12 with
                 |false=>
                  go_wp2_with (go_at_fn 32;refine Calls.mono K8.out ?_;rintro e u8 ⟨rfl,hg⟩;have M8:Aside (Gr wr u8):=G6.out.trans hg;clear hg)
                  go_returns
                  exact⟨congrArg _ (congrArg _ (NOPE.out (fun h=>of_decide_eq_false HQ12.out (congrArg (fun S=>S.cast.ts) h)) rfl)),G4.out.trans M8.out⟩
                 |true=>
                  go_upto_region 13 with(go_at_fn 32;refine Calls.mono K8.out ?_;rintro e u8 ⟨rfl,hg⟩;have M8:Aside (Gr wr u8):=G6.out.trans hg;clear hg)
                  have CC2:Aside _:=a3Q (a0M C4.out M8.out) (a0M C5.out M8.out)
                  clear K8
                  cases s0:(S.turn==S'.turn)with
                  |false=>
                   have HQ:Hid _:=s0
                   refine a0F HPF.out CC2.out [(2,.ptr 0 0),(3,.ptr 1 0)] [false] 4 4 (cmps:=[.int true S.turn S'.turn false]) (v:=.bool false) (by kernel_rfl) (fun k s h=>by rcases a1C h with⟨rfl,rfl⟩|⟨rfl,rfl⟩<;>rfl) ⟨s0,trivial⟩ rfl rfl (b2J (a3B (fun v5 v6 v7 v8 v9 v10 v11 v12 v13 v14 v15 v16 v17 v18 v19 v20 v21 v22 v23 v24 v25 v26 v27 v28 v29 v30 v31 v32 v33 v34 v35 v36 v37 v38 v39 v40 v41 v42 v43 v44 v45 v46 v47 v48 v49 v50 v51 v52 v53 v54 v55 v56 v57 v58 v59 v60 v61 v62 v63 v64 v65 v66 v67 v68 v69 v70 v71 v72 v73 v74 v75 v76 v77 v78 v79 v80 v81 v82 v83 v84 v85 v86 v87 v88 v89 v90 v91 v92 v93 v94 v95 v96 v97 v98 v99 v100 v101 v102 v103 v104 v105 v106 v107 v108 v109 v110 v111 v112 v113 v114 v115 v116 v117 v118 v119 v120 v121 v122 v123 v124 v125 v126 v127 v128 v129 v130 v131 v132 v133 v134 v135 v136 v137 v138 v139 v140 v141 v142 v143 v144 v145 v146 v147 v148 v149 v150 v151 v152 v153 v154 v155 v156 v157 v158 v159 v160 v161 v162 v163 v164 v165 v166 v167 v168 v169 v170 v171 v172 v173 v174 v175 v176 v177 v178 v179 v180 v181 v182 v183 v184 v185 v186 v187 v188 v189 v190 v191 v192 v193 v194 v195 v196 v197 v198 v199 v200 v201 v202 v203 v204 v205 v206 v207=> ?_)))
                   simp only[List.take_succ_cons,List.take_zero,List.cons_append,List.nil_append]
                   clear s0
                   go_wp2
                   go_returns
                   exact⟨congrArg _ (congrArg _ (NOPE.out (fun h=>by have:=HQ.out;rw[h]at this;simp at this) rfl)),G4.out.trans M8.out⟩
                  |true=>
                   cases s1:(S.active==S'.active)with
                   |false=>
                    have HQ:Hid _:=s1
                    refine a0F HPF.out CC2.out [(2,.ptr 0 0),(3,.ptr 1 0)] [true,false] 4 4 (cmps:=[.int true S.active S'.active false,.int true S.turn S'.turn true]) (v:=.bool false) (by kernel_rfl) (fun k s h=>by rcases a1C h with⟨rfl,rfl⟩|⟨rfl,rfl⟩<;>rfl) ⟨s1,s0,trivial⟩ rfl rfl (b2J (a3B (fun v5 v6 v7 v8 v9 v10 v11 v12 v13 v14 v15 v16 v17 v18 v19 v20 v21 v22 v23 v24 v25 v26 v27 v28 v29 v30 v31 v32 v33 v34 v35 v36 v37 v38 v39 v40 v41 v42 v43 v44 v45 v46 v47 v48 v49 v50 v51 v52 v53 v54 v55 v56 v57 v58 v59 v60 v61 v62 v63 v64 v65 v66 v67 v68 v69 v70 v71 v72 v73 v74 v75 v76 v77 v78 v79 v80 v81 v82 v83 v84 v85 v86 v87 v88 v89 v90 v91 v92 v93 v94 v95 v96 v97 v98 v99 v100 v101 v102 v103 v104 v105 v106 v107 v108 v109 v110 v111 v112 v113 v114 v115 v116 v117 v118 v119 v120 v121 v122 v123 v124 v125 v126 v127 v128 v129 v130 v131 v132 v133 v134 v135 v136 v137 v138 v139 v140 v141 v142 v143 v144 v145 v146 v147 v148 v149 v150 v151 v152 v153 v154 v155 v156 v157 v158 v159 v160 v161 v162 v163 v164 v165 v166 v167 v168 v169 v170 v171 v172 v173 v174 v175 v176 v177 v178 v179 v180 v181 v182 v183 v184 v185 v186 v187 v188 v189 v190 v191 v192 v193 v194 v195 v196 v197 v198 v199 v200 v201 v202 v203 v204 v205 v206 v207=> ?_)))
                    simp only[List.take_succ_cons,List.take_zero,List.cons_append,List.nil_append]
                    clear s0 s1
                    go_wp2
                    go_returns
                    exact⟨congrArg _ (congrArg _ (NOPE.out (fun h=>by have:=HQ.out;rw[h]at this;simp at this) rfl)),G4.out.trans M8.out⟩
                   |true=>
                    cases s2:(S.phase==S'.phase)with
                    |false=>
                     have HQ:Hid _:=s2
                     refine a0F HPF.out CC2.out [(2,.ptr 0 0),(3,.ptr 1 0)] [true,true,false] 4 4 (cmps:=[.int true S.phase S'.phase false,.int true S.active S'.active true,.int true S.turn S'.turn true]) (v:=.bool false) (by kernel_rfl) (fun k s h=>by rcases a1C h with⟨rfl,rfl⟩|⟨rfl,rfl⟩<;>rfl) ⟨s2,s1,s0,trivial⟩ rfl rfl (b2J (a3B (fun v5 v6 v7 v8 v9 v10 v11 v12 v13 v14 v15 v16 v17 v18 v19 v20 v21 v22 v23 v24 v25 v26 v27 v28 v29 v30 v31 v32 v33 v34 v35 v36 v37 v38 v39 v40 v41 v42 v43 v44 v45 v46 v47 v48 v49 v50 v51 v52 v53 v54 v55 v56 v57 v58 v59 v60 v61 v62 v63 v64 v65 v66 v67 v68 v69 v70 v71 v72 v73 v74 v75 v76 v77 v78 v79 v80 v81 v82 v83 v84 v85 v86 v87 v88 v89 v90 v91 v92 v93 v94 v95 v96 v97 v98 v99 v100 v101 v102 v103 v104 v105 v106 v107 v108 v109 v110 v111 v112 v113 v114 v115 v116 v117 v118 v119 v120 v121 v122 v123 v124 v125 v126 v127 v128 v129 v130 v131 v132 v133 v134 v135 v136 v137 v138 v139 v140 v141 v142 v143 v144 v145 v146 v147 v148 v149 v150 v151 v152 v153 v154 v155 v156 v157 v158 v159 v160 v161 v162 v163 v164 v165 v166 v167 v168 v169 v170 v171 v172 v173 v174 v175 v176 v177 v178 v179 v180 v181 v182 v183 v184 v185 v186 v187 v188 v189 v190 v191 v192 v193 v194 v195 v196 v197 v198 v199 v200 v201 v202 v203 v204 v205 v206 v207=> ?_)))
                     simp only[List.take_succ_cons,List.take_zero,List.cons_append,List.nil_append]
                     clear s0 s1 s2
                     go_wp2
                     go_returns
                     exact⟨congrArg _ (congrArg _ (NOPE.out (fun h=>by have:=HQ.out;rw[h]at this;simp at this) rfl)),G4.out.trans M8.out⟩
                    |true=>
                     cases s3:(S.prio==S'.prio)with
                     |false=>
                      have HQ:Hid _:=s3
                      refine a0F HPF.out CC2.out [(2,.ptr 0 0),(3,.ptr 1 0)] [true,true,true,false] 4 4 (cmps:=[.int true S.prio S'.prio false,.int true S.phase S'.phase true,.int true S.active S'.active true,.int true S.turn S'.turn true]) (v:=.bool false) (by kernel_rfl) (fun k s h=>by rcases a1C h with⟨rfl,rfl⟩|⟨rfl,rfl⟩<;>rfl) ⟨s3,s2,s1,s0,trivial⟩ rfl rfl (b2J (a3B (fun v5 v6 v7 v8 v9 v10 v11 v12 v13 v14 v15 v16 v17 v18 v19 v20 v21 v22 v23 v24 v25 v26 v27 v28 v29 v30 v31 v32 v33 v34 v35 v36 v37 v38 v39 v40 v41 v42 v43 v44 v45 v46 v47 v48 v49 v50 v51 v52 v53 v54 v55 v56 v57 v58 v59 v60 v61 v62 v63 v64 v65 v66 v67 v68 v69 v70 v71 v72 v73 v74 v75 v76 v77 v78 v79 v80 v81 v82 v83 v84 v85 v86 v87 v88 v89 v90 v91 v92 v93 v94 v95 v96 v97 v98 v99 v100 v101 v102 v103 v104 v105 v106 v107 v108 v109 v110 v111 v112 v113 v114 v115 v116 v117 v118 v119 v120 v121 v122 v123 v124 v125 v126 v127 v128 v129 v130 v131 v132 v133 v134 v135 v136 v137 v138 v139 v140 v141 v142 v143 v144 v145 v146 v147 v148 v149 v150 v151 v152 v153 v154 v155 v156 v157 v158 v159 v160 v161 v162 v163 v164 v165 v166 v167 v168 v169 v170 v171 v172 v173 v174 v175 v176 v177 v178 v179 v180 v181 v182 v183 v184 v185 v186 v187 v188 v189 v190 v191 v192 v193 v194 v195 v196 v197 v198 v199 v200 v201 v202 v203 v204 v205 v206 v207=> ?_)))
                      simp only[List.take_succ_cons,List.take_zero,List.cons_append,List.nil_append]
                      clear s0 s1 s2 s3
                      go_wp2
                      go_returns
                      exact⟨congrArg _ (congrArg _ (NOPE.out (fun h=>by have:=HQ.out;rw[h]at this;simp at this) rfl)),G4.out.trans M8.out⟩
                     |true=>
                      cases s4:(S.passes==S'.passes)with
                      |false=>
                       have HQ:Hid _:=s4
                       refine a0F HPF.out CC2.out [(2,.ptr 0 0),(3,.ptr 1 0)] [true,true,true,true,false] 4 4 (cmps:=[.int true S.passes S'.passes false,.int true S.prio S'.prio true,.int true S.phase S'.phase true,.int true S.active S'.active true,.int true S.turn S'.turn true]) (v:=.bool false) (by kernel_rfl) (fun k s h=>by rcases a1C h with⟨rfl,rfl⟩|⟨rfl,rfl⟩<;>rfl) ⟨s4,s3,s2,s1,s0,trivial⟩ rfl rfl (b2J (a3B (fun v5 v6 v7 v8 v9 v10 v11 v12 v13 v14 v15 v16 v17 v18 v19 v20 v21 v22 v23 v24 v25 v26 v27 v28 v29 v30 v31 v32 v33 v34 v35 v36 v37 v38 v39 v40 v41 v42 v43 v44 v45 v46 v47 v48 v49 v50 v51 v52 v53 v54 v55 v56 v57 v58 v59 v60 v61 v62 v63 v64 v65 v66 v67 v68 v69 v70 v71 v72 v73 v74 v75 v76 v77 v78 v79 v80 v81 v82 v83 v84 v85 v86 v87 v88 v89 v90 v91 v92 v93 v94 v95 v96 v97 v98 v99 v100 v101 v102 v103 v104 v105 v106 v107 v108 v109 v110 v111 v112 v113 v114 v115 v116 v117 v118 v119 v120 v121 v122 v123 v124 v125 v126 v127 v128 v129 v130 v131 v132 v133 v134 v135 v136 v137 v138 v139 v140 v141 v142 v143 v144 v145 v146 v147 v148 v149 v150 v151 v152 v153 v154 v155 v156 v157 v158 v159 v160 v161 v162 v163 v164 v165 v166 v167 v168 v169 v170 v171 v172 v173 v174 v175 v176 v177 v178 v179 v180 v181 v182 v183 v184 v185 v186 v187 v188 v189 v190 v191 v192 v193 v194 v195 v196 v197 v198 v199 v200 v201 v202 v203 v204 v205 v206 v207=> ?_)))
                       simp only[List.take_succ_cons,List.take_zero,List.cons_append,List.nil_append]
                       clear s0 s1 s2 s3 s4
                       go_wp2
                       go_returns
                       exact⟨congrArg _ (congrArg _ (NOPE.out (fun h=>by have:=HQ.out;rw[h]at this;simp at this) rfl)),G4.out.trans M8.out⟩
                      |true=>
                       cases s5:(S.blocker==S'.blocker)with
                       |false=>
                        have HQ:Hid _:=s5
                        refine a0F HPF.out CC2.out [(2,.ptr 0 0),(3,.ptr 1 0)] [true,true,true,true,true,false] 4 4 (cmps:=[.int true S.blocker S'.blocker false,.int true S.passes S'.passes true,.int true S.prio S'.prio true,.int true S.phase S'.phase true,.int true S.active S'.active true,.int true S.turn S'.turn true]) (v:=.bool false) (by kernel_rfl) (fun k s h=>by rcases a1C h with⟨rfl,rfl⟩|⟨rfl,rfl⟩<;>rfl) ⟨s5,s4,s3,s2,s1,s0,trivial⟩ rfl rfl (b2J (a3B (fun v5 v6 v7 v8 v9 v10 v11 v12 v13 v14 v15 v16 v17 v18 v19 v20 v21 v22 v23 v24 v25 v26 v27 v28 v29 v30 v31 v32 v33 v34 v35 v36 v37 v38 v39 v40 v41 v42 v43 v44 v45 v46 v47 v48 v49 v50 v51 v52 v53 v54 v55 v56 v57 v58 v59 v60 v61 v62 v63 v64 v65 v66 v67 v68 v69 v70 v71 v72 v73 v74 v75 v76 v77 v78 v79 v80 v81 v82 v83 v84 v85 v86 v87 v88 v89 v90 v91 v92 v93 v94 v95 v96 v97 v98 v99 v100 v101 v102 v103 v104 v105 v106 v107 v108 v109 v110 v111 v112 v113 v114 v115 v116 v117 v118 v119 v120 v121 v122 v123 v124 v125 v126 v127 v128 v129 v130 v131 v132 v133 v134 v135 v136 v137 v138 v139 v140 v141 v142 v143 v144 v145 v146 v147 v148 v149 v150 v151 v152 v153 v154 v155 v156 v157 v158 v159 v160 v161 v162 v163 v164 v165 v166 v167 v168 v169 v170 v171 v172 v173 v174 v175 v176 v177 v178 v179 v180 v181 v182 v183 v184 v185 v186 v187 v188 v189 v190 v191 v192 v193 v194 v195 v196 v197 v198 v199 v200 v201 v202 v203 v204 v205 v206 v207=> ?_)))
                        simp only[List.take_succ_cons,List.take_zero,List.cons_append,List.nil_append]
                        clear s0 s1 s2 s3 s4 s5
                        go_wp2
                        go_returns
                        exact⟨congrArg _ (congrArg _ (NOPE.out (fun h=>by have:=HQ.out;rw[h]at this;simp at this) rfl)),G4.out.trans M8.out⟩
                       |true=>
                        cases s6:(S.next==S'.next)with
                        |false=>
                         have HQ:Hid _:=s6
                         refine a0F HPF.out CC2.out [(2,.ptr 0 0),(3,.ptr 1 0)] [true,true,true,true,true,true,false] 4 4 (cmps:=[.int true S.next S'.next false,.int true S.blocker S'.blocker true,.int true S.passes S'.passes true,.int true S.prio S'.prio true,.int true S.phase S'.phase true,.int true S.active S'.active true,.int true S.turn S'.turn true]) (v:=.bool false) (by kernel_rfl) (fun k s h=>by rcases a1C h with⟨rfl,rfl⟩|⟨rfl,rfl⟩<;>rfl) ⟨s6,s5,s4,s3,s2,s1,s0,trivial⟩ rfl rfl (b2J (a3B (fun v5 v6 v7 v8 v9 v10 v11 v12 v13 v14 v15 v16 v17 v18 v19 v20 v21 v22 v23 v24 v25 v26 v27 v28 v29 v30 v31 v32 v33 v34 v35 v36 v37 v38 v39 v40 v41 v42 v43 v44 v45 v46 v47 v48 v49 v50 v51 v52 v53 v54 v55 v56 v57 v58 v59 v60 v61 v62 v63 v64 v65 v66 v67 v68 v69 v70 v71 v72 v73 v74 v75 v76 v77 v78 v79 v80 v81 v82 v83 v84 v85 v86 v87 v88 v89 v90 v91 v92 v93 v94 v95 v96 v97 v98 v99 v100 v101 v102 v103 v104 v105 v106 v107 v108 v109 v110 v111 v112 v113 v114 v115 v116 v117 v118 v119 v120 v121 v122 v123 v124 v125 v126 v127 v128 v129 v130 v131 v132 v133 v134 v135 v136 v137 v138 v139 v140 v141 v142 v143 v144 v145 v146 v147 v148 v149 v150 v151 v152 v153 v154 v155 v156 v157 v158 v159 v160 v161 v162 v163 v164 v165 v166 v167 v168 v169 v170 v171 v172 v173 v174 v175 v176 v177 v178 v179 v180 v181 v182 v183 v184 v185 v186 v187 v188 v189 v190 v191 v192 v193 v194 v195 v196 v197 v198 v199 v200 v201 v202 v203 v204 v205 v206 v207=> ?_)))
                         simp only[List.take_succ_cons,List.take_zero,List.cons_append,List.nil_append]
                         clear s0 s1 s2 s3 s4 s5 s6
                         go_wp2
                         go_returns
                         exact⟨congrArg _ (congrArg _ (NOPE.out (fun h=>by have:=HQ.out;rw[h]at this;simp at this) rfl)),G4.out.trans M8.out⟩
                        |true=>
                         cases s7:(S.stamp==S'.stamp)with
                         |false=>
                          have HQ:Hid _:=s7
                          refine a0F HPF.out CC2.out [(2,.ptr 0 0),(3,.ptr 1 0)] [true,true,true,true,true,true,true,false] 4 4 (cmps:=[.int true S.stamp S'.stamp false,.int true S.next S'.next true,.int true S.blocker S'.blocker true,.int true S.passes S'.passes true,.int true S.prio S'.prio true,.int true S.phase S'.phase true,.int true S.active S'.active true,.int true S.turn S'.turn true]) (v:=.bool false) (by kernel_rfl) (fun k s h=>by rcases a1C h with⟨rfl,rfl⟩|⟨rfl,rfl⟩<;>rfl) ⟨s7,s6,s5,s4,s3,s2,s1,s0,trivial⟩ rfl rfl (b2J (a3B (fun v5 v6 v7 v8 v9 v10 v11 v12 v13 v14 v15 v16 v17 v18 v19 v20 v21 v22 v23 v24 v25 v26 v27 v28 v29 v30 v31 v32 v33 v34 v35 v36 v37 v38 v39 v40 v41 v42 v43 v44 v45 v46 v47 v48 v49 v50 v51 v52 v53 v54 v55 v56 v57 v58 v59 v60 v61 v62 v63 v64 v65 v66 v67 v68 v69 v70 v71 v72 v73 v74 v75 v76 v77 v78 v79 v80 v81 v82 v83 v84 v85 v86 v87 v88 v89 v90 v91 v92 v93 v94 v95 v96 v97 v98 v99 v100 v101 v102 v103 v104 v105 v106 v107 v108 v109 v110 v111 v112 v113 v114 v115 v116 v117 v118 v119 v120 v121 v122 v123 v124 v125 v126 v127 v128 v129 v130 v131 v132 v133 v134 v135 v136 v137 v138 v139 v140 v141 v142 v143 v144 v145 v146 v147 v148 v149 v150 v151 v152 v153 v154 v155 v156 v157 v158 v159 v160 v161 v162 v163 v164 v165 v166 v167 v168 v169 v170 v171 v172 v173 v174 v175 v176 v177 v178 v179 v180 v181 v182 v183 v184 v185 v186 v187 v188 v189 v190 v191 v192 v193 v194 v195 v196 v197 v198 v199 v200 v201 v202 v203 v204 v205 v206 v207=> ?_)))
                          simp only[List.take_succ_cons,List.take_zero,List.cons_append,List.nil_append]
                          clear s0 s1 s2 s3 s4 s5 s6 s7
                          go_wp2
                          go_returns
                          exact⟨congrArg _ (congrArg _ (NOPE.out (fun h=>by have:=HQ.out;rw[h]at this;simp at this) rfl)),G4.out.trans M8.out⟩
                         |true=>
                          cases s8:(S.used==S'.used)with
                          |false=>
                           have HQ:Hid _:=s8
                           refine a0F HPF.out CC2.out [(2,.ptr 0 0),(3,.ptr 1 0)] [true,true,true,true,true,true,true,true,false] 4 4 (cmps:=[.int true S.used S'.used false,.int true S.stamp S'.stamp true,.int true S.next S'.next true,.int true S.blocker S'.blocker true,.int true S.passes S'.passes true,.int true S.prio S'.prio true,.int true S.phase S'.phase true,.int true S.active S'.active true,.int true S.turn S'.turn true]) (v:=.bool false) (by kernel_rfl) (fun k s h=>by rcases a1C h with⟨rfl,rfl⟩|⟨rfl,rfl⟩<;>rfl) ⟨s8,s7,s6,s5,s4,s3,s2,s1,s0,trivial⟩ rfl rfl (b2J (a3B (fun v5 v6 v7 v8 v9 v10 v11 v12 v13 v14 v15 v16 v17 v18 v19 v20 v21 v22 v23 v24 v25 v26 v27 v28 v29 v30 v31 v32 v33 v34 v35 v36 v37 v38 v39 v40 v41 v42 v43 v44 v45 v46 v47 v48 v49 v50 v51 v52 v53 v54 v55 v56 v57 v58 v59 v60 v61 v62 v63 v64 v65 v66 v67 v68 v69 v70 v71 v72 v73 v74 v75 v76 v77 v78 v79 v80 v81 v82 v83 v84 v85 v86 v87 v88 v89 v90 v91 v92 v93 v94 v95 v96 v97 v98 v99 v100 v101 v102 v103 v104 v105 v106 v107 v108 v109 v110 v111 v112 v113 v114 v115 v116 v117 v118 v119 v120 v121 v122 v123 v124 v125 v126 v127 v128 v129 v130 v131 v132 v133 v134 v135 v136 v137 v138 v139 v140 v141 v142 v143 v144 v145 v146 v147 v148 v149 v150 v151 v152 v153 v154 v155 v156 v157 v158 v159 v160 v161 v162 v163 v164 v165 v166 v167 v168 v169 v170 v171 v172 v173 v174 v175 v176 v177 v178 v179 v180 v181 v182 v183 v184 v185 v186 v187 v188 v189 v190 v191 v192 v193 v194 v195 v196 v197 v198 v199 v200 v201 v202 v203 v204 v205 v206 v207=> ?_)))
                           simp only[List.take_succ_cons,List.take_zero,List.cons_append,List.nil_append]
                           clear s0 s1 s2 s3 s4 s5 s6 s7 s8
                           go_wp2
                           go_returns
                           exact⟨congrArg _ (congrArg _ (NOPE.out (fun h=>by have:=HQ.out;rw[h]at this;simp at this) rfl)),G4.out.trans M8.out⟩
                          |true=>
                           cases s9:(S.outcome==S'.outcome)with
                           |false=>
                            have HQ:Hid _:=s9
                            refine a0F HPF.out CC2.out [(2,.ptr 0 0),(3,.ptr 1 0)] [true,true,true,true,true,true,true,true,true,false] 4 4 (cmps:=[.int true S.outcome S'.outcome false,.int true S.used S'.used true,.int true S.stamp S'.stamp true,.int true S.next S'.next true,.int true S.blocker S'.blocker true,.int true S.passes S'.passes true,.int true S.prio S'.prio true,.int true S.phase S'.phase true,.int true S.active S'.active true,.int true S.turn S'.turn true]) (v:=.bool false) (by kernel_rfl) (fun k s h=>by rcases a1C h with⟨rfl,rfl⟩|⟨rfl,rfl⟩<;>rfl) ⟨s9,s8,s7,s6,s5,s4,s3,s2,s1,s0,trivial⟩ rfl rfl (b2J (a3B (fun v5 v6 v7 v8 v9 v10 v11 v12 v13 v14 v15 v16 v17 v18 v19 v20 v21 v22 v23 v24 v25 v26 v27 v28 v29 v30 v31 v32 v33 v34 v35 v36 v37 v38 v39 v40 v41 v42 v43 v44 v45 v46 v47 v48 v49 v50 v51 v52 v53 v54 v55 v56 v57 v58 v59 v60 v61 v62 v63 v64 v65 v66 v67 v68 v69 v70 v71 v72 v73 v74 v75 v76 v77 v78 v79 v80 v81 v82 v83 v84 v85 v86 v87 v88 v89 v90 v91 v92 v93 v94 v95 v96 v97 v98 v99 v100 v101 v102 v103 v104 v105 v106 v107 v108 v109 v110 v111 v112 v113 v114 v115 v116 v117 v118 v119 v120 v121 v122 v123 v124 v125 v126 v127 v128 v129 v130 v131 v132 v133 v134 v135 v136 v137 v138 v139 v140 v141 v142 v143 v144 v145 v146 v147 v148 v149 v150 v151 v152 v153 v154 v155 v156 v157 v158 v159 v160 v161 v162 v163 v164 v165 v166 v167 v168 v169 v170 v171 v172 v173 v174 v175 v176 v177 v178 v179 v180 v181 v182 v183 v184 v185 v186 v187 v188 v189 v190 v191 v192 v193 v194 v195 v196 v197 v198 v199 v200 v201 v202 v203 v204 v205 v206 v207=> ?_)))
                            simp only[List.take_succ_cons,List.take_zero,List.cons_append,List.nil_append]
                            clear s0 s1 s2 s3 s4 s5 s6 s7 s8 s9
                            go_wp2
                            go_returns
                            exact⟨congrArg _ (congrArg _ (NOPE.out (fun h=>by have:=HQ.out;rw[h]at this;simp at this) rfl)),G4.out.trans M8.out⟩
                           |true=>
                            cases s10:(S.winner==S'.winner)with
                            |false=>
                             have HQ:Hid _:=s10
                             refine a0F HPF.out CC2.out [(2,.ptr 0 0),(3,.ptr 1 0)] [true,true,true,true,true,true,true,true,true,true,false] 4 4 (cmps:=[.int true S.winner S'.winner false,.int true S.outcome S'.outcome true,.int true S.used S'.used true,.int true S.stamp S'.stamp true,.int true S.next S'.next true,.int true S.blocker S'.blocker true,.int true S.passes S'.passes true,.int true S.prio S'.prio true,.int true S.phase S'.phase true,.int true S.active S'.active true,.int true S.turn S'.turn true]) (v:=.bool false) (by kernel_rfl) (fun k s h=>by rcases a1C h with⟨rfl,rfl⟩|⟨rfl,rfl⟩<;>rfl) ⟨s10,s9,s8,s7,s6,s5,s4,s3,s2,s1,s0,trivial⟩ rfl rfl (b2J (a3B (fun v5 v6 v7 v8 v9 v10 v11 v12 v13 v14 v15 v16 v17 v18 v19 v20 v21 v22 v23 v24 v25 v26 v27 v28 v29 v30 v31 v32 v33 v34 v35 v36 v37 v38 v39 v40 v41 v42 v43 v44 v45 v46 v47 v48 v49 v50 v51 v52 v53 v54 v55 v56 v57 v58 v59 v60 v61 v62 v63 v64 v65 v66 v67 v68 v69 v70 v71 v72 v73 v74 v75 v76 v77 v78 v79 v80 v81 v82 v83 v84 v85 v86 v87 v88 v89 v90 v91 v92 v93 v94 v95 v96 v97 v98 v99 v100 v101 v102 v103 v104 v105 v106 v107 v108 v109 v110 v111 v112 v113 v114 v115 v116 v117 v118 v119 v120 v121 v122 v123 v124 v125 v126 v127 v128 v129 v130 v131 v132 v133 v134 v135 v136 v137 v138 v139 v140 v141 v142 v143 v144 v145 v146 v147 v148 v149 v150 v151 v152 v153 v154 v155 v156 v157 v158 v159 v160 v161 v162 v163 v164 v165 v166 v167 v168 v169 v170 v171 v172 v173 v174 v175 v176 v177 v178 v179 v180 v181 v182 v183 v184 v185 v186 v187 v188 v189 v190 v191 v192 v193 v194 v195 v196 v197 v198 v199 v200 v201 v202 v203 v204 v205 v206 v207=> ?_)))
                             simp only[List.take_succ_cons,List.take_zero,List.cons_append,List.nil_append]
                             clear s0 s1 s2 s3 s4 s5 s6 s7 s8 s9 s10
                             go_wp2
                             go_returns
                             exact⟨congrArg _ (congrArg _ (NOPE.out (fun h=>by have:=HQ.out;rw[h]at this;simp at this) rfl)),G4.out.trans M8.out⟩
                            |true=>
                             have ALL:Hid (S=S'):=b6h HPL.out (of_decide_eq_true HQ0.out) (of_decide_eq_true HQ1.out) (of_decide_eq_true HQ2.out) (of_decide_eq_true HQ3.out) (of_decide_eq_true HQ4.out) (of_decide_eq_true HQ5.out) (of_decide_eq_true HQ6.out) (of_decide_eq_true HQ7.out) (a1G R0.out) (a1G R1.out) (a1G R2.out) (a1G R3.out) (of_decide_eq_true HQ12.out) (eq_of_beq s0) (eq_of_beq s1) (eq_of_beq s2) (eq_of_beq s3) (eq_of_beq s4) (eq_of_beq s5) (eq_of_beq s6) (eq_of_beq s7) (eq_of_beq s8) (eq_of_beq s9) (eq_of_beq s10)
                             refine a0F HPF.out CC2.out [(2,.ptr 0 0),(3,.ptr 1 0)] [true,true,true,true,true,true,true,true,true,true,true] 4 4 (cmps:=[.int true S.winner S'.winner true,.int true S.outcome S'.outcome true,.int true S.used S'.used true,.int true S.stamp S'.stamp true,.int true S.next S'.next true,.int true S.blocker S'.blocker true,.int true S.passes S'.passes true,.int true S.prio S'.prio true,.int true S.phase S'.phase true,.int true S.active S'.active true,.int true S.turn S'.turn true]) (v:=.bool true) (by kernel_rfl) (fun k s h=>by rcases a1C h with⟨rfl,rfl⟩|⟨rfl,rfl⟩<;>rfl) ⟨s10,s9,s8,s7,s6,s5,s4,s3,s2,s1,s0,trivial⟩ rfl rfl (b2J (a3B (fun v5 v6 v7 v8 v9 v10 v11 v12 v13 v14 v15 v16 v17 v18 v19 v20 v21 v22 v23 v24 v25 v26 v27 v28 v29 v30 v31 v32 v33 v34 v35 v36 v37 v38 v39 v40 v41 v42 v43 v44 v45 v46 v47 v48 v49 v50 v51 v52 v53 v54 v55 v56 v57 v58 v59 v60 v61 v62 v63 v64 v65 v66 v67 v68 v69 v70 v71 v72 v73 v74 v75 v76 v77 v78 v79 v80 v81 v82 v83 v84 v85 v86 v87 v88 v89 v90 v91 v92 v93 v94 v95 v96 v97 v98 v99 v100 v101 v102 v103 v104 v105 v106 v107 v108 v109 v110 v111 v112 v113 v114 v115 v116 v117 v118 v119 v120 v121 v122 v123 v124 v125 v126 v127 v128 v129 v130 v131 v132 v133 v134 v135 v136 v137 v138 v139 v140 v141 v142 v143 v144 v145 v146 v147 v148 v149 v150 v151 v152 v153 v154 v155 v156 v157 v158 v159 v160 v161 v162 v163 v164 v165 v166 v167 v168 v169 v170 v171 v172 v173 v174 v175 v176 v177 v178 v179 v180 v181 v182 v183 v184 v185 v186 v187 v188 v189 v190 v191 v192 v193 v194 v195 v196 v197 v198 v199 v200 v201 v202 v203 v204 v205 v206 v207=> ?_)))
                             simp only[List.take_succ_cons,List.take_zero,List.cons_append,List.nil_append]
                             clear s0 s1 s2 s3 s4 s5 s6 s7 s8 s9 s10
                             go_wp2
                             go_returns
                             exact⟨by rw[decide_eq_true ALL.out];rfl,G4.out.trans M8.out⟩
 ·have hd:((S.pl.length:Int) !=(S'.pl.length:Int))=true:=by simp;omega
  have HLM:Hid _:=hlm
  clear hlm
  go_wp2
  go_returns
  exact⟨congrArg _ (congrArg _ (NOPE.out (fun h=>HLM.out (by rw[h])) rfl)),G0.out⟩
end Go.Proofs.Ytcblehiddfnafaa.canonSame
