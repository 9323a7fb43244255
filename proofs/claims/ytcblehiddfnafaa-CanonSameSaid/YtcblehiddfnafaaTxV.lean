/-
  Chapter 28: the program's Copy, walked.
-/
import Derived.Test.YtcblehiddfnafaaTxU
namespace Go.Proofs.Ytcblehiddfnafaa.canonSame
open Go.Shelf Go.RowKit Go.Lib Go.Sort
set_option maxHeartbeats 16000000 in
set_option maxRecDepth 100000 in
theorem b0H{P:Program}{k29 k31 k41 k43 k45 k66 k97:Nat}{y29 y31 y41 y43 y45 y66 y97:List Value}(L:LayS P k29 k31 k41 k43 k45 k66 k97 y29 y31 y41 y43 y45 y66 y97)(hk0: ¬k29=0)(hk1:k31=25)(hy1:y31.length=k31)(f33:P.funcs[33]? =some Try.f33)
  (e59: ∀args w,(callFunc 59 args).run P w= .ok (.enter 59 args) w) (e60: ∀args w,(callFunc 60 args).run P w= .ok (.enter 60 args) w) (e62: ∀args w,(callFunc 62 args).run P w= .ok (.enter 62 args) w) (e63: ∀args w,(callFunc 63 args).run P w= .ok (.enter 63 args) w) (e64: ∀args w,(callFunc 64 args).run P w= .ok (.enter 64 args) w) (e66: ∀args w,(callFunc 66 args).run P w= .ok (.enter 66 args) w)
  (A:Lcs) (S:Std) (w:World)
  (h59: ∀W,Below w.heap.size w W→Calls P 59 #[.slice A.p.a S.pl.length A.p.c] W fun e V=> ∃a c,e= .returned (.slice a S.pl.length c)∧Aside (Rw W.heap.size V.heap.size 66 8 (.slice a S.pl.length c) S.pl.length (S.pl.flatMap plV) V∧Below W.heap.size W V))
  (h60: ∀W,Below w.heap.size w W→Calls P 60 #[.slice A.o.a S.obs.length A.o.c,.func (.func 61) #[] #[]] W fun e V=> ∃a c,e= .returned (.slice a S.obs.length c)∧Aside (∃T,T.map (·.2)=S.obs∧ObP W.heap.size V.heap.size (.slice a S.obs.length c) T V∧Below W.heap.size W V))
  (h62l: ∀W,Below w.heap.size w W→Calls P 62 #[.slice A.l.a S.libs.length A.l.c,.func (.func 63) #[] #[]] W fun e V=> ∃a c,e= .returned (.slice a S.libs.length c)∧Aside (∃T,T.map (·.2)=S.libs∧LsP W.heap.size V.heap.size (.slice a S.libs.length c) T V∧Below W.heap.size W V))
  (h62h: ∀W,Below w.heap.size w W→Calls P 62 #[.slice A.h.a S.hands.length A.h.c,.func (.func 63) #[] #[]] W fun e V=> ∃a c,e= .returned (.slice a S.hands.length c)∧Aside (∃T,T.map (·.2)=S.hands∧LsP W.heap.size V.heap.size (.slice a S.hands.length c) T V∧Below W.heap.size W V))
  (h62g: ∀W,Below w.heap.size w W→Calls P 62 #[.slice A.g.a S.graves.length A.g.c,.func (.func 63) #[] #[]] W fun e V=> ∃a c,e= .returned (.slice a S.graves.length c)∧Aside (∃T,T.map (·.2)=S.graves∧LsP W.heap.size V.heap.size (.slice a S.graves.length c) T V∧Below W.heap.size W V))
  (h62x: ∀W,Below w.heap.size w W→Calls P 62 #[.slice A.x.a S.exiles.length A.x.c,.func (.func 63) #[] #[]] W fun e V=> ∃a c,e= .returned (.slice a S.exiles.length c)∧Aside (∃T,T.map (·.2)=S.exiles∧LsP W.heap.size V.heap.size (.slice a S.exiles.length c) T V∧Below W.heap.size W V))
  (h63: ∀W,Below w.heap.size w W→Calls P 63 #[.slice A.f.a S.field.length A.f.c] W fun e V=> ∃a c,e= .returned (.slice a S.field.length c)∧Aside (Rw W.heap.size V.heap.size 3 1 (.slice a S.field.length c) S.field.length (S.field.flatMap fun n=>[.int .i64 n]) V∧Below W.heap.size W V))
  (h64s: ∀W,Below w.heap.size w W→Calls P 64 #[.slice A.s.a S.stack.length A.s.c,.func (.func 65) #[] #[]] W fun e V=> ∃a c,e= .returned (.slice a S.stack.length c)∧Aside (∃T,T.map (·.2)=S.stack∧ItP W.heap.size V.heap.size (.slice a S.stack.length c) T V∧Below W.heap.size W V))
  (h64w: ∀W,Below w.heap.size w W→Calls P 64 #[.slice A.w.a S.waits.length A.w.c,.func (.func 65) #[] #[]] W fun e V=> ∃a c,e= .returned (.slice a S.waits.length c)∧Aside (∃T,T.map (·.2)=S.waits∧ItP W.heap.size V.heap.size (.slice a S.waits.length c) T V∧Below W.heap.size W V))
  (h66: ∀W,Below w.heap.size w W→Calls P 66 #[.slice A.t.a S.cast.ts.length A.t.c] W fun e V=> ∃a c,e= .returned (.slice a S.cast.ts.length c)∧Aside (Rw W.heap.size V.heap.size 45 2 (.slice a S.cast.ts.length c) S.cast.ts.length (S.cast.ts.flatMap fun p=>[.int .i64 p.1,.int .i64 p.2]) V∧Below W.heap.size W V)):
  Calls P 33 #[.agg (stV A S).toArray] w fun e w'=> ∃O,e= .returned (.agg (ovV O S).toArray)∧O.st S=S∧ ∃N,Asc N∧w.heap.size≤N 0∧N 10≤w'.heap.size∧OwI N O w'∧Below w.heap.size w w':=by
 have mixed:=L.mixed;have t3:=L.t3;have a3:=L.a3;have z3:=L.z3;have v3:=L.v3;have qu3:=run_underlying L.t3;have t4:=L.t4;have a4:=L.a4;have z4:=L.z4
 have t22:=L.t22;have a22:=L.a22;have z22:=L.z22;have v22:=L.v22;have qu22:=run_underlying L.t22
 have t23:=L.t23;have a23:=L.a23;have z23:=L.z23;have v23:=L.v23;have qu23:=run_underlying L.t23
 have t24:=L.t24;have a24:=L.a24;have z24:=L.z24;have v24:=L.v24;have qu24:=run_underlying L.t24
 have t25:=L.t25;have a25:=L.a25;have z25:=L.z25;have v25:=L.v25;have qu25:=run_underlying L.t25
 have t26:=L.t26;have a26:=L.a26;have z26:=L.z26;have v26:=L.v26;have qu26:=run_underlying L.t26
 have t27:=L.t27;have a27:=L.a27;have z27:=L.z27;have v27:=L.v27;have qu27:=run_underlying L.t27
 have qu29:=run_underlying L.t29;have a29:=L.a29;have z29:=L.z29;have v29:=L.v29
 have qu31:=run_underlying L.t31;have a31:=L.a31;have z31:=L.z31;have v31:=L.v31
 have H59:Aside _:=h59
 have H60:Aside _:=h60
 have H62L:Aside _:=h62l
 have H62H:Aside _:=h62h
 have H62G:Aside _:=h62g
 have H62X:Aside _:=h62x
 have H63:Aside _:=h63
 have H64S:Aside _:=h64s
 have H64W:Aside _:=h64w
 have H66:Aside _:=h66
 have HK1:Hid (k31=25):=hk1
 have hy8:25=y31.length:=by rw[hy1,hk1]
 have HY1:Hid (25=y31.length):=hy8
 have hn1: ¬k31=0:=by omega
 have C0:Aside (Cb w w.heap.size (w.heap.size+1) (stV A S) y31 (w.heap.size+2) (fun _=>True) ((w.alloc (.cells (stV A S).toArray 31)).alloc (.cells y31.toArray 31))):=(by
  obtain⟨g,b4,b5⟩:=a0W w (stV A S) y31 31 31
  exact⟨a0N (.refl _ _) (Nat.le_refl _) g,b4,b5,Nat.le_refl _,by omega,by omega,by simp,trivial,fun _ _ _ _=>trivial⟩)
 clear h59 h60 h62l h62h h62g h62x h63 h64s h64w h66 hk1 hy1 hy8
 go_enter f33,Try.ntmps33
 go_upto_region 1 with fail
 generalize (w.alloc (.cells (stV A S).toArray 31)).alloc (.cells y31.toArray 31)=W0 at C0 ⊢
 generalize hb2:w.heap.size+1=b2 at C0 ⊢
 generalize hb1:w.heap.size=b1 at C0 ⊢
 have HB1:Aside (w.heap.size=b1):=hb1
 have HB2:Aside (w.heap.size+1=b2):=hb2
 have HN0:Aside (b1≤W0.heap.size):=(by have:=C0.out.hn;show b1≤_;omega)
 clear hb1 hb2
 have cc:=a0B (a0A C0.out.c1) (j:=0) (v:=.slice A.p.a S.pl.length A.p.c) rfl
 have hh:=H59.out W0 (by have:=C0.out.b;exact this)
 go_upto_region 2 with((first|go_at_fn 59|go_at_call 59);refine hh.mono ?_;rintro e V0 ⟨a_p,c_p,rfl,R_p⟩;have HS0:Aside (W0.heap.size≤V0.heap.size):=R_p.out.2.size;have CV:Aside _:=C0.out.more (P:=fun U=>Rw W0.heap.size V0.heap.size 66 8 (.slice a_p S.pl.length c_p) S.pl.length (S.pl.flatMap plV) U) R_p.out.2 R_p.out.1 (fun _ _ h k=>h.kp k);have cc2:=a0B (a0A CV.out.c1) (j:=0) (v:=.slice A.p.a S.pl.length A.p.c) rfl;have ff2:=(a0A CV.out.c1 0 (by show 0<25;decide)).2;have C1:Aside _:=CV.out.set 0 (.slice a_p S.pl.length c_p);clear CV)
 clear cc cc2 ff2 hh C0 R_p
 generalize hW1:V0.setCell ⟨b1,0,none⟩ (.slice a_p S.pl.length c_p)=W1 at C1 ⊢
 have hq:W1.heap.size=V0.heap.size:=by rw[←hW1,World.size_setCell]
 have HW1:Hid _:=hq
 clear hq hW1
 have cc:=a0B (a0A C1.out.c1) (j:=1) (v:=.slice A.o.a S.obs.length A.o.c) rfl
 have hh:=H60.out W1 (by have:=C1.out.b;exact this)
 go_upto_region 3 with((first|go_at_fn 60|go_at_call 60);refine hh.mono ?_;rintro e V1 ⟨a_o,c_o,rfl,R_o⟩;obtain⟨T_o,hT_o,hP_o,hB_o⟩:=R_o.out;have HT_o:Hid (T_o.map (·.2)=_):=hT_o;have P_o:Aside (ObP W1.heap.size V1.heap.size (.slice a_o S.obs.length c_o) T_o V1∧Below W1.heap.size W1 V1):=⟨hP_o,hB_o⟩;clear hT_o hP_o hB_o R_o;have HS1:Aside (W1.heap.size≤V1.heap.size):=P_o.out.2.size;have CV:Aside _:=C1.out.more (P:=fun U=>ObP W1.heap.size V1.heap.size (.slice a_o S.obs.length c_o) T_o U) P_o.out.2 P_o.out.1 (fun _ _ h k=>h.kp k);have cc2:=a0B (a0A CV.out.c1) (j:=1) (v:=.slice A.o.a S.obs.length A.o.c) rfl;have ff2:=(a0A CV.out.c1 1 (by show 1<25;decide)).2;have C2:Aside _:=CV.out.set 1 (.slice a_o S.obs.length c_o);clear CV)
 clear cc cc2 ff2 hh C1 P_o
 generalize hW2:V1.setCell ⟨b1,1,none⟩ (.slice a_o S.obs.length c_o)=W2 at C2 ⊢
 have hq:W2.heap.size=V1.heap.size:=by rw[←hW2,World.size_setCell]
 have HW2:Hid _:=hq
 clear hq hW2
 have cA:=a0B (a0A C2.out.c1) (j:=2) (v:=.slice A.l.a S.libs.length A.l.c) rfl
 have cB:=a0B (a0A C2.out.c1) (j:=3) (v:=.slice A.h.a S.hands.length A.h.c) rfl
 go_cut []from 11 to 18 (fun wc=> ∃(a_l a_h:Option Addr) (c_l c_h:Nat),Aside (∃(V2 V3:World) (T_l:List (Value×List Int)) (T_h:List (Value×List Int)),T_l.map (·.2)=S.libs∧T_h.map (·.2)=S.hands∧W2.drew.heap.size≤V2.heap.size∧V2.heap.size≤V3.heap.size∧wc.heap.size=V3.heap.size∧Cb w b1 b2 (((((stV A S).set 0 (.slice a_p S.pl.length c_p)).set 1 (.slice a_o S.obs.length c_o)).set 2 (.slice a_l S.libs.length c_l)).set 3 (.slice a_h S.hands.length c_h)) y31 V3.heap.size (fun U=>((((True)∧Rw W0.heap.size V0.heap.size 66 8 (.slice a_p S.pl.length c_p) S.pl.length (S.pl.flatMap plV) U)∧ObP W1.heap.size V1.heap.size (.slice a_o S.obs.length c_o) T_o U)∧LsP W2.drew.heap.size V2.heap.size (.slice a_l S.libs.length c_l) T_l U)∧LsP V2.heap.size V3.heap.size (.slice a_h S.hands.length c_h) T_h U) wc))
 case first=>
  refine wp_region_held_drew (S:=fun _=>True) mixed trivial (fun hHeld=> ?_)
  refine wtk (i:=0) (v:=.pointer (some ⟨b1,2,none⟩)) hHeld ?_ ?_
  ·intro W hW
   clear hW hHeld
   go_simp
  simp only[Act.put,px]
  refine wtk (i:=3) (v:=.pointer (some ⟨b1,3,none⟩)) hHeld ?_ ?_
  ·intro W hW
   clear hW hHeld
   go_simp
  simp only[Act.put,px]
  refine wpAnyH_ready (rs:=[1,4]) (by kernel_rfl) (by simp) ?_
  refine AllReadyH.cons rfl (fun K hK=> ?_) (AllReadyH.cons rfl (fun K hK=> ?_) AllReadyH.nil)
  ·skip
   go_simp
   refine hK.out _ _ trivial (fun hHeld=> ?_)
   clear hK K
   refine wpAnyH_ready (rs:=[2,4]) (by kernel_rfl) (by simp) ?_
   refine AllReadyH.cons rfl (fun K hK=> ?_) (AllReadyH.cons rfl (fun K hK=> ?_) AllReadyH.nil)
   ·skip
    go_simp
    refine Calls.mono (H62L.out W2.drew (Cb.b (Cb.gr C2.out ((Gr.refl _).drew)))) ?_
    rintro e V2 ⟨a_l,c_l,rfl,R_l⟩
    obtain⟨T_l,hT_l,hP_l,hB_l⟩:=R_l.out
    have CV1:Aside _:=(C2.out.gr ((Gr.refl _).drew)).more (P:=fun U=>LsP W2.drew.heap.size V2.heap.size (.slice a_l S.libs.length c_l) T_l U) hB_l hP_l (fun _ _ h k=>h.kp k)
    have HT_l:Hid (T_l.map (·.2)=S.libs):=hT_l
    have HS1:Aside (W2.drew.heap.size≤V2.heap.size):=hB_l.size
    have cD:=a0B (a0A CV1.out.c1) (j:=3) (v:=.slice A.h.a S.hands.length A.h.c) rfl
    clear hT_l hP_l hB_l R_l
    refine hK.out _ _ trivial (fun hHeld=> ?_)
    clear hK K
    refine wrd 4 fun K hK=> ?_
    go_simp
    refine hK.out _ _ trivial (fun hHeld=> ?_)
    clear hK K
    refine wtk (i:=6) (v:=.pointer (some ⟨b1,2,none⟩)) hHeld ?_ ?_
    ·intro W hW
     clear hW hHeld
     go_simp
    simp only[Act.put,px]
    refine wrd 5 fun K hK=> ?_
    go_simp
    refine Calls.mono (H62H.out V2 CV1.out.b) ?_
    rintro e V3 ⟨a_h,c_h,rfl,R_h⟩
    obtain⟨T_h,hT_h,hP_h,hB_h⟩:=R_h.out
    have CV2:Aside _:=CV1.out.more (P:=fun U=>LsP V2.heap.size V3.heap.size (.slice a_h S.hands.length c_h) T_h U) hB_h hP_h (fun _ _ h k=>h.kp k)
    have HT_h:Hid (T_h.map (·.2)=S.hands):=hT_h
    have HS2:Aside (V2.heap.size≤V3.heap.size):=hB_h.size
    have cE:=a0B (a0A CV2.out.c1) (j:=2) (v:=.slice A.l.a S.libs.length A.l.c) rfl
    have fE:=(a0A CV2.out.c1 2 (by show 2<25;decide)).2
    have CX1:Aside _:=CV2.out.set 2 (.slice a_l S.libs.length c_l)
    have cF:=a0B (a0A CX1.out.c1) (j:=3) (v:=.slice A.h.a S.hands.length A.h.c) rfl
    have fF:=(a0A CX1.out.c1 3 (by show 3<25;decide)).2
    have CX2:Aside _:=CX1.out.set 3 (.slice a_h S.hands.length c_h)
    clear hT_h hP_h hB_h R_h
    refine hK.out _ _ trivial (fun hHeld=> ?_)
    clear hK K
    refine wrd 7 fun K hK=> ?_
    go_simp
    refine hK.out _ _ trivial (fun hHeld=> ?_)
    clear hK K
    refine wrd 8 fun K hK=> ?_
    go_simp
    refine hK.out _ _ trivial (fun hHeld=> ?_)
    clear hK K
    refine wrd 9 fun K hK=> ?_
    go_simp
    refine hK.out _ _ trivial (fun hHeld=> ?_)
    clear hK K
    refine wpAnyH_done (by kernel_rfl) ?_ _
    go_wp2
    go_meet
    case rel=>exact⟨a_l,a_h,c_l,c_h,⟨V2,V3,T_l,T_h,HT_l.out,HT_h.out,HS1.out,HS2.out,by rw[World.size_setCell,World.size_setCell],CX2.out⟩⟩
   ·skip
    go_simp
    refine hK.out _ _ trivial (fun hHeld=> ?_)
    clear hK K
    refine wrd 2 fun K hK=> ?_
    go_simp
    refine Calls.mono (H62L.out W2.drew (Cb.b (Cb.gr C2.out ((Gr.refl _).drew)))) ?_
    rintro e V2 ⟨a_l,c_l,rfl,R_l⟩
    obtain⟨T_l,hT_l,hP_l,hB_l⟩:=R_l.out
    have CV1:Aside _:=(C2.out.gr ((Gr.refl _).drew)).more (P:=fun U=>LsP W2.drew.heap.size V2.heap.size (.slice a_l S.libs.length c_l) T_l U) hB_l hP_l (fun _ _ h k=>h.kp k)
    have HT_l:Hid (T_l.map (·.2)=S.libs):=hT_l
    have HS1:Aside (W2.drew.heap.size≤V2.heap.size):=hB_l.size
    have cD:=a0B (a0A CV1.out.c1) (j:=3) (v:=.slice A.h.a S.hands.length A.h.c) rfl
    clear hT_l hP_l hB_l R_l
    refine hK.out _ _ trivial (fun hHeld=> ?_)
    clear hK K
    refine wtk (i:=6) (v:=.pointer (some ⟨b1,2,none⟩)) hHeld ?_ ?_
    ·intro W hW
     clear hW hHeld
     go_simp
    simp only[Act.put,px]
    refine wrd 5 fun K hK=> ?_
    go_simp
    refine Calls.mono (H62H.out V2 CV1.out.b) ?_
    rintro e V3 ⟨a_h,c_h,rfl,R_h⟩
    obtain⟨T_h,hT_h,hP_h,hB_h⟩:=R_h.out
    have CV2:Aside _:=CV1.out.more (P:=fun U=>LsP V2.heap.size V3.heap.size (.slice a_h S.hands.length c_h) T_h U) hB_h hP_h (fun _ _ h k=>h.kp k)
    have HT_h:Hid (T_h.map (·.2)=S.hands):=hT_h
    have HS2:Aside (V2.heap.size≤V3.heap.size):=hB_h.size
    have cE:=a0B (a0A CV2.out.c1) (j:=2) (v:=.slice A.l.a S.libs.length A.l.c) rfl
    have fE:=(a0A CV2.out.c1 2 (by show 2<25;decide)).2
    have CX1:Aside _:=CV2.out.set 2 (.slice a_l S.libs.length c_l)
    have cF:=a0B (a0A CX1.out.c1) (j:=3) (v:=.slice A.h.a S.hands.length A.h.c) rfl
    have fF:=(a0A CX1.out.c1 3 (by show 3<25;decide)).2
    have CX2:Aside _:=CX1.out.set 3 (.slice a_h S.hands.length c_h)
    clear hT_h hP_h hB_h R_h
    refine hK.out _ _ trivial (fun hHeld=> ?_)
    clear hK K
    refine wrd 7 fun K hK=> ?_
    go_simp
    refine hK.out _ _ trivial (fun hHeld=> ?_)
    clear hK K
    refine wrd 8 fun K hK=> ?_
    go_simp
    refine hK.out _ _ trivial (fun hHeld=> ?_)
    clear hK K
    refine wrd 9 fun K hK=> ?_
    go_simp
    refine hK.out _ _ trivial (fun hHeld=> ?_)
    clear hK K
    refine wpAnyH_done (by kernel_rfl) ?_ _
    go_wp2
    go_meet
    case rel=>exact⟨a_l,a_h,c_l,c_h,⟨V2,V3,T_l,T_h,HT_l.out,HT_h.out,HS1.out,HS2.out,by rw[World.size_setCell,World.size_setCell],CX2.out⟩⟩
  ·skip
   go_simp
   refine hK.out _ _ trivial (fun hHeld=> ?_)
   clear hK K
   refine wrd 1 fun K hK=> ?_
   go_simp
   refine hK.out _ _ trivial (fun hHeld=> ?_)
   clear hK K
   refine wrd 2 fun K hK=> ?_
   go_simp
   refine Calls.mono (H62L.out W2.drew (Cb.b (Cb.gr C2.out ((Gr.refl _).drew)))) ?_
   rintro e V2 ⟨a_l,c_l,rfl,R_l⟩
   obtain⟨T_l,hT_l,hP_l,hB_l⟩:=R_l.out
   have CV1:Aside _:=(C2.out.gr ((Gr.refl _).drew)).more (P:=fun U=>LsP W2.drew.heap.size V2.heap.size (.slice a_l S.libs.length c_l) T_l U) hB_l hP_l (fun _ _ h k=>h.kp k)
   have HT_l:Hid (T_l.map (·.2)=S.libs):=hT_l
   have HS1:Aside (W2.drew.heap.size≤V2.heap.size):=hB_l.size
   have cD:=a0B (a0A CV1.out.c1) (j:=3) (v:=.slice A.h.a S.hands.length A.h.c) rfl
   clear hT_l hP_l hB_l R_l
   refine hK.out _ _ trivial (fun hHeld=> ?_)
   clear hK K
   refine wtk (i:=6) (v:=.pointer (some ⟨b1,2,none⟩)) hHeld ?_ ?_
   ·intro W hW
    clear hW hHeld
    go_simp
   simp only[Act.put,px]
   refine wrd 5 fun K hK=> ?_
   go_simp
   refine Calls.mono (H62H.out V2 CV1.out.b) ?_
   rintro e V3 ⟨a_h,c_h,rfl,R_h⟩
   obtain⟨T_h,hT_h,hP_h,hB_h⟩:=R_h.out
   have CV2:Aside _:=CV1.out.more (P:=fun U=>LsP V2.heap.size V3.heap.size (.slice a_h S.hands.length c_h) T_h U) hB_h hP_h (fun _ _ h k=>h.kp k)
   have HT_h:Hid (T_h.map (·.2)=S.hands):=hT_h
   have HS2:Aside (V2.heap.size≤V3.heap.size):=hB_h.size
   have cE:=a0B (a0A CV2.out.c1) (j:=2) (v:=.slice A.l.a S.libs.length A.l.c) rfl
   have fE:=(a0A CV2.out.c1 2 (by show 2<25;decide)).2
   have CX1:Aside _:=CV2.out.set 2 (.slice a_l S.libs.length c_l)
   have cF:=a0B (a0A CX1.out.c1) (j:=3) (v:=.slice A.h.a S.hands.length A.h.c) rfl
   have fF:=(a0A CX1.out.c1 3 (by show 3<25;decide)).2
   have CX2:Aside _:=CX1.out.set 3 (.slice a_h S.hands.length c_h)
   clear hT_h hP_h hB_h R_h
   refine hK.out _ _ trivial (fun hHeld=> ?_)
   clear hK K
   refine wrd 7 fun K hK=> ?_
   go_simp
   refine hK.out _ _ trivial (fun hHeld=> ?_)
   clear hK K
   refine wrd 8 fun K hK=> ?_
   go_simp
   refine hK.out _ _ trivial (fun hHeld=> ?_)
   clear hK K
   refine wrd 9 fun K hK=> ?_
   go_simp
   refine hK.out _ _ trivial (fun hHeld=> ?_)
   clear hK K
   refine wpAnyH_done (by kernel_rfl) ?_ _
   go_wp2
   go_meet
   case rel=>exact⟨a_l,a_h,c_l,c_h,⟨V2,V3,T_l,T_h,HT_l.out,HT_h.out,HS1.out,HS2.out,by rw[World.size_setCell,World.size_setCell],CX2.out⟩⟩
 case rest=>
  obtain⟨a_l,a_h,c_l,c_h,RC⟩:=hcut
  obtain⟨V2,V3,T_l,T_h,hT1,hT2,hs1,hs2,hs3,CC⟩:=RC.out
  have HT_l:Hid (T_l.map (·.2)=S.libs):=hT1
  have HT_h:Hid (T_h.map (·.2)=S.hands):=hT2
  have HS2:Aside (W2.drew.heap.size≤V2.heap.size):=hs1
  have HS3:Aside (V2.heap.size≤V3.heap.size):=hs2
  have HW4:Hid (wc.heap.size=V3.heap.size):=hs3
  have C4:Aside (Cb w b1 b2 (((((stV A S).set 0 (.slice a_p S.pl.length c_p)).set 1 (.slice a_o S.obs.length c_o)).set 2 (.slice a_l S.libs.length c_l)).set 3 (.slice a_h S.hands.length c_h)) y31 V3.heap.size (fun U=>((((True)∧Rw W0.heap.size V0.heap.size 66 8 (.slice a_p S.pl.length c_p) S.pl.length (S.pl.flatMap plV) U)∧ObP W1.heap.size V1.heap.size (.slice a_o S.obs.length c_o) T_o U)∧LsP W2.drew.heap.size V2.heap.size (.slice a_l S.libs.length c_l) T_l U)∧LsP V2.heap.size V3.heap.size (.slice a_h S.hands.length c_h) T_h U) wc):=CC
  clear hT1 hT2 hs1 hs2 hs3 CC RC C2 cA cB
  generalize wc=W4 at C4 HW4 ⊢
  go_upto_region 4 with fail
  have cA:=a0B (a0A C4.out.c1) (j:=4) (v:=.slice A.g.a S.graves.length A.g.c) rfl
  have cB:=a0B (a0A C4.out.c1) (j:=5) (v:=.slice A.x.a S.exiles.length A.x.c) rfl
  go_cut []from 19 to 26 (fun wc=> ∃(a_g a_x:Option Addr) (c_g c_x:Nat),Aside (∃(V4 V5:World) (T_g:List (Value×List Int)) (T_x:List (Value×List Int)),T_g.map (·.2)=S.graves∧T_x.map (·.2)=S.exiles∧W4.drew.heap.size≤V4.heap.size∧V4.heap.size≤V5.heap.size∧wc.heap.size=V5.heap.size∧Cb w b1 b2 (((((((stV A S).set 0 (.slice a_p S.pl.length c_p)).set 1 (.slice a_o S.obs.length c_o)).set 2 (.slice a_l S.libs.length c_l)).set 3 (.slice a_h S.hands.length c_h)).set 4 (.slice a_g S.graves.length c_g)).set 5 (.slice a_x S.exiles.length c_x)) y31 V5.heap.size (fun U=>((((((True)∧Rw W0.heap.size V0.heap.size 66 8 (.slice a_p S.pl.length c_p) S.pl.length (S.pl.flatMap plV) U)∧ObP W1.heap.size V1.heap.size (.slice a_o S.obs.length c_o) T_o U)∧LsP W2.drew.heap.size V2.heap.size (.slice a_l S.libs.length c_l) T_l U)∧LsP V2.heap.size V3.heap.size (.slice a_h S.hands.length c_h) T_h U)∧LsP W4.drew.heap.size V4.heap.size (.slice a_g S.graves.length c_g) T_g U)∧LsP V4.heap.size V5.heap.size (.slice a_x S.exiles.length c_x) T_x U) wc))
  case first=>
   refine wp_region_held_drew (S:=fun _=>True) mixed trivial (fun hHeld=> ?_)
   refine wtk (i:=0) (v:=.pointer (some ⟨b1,4,none⟩)) hHeld ?_ ?_
   ·intro W hW
    clear hW hHeld
    go_simp
   simp only[Act.put,px]
   refine wtk (i:=3) (v:=.pointer (some ⟨b1,5,none⟩)) hHeld ?_ ?_
   ·intro W hW
    clear hW hHeld
    go_simp
   simp only[Act.put,px]
   refine wpAnyH_ready (rs:=[1,4]) (by kernel_rfl) (by simp) ?_
   refine AllReadyH.cons rfl (fun K hK=> ?_) (AllReadyH.cons rfl (fun K hK=> ?_) AllReadyH.nil)
   ·skip
    go_simp
    refine hK.out _ _ trivial (fun hHeld=> ?_)
    clear hK K
    refine wpAnyH_ready (rs:=[2,4]) (by kernel_rfl) (by simp) ?_
    refine AllReadyH.cons rfl (fun K hK=> ?_) (AllReadyH.cons rfl (fun K hK=> ?_) AllReadyH.nil)
    ·skip
     go_simp
     refine Calls.mono (H62G.out W4.drew (Cb.b (Cb.gr C4.out ((Gr.refl _).drew)))) ?_
     rintro e V4 ⟨a_g,c_g,rfl,R_g⟩
     obtain⟨T_g,hT_g,hP_g,hB_g⟩:=R_g.out
     have CV1:Aside _:=(C4.out.gr ((Gr.refl _).drew)).more (P:=fun U=>LsP W4.drew.heap.size V4.heap.size (.slice a_g S.graves.length c_g) T_g U) hB_g hP_g (fun _ _ h k=>h.kp k)
     have HT_g:Hid (T_g.map (·.2)=S.graves):=hT_g
     have HS1:Aside (W4.drew.heap.size≤V4.heap.size):=hB_g.size
     have cD:=a0B (a0A CV1.out.c1) (j:=5) (v:=.slice A.x.a S.exiles.length A.x.c) rfl
     clear hT_g hP_g hB_g R_g
     refine hK.out _ _ trivial (fun hHeld=> ?_)
     clear hK K
     refine wrd 4 fun K hK=> ?_
     go_simp
     refine hK.out _ _ trivial (fun hHeld=> ?_)
     clear hK K
     refine wtk (i:=6) (v:=.pointer (some ⟨b1,4,none⟩)) hHeld ?_ ?_
     ·intro W hW
      clear hW hHeld
      go_simp
     simp only[Act.put,px]
     refine wrd 5 fun K hK=> ?_
     go_simp
     refine Calls.mono (H62X.out V4 CV1.out.b) ?_
     rintro e V5 ⟨a_x,c_x,rfl,R_x⟩
     obtain⟨T_x,hT_x,hP_x,hB_x⟩:=R_x.out
     have CV2:Aside _:=CV1.out.more (P:=fun U=>LsP V4.heap.size V5.heap.size (.slice a_x S.exiles.length c_x) T_x U) hB_x hP_x (fun _ _ h k=>h.kp k)
     have HT_x:Hid (T_x.map (·.2)=S.exiles):=hT_x
     have HS2:Aside (V4.heap.size≤V5.heap.size):=hB_x.size
     have cE:=a0B (a0A CV2.out.c1) (j:=4) (v:=.slice A.g.a S.graves.length A.g.c) rfl
     have fE:=(a0A CV2.out.c1 4 (by show 4<25;decide)).2
     have CX1:Aside _:=CV2.out.set 4 (.slice a_g S.graves.length c_g)
     have cF:=a0B (a0A CX1.out.c1) (j:=5) (v:=.slice A.x.a S.exiles.length A.x.c) rfl
     have fF:=(a0A CX1.out.c1 5 (by show 5<25;decide)).2
     have CX2:Aside _:=CX1.out.set 5 (.slice a_x S.exiles.length c_x)
     clear hT_x hP_x hB_x R_x
     refine hK.out _ _ trivial (fun hHeld=> ?_)
     clear hK K
     refine wrd 7 fun K hK=> ?_
     go_simp
     refine hK.out _ _ trivial (fun hHeld=> ?_)
     clear hK K
     refine wrd 8 fun K hK=> ?_
     go_simp
     refine hK.out _ _ trivial (fun hHeld=> ?_)
     clear hK K
     refine wrd 9 fun K hK=> ?_
     go_simp
     refine hK.out _ _ trivial (fun hHeld=> ?_)
     clear hK K
     refine wpAnyH_done (by kernel_rfl) ?_ _
     go_wp2
     go_meet
     case rel=>exact⟨a_g,a_x,c_g,c_x,⟨V4,V5,T_g,T_x,HT_g.out,HT_x.out,HS1.out,HS2.out,by rw[World.size_setCell,World.size_setCell],CX2.out⟩⟩
    ·skip
     go_simp
     refine hK.out _ _ trivial (fun hHeld=> ?_)
     clear hK K
     refine wrd 2 fun K hK=> ?_
     go_simp
     refine Calls.mono (H62G.out W4.drew (Cb.b (Cb.gr C4.out ((Gr.refl _).drew)))) ?_
     rintro e V4 ⟨a_g,c_g,rfl,R_g⟩
     obtain⟨T_g,hT_g,hP_g,hB_g⟩:=R_g.out
     have CV1:Aside _:=(C4.out.gr ((Gr.refl _).drew)).more (P:=fun U=>LsP W4.drew.heap.size V4.heap.size (.slice a_g S.graves.length c_g) T_g U) hB_g hP_g (fun _ _ h k=>h.kp k)
     have HT_g:Hid (T_g.map (·.2)=S.graves):=hT_g
     have HS1:Aside (W4.drew.heap.size≤V4.heap.size):=hB_g.size
     have cD:=a0B (a0A CV1.out.c1) (j:=5) (v:=.slice A.x.a S.exiles.length A.x.c) rfl
     clear hT_g hP_g hB_g R_g
     refine hK.out _ _ trivial (fun hHeld=> ?_)
     clear hK K
     refine wtk (i:=6) (v:=.pointer (some ⟨b1,4,none⟩)) hHeld ?_ ?_
     ·intro W hW
      clear hW hHeld
      go_simp
     simp only[Act.put,px]
     refine wrd 5 fun K hK=> ?_
     go_simp
     refine Calls.mono (H62X.out V4 CV1.out.b) ?_
     rintro e V5 ⟨a_x,c_x,rfl,R_x⟩
     obtain⟨T_x,hT_x,hP_x,hB_x⟩:=R_x.out
     have CV2:Aside _:=CV1.out.more (P:=fun U=>LsP V4.heap.size V5.heap.size (.slice a_x S.exiles.length c_x) T_x U) hB_x hP_x (fun _ _ h k=>h.kp k)
     have HT_x:Hid (T_x.map (·.2)=S.exiles):=hT_x
     have HS2:Aside (V4.heap.size≤V5.heap.size):=hB_x.size
     have cE:=a0B (a0A CV2.out.c1) (j:=4) (v:=.slice A.g.a S.graves.length A.g.c) rfl
     have fE:=(a0A CV2.out.c1 4 (by show 4<25;decide)).2
     have CX1:Aside _:=CV2.out.set 4 (.slice a_g S.graves.length c_g)
     have cF:=a0B (a0A CX1.out.c1) (j:=5) (v:=.slice A.x.a S.exiles.length A.x.c) rfl
     have fF:=(a0A CX1.out.c1 5 (by show 5<25;decide)).2
     have CX2:Aside _:=CX1.out.set 5 (.slice a_x S.exiles.length c_x)
     clear hT_x hP_x hB_x R_x
     refine hK.out _ _ trivial (fun hHeld=> ?_)
     clear hK K
     refine wrd 7 fun K hK=> ?_
     go_simp
     refine hK.out _ _ trivial (fun hHeld=> ?_)
     clear hK K
     refine wrd 8 fun K hK=> ?_
     go_simp
     refine hK.out _ _ trivial (fun hHeld=> ?_)
     clear hK K
     refine wrd 9 fun K hK=> ?_
     go_simp
     refine hK.out _ _ trivial (fun hHeld=> ?_)
     clear hK K
     refine wpAnyH_done (by kernel_rfl) ?_ _
     go_wp2
     go_meet
     case rel=>exact⟨a_g,a_x,c_g,c_x,⟨V4,V5,T_g,T_x,HT_g.out,HT_x.out,HS1.out,HS2.out,by rw[World.size_setCell,World.size_setCell],CX2.out⟩⟩
   ·skip
    go_simp
    refine hK.out _ _ trivial (fun hHeld=> ?_)
    clear hK K
    refine wrd 1 fun K hK=> ?_
    go_simp
    refine hK.out _ _ trivial (fun hHeld=> ?_)
    clear hK K
    refine wrd 2 fun K hK=> ?_
    go_simp
    refine Calls.mono (H62G.out W4.drew (Cb.b (Cb.gr C4.out ((Gr.refl _).drew)))) ?_
    rintro e V4 ⟨a_g,c_g,rfl,R_g⟩
    obtain⟨T_g,hT_g,hP_g,hB_g⟩:=R_g.out
    have CV1:Aside _:=(C4.out.gr ((Gr.refl _).drew)).more (P:=fun U=>LsP W4.drew.heap.size V4.heap.size (.slice a_g S.graves.length c_g) T_g U) hB_g hP_g (fun _ _ h k=>h.kp k)
    have HT_g:Hid (T_g.map (·.2)=S.graves):=hT_g
    have HS1:Aside (W4.drew.heap.size≤V4.heap.size):=hB_g.size
    have cD:=a0B (a0A CV1.out.c1) (j:=5) (v:=.slice A.x.a S.exiles.length A.x.c) rfl
    clear hT_g hP_g hB_g R_g
    refine hK.out _ _ trivial (fun hHeld=> ?_)
    clear hK K
    refine wtk (i:=6) (v:=.pointer (some ⟨b1,4,none⟩)) hHeld ?_ ?_
    ·intro W hW
     clear hW hHeld
     go_simp
    simp only[Act.put,px]
    refine wrd 5 fun K hK=> ?_
    go_simp
    refine Calls.mono (H62X.out V4 CV1.out.b) ?_
    rintro e V5 ⟨a_x,c_x,rfl,R_x⟩
    obtain⟨T_x,hT_x,hP_x,hB_x⟩:=R_x.out
    have CV2:Aside _:=CV1.out.more (P:=fun U=>LsP V4.heap.size V5.heap.size (.slice a_x S.exiles.length c_x) T_x U) hB_x hP_x (fun _ _ h k=>h.kp k)
    have HT_x:Hid (T_x.map (·.2)=S.exiles):=hT_x
    have HS2:Aside (V4.heap.size≤V5.heap.size):=hB_x.size
    have cE:=a0B (a0A CV2.out.c1) (j:=4) (v:=.slice A.g.a S.graves.length A.g.c) rfl
    have fE:=(a0A CV2.out.c1 4 (by show 4<25;decide)).2
    have CX1:Aside _:=CV2.out.set 4 (.slice a_g S.graves.length c_g)
    have cF:=a0B (a0A CX1.out.c1) (j:=5) (v:=.slice A.x.a S.exiles.length A.x.c) rfl
    have fF:=(a0A CX1.out.c1 5 (by show 5<25;decide)).2
    have CX2:Aside _:=CX1.out.set 5 (.slice a_x S.exiles.length c_x)
    clear hT_x hP_x hB_x R_x
    refine hK.out _ _ trivial (fun hHeld=> ?_)
    clear hK K
    refine wrd 7 fun K hK=> ?_
    go_simp
    refine hK.out _ _ trivial (fun hHeld=> ?_)
    clear hK K
    refine wrd 8 fun K hK=> ?_
    go_simp
    refine hK.out _ _ trivial (fun hHeld=> ?_)
    clear hK K
    refine wrd 9 fun K hK=> ?_
    go_simp
    refine hK.out _ _ trivial (fun hHeld=> ?_)
    clear hK K
    refine wpAnyH_done (by kernel_rfl) ?_ _
    go_wp2
    go_meet
    case rel=>exact⟨a_g,a_x,c_g,c_x,⟨V4,V5,T_g,T_x,HT_g.out,HT_x.out,HS1.out,HS2.out,by rw[World.size_setCell,World.size_setCell],CX2.out⟩⟩
  case rest=>
   obtain⟨a_g,a_x,c_g,c_x,RC⟩:=hcut
   obtain⟨V4,V5,T_g,T_x,hT1,hT2,hs1,hs2,hs3,CC⟩:=RC.out
   have HT_g:Hid (T_g.map (·.2)=S.graves):=hT1
   have HT_x:Hid (T_x.map (·.2)=S.exiles):=hT2
   have HS4:Aside (W4.drew.heap.size≤V4.heap.size):=hs1
   have HS5:Aside (V4.heap.size≤V5.heap.size):=hs2
   have HW6:Hid (wc.heap.size=V5.heap.size):=hs3
   have C6:Aside (Cb w b1 b2 (((((((stV A S).set 0 (.slice a_p S.pl.length c_p)).set 1 (.slice a_o S.obs.length c_o)).set 2 (.slice a_l S.libs.length c_l)).set 3 (.slice a_h S.hands.length c_h)).set 4 (.slice a_g S.graves.length c_g)).set 5 (.slice a_x S.exiles.length c_x)) y31 V5.heap.size (fun U=>((((((True)∧Rw W0.heap.size V0.heap.size 66 8 (.slice a_p S.pl.length c_p) S.pl.length (S.pl.flatMap plV) U)∧ObP W1.heap.size V1.heap.size (.slice a_o S.obs.length c_o) T_o U)∧LsP W2.drew.heap.size V2.heap.size (.slice a_l S.libs.length c_l) T_l U)∧LsP V2.heap.size V3.heap.size (.slice a_h S.hands.length c_h) T_h U)∧LsP W4.drew.heap.size V4.heap.size (.slice a_g S.graves.length c_g) T_g U)∧LsP V4.heap.size V5.heap.size (.slice a_x S.exiles.length c_x) T_x U) wc):=CC
   clear hT1 hT2 hs1 hs2 hs3 CC RC C4 cA cB
   generalize wc=W6 at C6 HW6 ⊢
   go_upto_region 5 with fail
   have cc:=a0B (a0A C6.out.c1) (j:=6) (v:=.slice A.f.a S.field.length A.f.c) rfl
   have hh:=H63.out W6 (by have:=C6.out.b;exact this)
   go_upto_region 6 with((first|go_at_fn 63|go_at_call 63);refine hh.mono ?_;rintro e V6 ⟨a_f,c_f,rfl,R_f⟩;have HS6:Aside (W6.heap.size≤V6.heap.size):=R_f.out.2.size;have CV:Aside _:=C6.out.more (P:=fun U=>Rw W6.heap.size V6.heap.size 3 1 (.slice a_f S.field.length c_f) S.field.length (S.field.flatMap fun n=>[.int .i64 n]) U) R_f.out.2 R_f.out.1 (fun _ _ h k=>h.kp k);have cc2:=a0B (a0A CV.out.c1) (j:=6) (v:=.slice A.f.a S.field.length A.f.c) rfl;have ff2:=(a0A CV.out.c1 6 (by show 6<25;decide)).2;have C7:Aside _:=CV.out.set 6 (.slice a_f S.field.length c_f);clear CV)
   clear cc cc2 ff2 hh C6 R_f
   generalize hW7:V6.setCell ⟨b1,6,none⟩ (.slice a_f S.field.length c_f)=W7 at C7 ⊢
   have hq:W7.heap.size=V6.heap.size:=by rw[←hW7,World.size_setCell]
   have HW7:Hid _:=hq
   clear hq hW7
   have cA:=a0B (a0A C7.out.c1) (j:=7) (v:=.slice A.s.a S.stack.length A.s.c) rfl
   have cB:=a0B (a0A C7.out.c1) (j:=8) (v:=.slice A.w.a S.waits.length A.w.c) rfl
   go_cut []from 31 to 38 (fun wc=> ∃(a_s a_w:Option Addr) (c_s c_w:Nat),Aside (∃(V7 V8:World) (T_s:List (Value×Itm)) (T_w:List (Value×Itm)),T_s.map (·.2)=S.stack∧T_w.map (·.2)=S.waits∧W7.drew.heap.size≤V7.heap.size∧V7.heap.size≤V8.heap.size∧wc.heap.size=V8.heap.size∧Cb w b1 b2 ((((((((((stV A S).set 0 (.slice a_p S.pl.length c_p)).set 1 (.slice a_o S.obs.length c_o)).set 2 (.slice a_l S.libs.length c_l)).set 3 (.slice a_h S.hands.length c_h)).set 4 (.slice a_g S.graves.length c_g)).set 5 (.slice a_x S.exiles.length c_x)).set 6 (.slice a_f S.field.length c_f)).set 7 (.slice a_s S.stack.length c_s)).set 8 (.slice a_w S.waits.length c_w)) y31 V8.heap.size (fun U=>(((((((((True)∧Rw W0.heap.size V0.heap.size 66 8 (.slice a_p S.pl.length c_p) S.pl.length (S.pl.flatMap plV) U)∧ObP W1.heap.size V1.heap.size (.slice a_o S.obs.length c_o) T_o U)∧LsP W2.drew.heap.size V2.heap.size (.slice a_l S.libs.length c_l) T_l U)∧LsP V2.heap.size V3.heap.size (.slice a_h S.hands.length c_h) T_h U)∧LsP W4.drew.heap.size V4.heap.size (.slice a_g S.graves.length c_g) T_g U)∧LsP V4.heap.size V5.heap.size (.slice a_x S.exiles.length c_x) T_x U)∧Rw W6.heap.size V6.heap.size 3 1 (.slice a_f S.field.length c_f) S.field.length (S.field.flatMap fun n=>[.int .i64 n]) U)∧ItP W7.drew.heap.size V7.heap.size (.slice a_s S.stack.length c_s) T_s U)∧ItP V7.heap.size V8.heap.size (.slice a_w S.waits.length c_w) T_w U) wc))
   case first=>
    refine wp_region_held_drew (S:=fun _=>True) mixed trivial (fun hHeld=> ?_)
    refine wtk (i:=0) (v:=.pointer (some ⟨b1,7,none⟩)) hHeld ?_ ?_
    ·intro W hW
     clear hW hHeld
     go_simp
    simp only[Act.put,px]
    refine wtk (i:=3) (v:=.pointer (some ⟨b1,8,none⟩)) hHeld ?_ ?_
    ·intro W hW
     clear hW hHeld
     go_simp
    simp only[Act.put,px]
    refine wpAnyH_ready (rs:=[1,4]) (by kernel_rfl) (by simp) ?_
    refine AllReadyH.cons rfl (fun K hK=> ?_) (AllReadyH.cons rfl (fun K hK=> ?_) AllReadyH.nil)
    ·skip
     go_simp
     refine hK.out _ _ trivial (fun hHeld=> ?_)
     clear hK K
     refine wpAnyH_ready (rs:=[2,4]) (by kernel_rfl) (by simp) ?_
     refine AllReadyH.cons rfl (fun K hK=> ?_) (AllReadyH.cons rfl (fun K hK=> ?_) AllReadyH.nil)
     ·skip
      go_simp
      refine Calls.mono (H64S.out W7.drew (Cb.b (Cb.gr C7.out ((Gr.refl _).drew)))) ?_
      rintro e V7 ⟨a_s,c_s,rfl,R_s⟩
      obtain⟨T_s,hT_s,hP_s,hB_s⟩:=R_s.out
      have CV1:Aside _:=(C7.out.gr ((Gr.refl _).drew)).more (P:=fun U=>ItP W7.drew.heap.size V7.heap.size (.slice a_s S.stack.length c_s) T_s U) hB_s hP_s (fun _ _ h k=>h.kp k)
      have HT_s:Hid (T_s.map (·.2)=S.stack):=hT_s
      have HS1:Aside (W7.drew.heap.size≤V7.heap.size):=hB_s.size
      have cD:=a0B (a0A CV1.out.c1) (j:=8) (v:=.slice A.w.a S.waits.length A.w.c) rfl
      clear hT_s hP_s hB_s R_s
      refine hK.out _ _ trivial (fun hHeld=> ?_)
      clear hK K
      refine wrd 4 fun K hK=> ?_
      go_simp
      refine hK.out _ _ trivial (fun hHeld=> ?_)
      clear hK K
      refine wtk (i:=6) (v:=.pointer (some ⟨b1,7,none⟩)) hHeld ?_ ?_
      ·intro W hW
       clear hW hHeld
       go_simp
      simp only[Act.put,px]
      refine wrd 5 fun K hK=> ?_
      go_simp
      refine Calls.mono (H64W.out V7 CV1.out.b) ?_
      rintro e V8 ⟨a_w,c_w,rfl,R_w⟩
      obtain⟨T_w,hT_w,hP_w,hB_w⟩:=R_w.out
      have CV2:Aside _:=CV1.out.more (P:=fun U=>ItP V7.heap.size V8.heap.size (.slice a_w S.waits.length c_w) T_w U) hB_w hP_w (fun _ _ h k=>h.kp k)
      have HT_w:Hid (T_w.map (·.2)=S.waits):=hT_w
      have HS2:Aside (V7.heap.size≤V8.heap.size):=hB_w.size
      have cE:=a0B (a0A CV2.out.c1) (j:=7) (v:=.slice A.s.a S.stack.length A.s.c) rfl
      have fE:=(a0A CV2.out.c1 7 (by show 7<25;decide)).2
      have CX1:Aside _:=CV2.out.set 7 (.slice a_s S.stack.length c_s)
      have cF:=a0B (a0A CX1.out.c1) (j:=8) (v:=.slice A.w.a S.waits.length A.w.c) rfl
      have fF:=(a0A CX1.out.c1 8 (by show 8<25;decide)).2
      have CX2:Aside _:=CX1.out.set 8 (.slice a_w S.waits.length c_w)
      clear hT_w hP_w hB_w R_w
      refine hK.out _ _ trivial (fun hHeld=> ?_)
      clear hK K
      refine wrd 7 fun K hK=> ?_
      go_simp
      refine hK.out _ _ trivial (fun hHeld=> ?_)
      clear hK K
      refine wrd 8 fun K hK=> ?_
      go_simp
      refine hK.out _ _ trivial (fun hHeld=> ?_)
      clear hK K
      refine wrd 9 fun K hK=> ?_
      go_simp
      refine hK.out _ _ trivial (fun hHeld=> ?_)
      clear hK K
      refine wpAnyH_done (by kernel_rfl) ?_ _
      go_wp2
      go_meet
      case rel=>exact⟨a_s,a_w,c_s,c_w,⟨V7,V8,T_s,T_w,HT_s.out,HT_w.out,HS1.out,HS2.out,by rw[World.size_setCell,World.size_setCell],CX2.out⟩⟩
     ·skip
      go_simp
      refine hK.out _ _ trivial (fun hHeld=> ?_)
      clear hK K
      refine wrd 2 fun K hK=> ?_
      go_simp
      refine Calls.mono (H64S.out W7.drew (Cb.b (Cb.gr C7.out ((Gr.refl _).drew)))) ?_
      rintro e V7 ⟨a_s,c_s,rfl,R_s⟩
      obtain⟨T_s,hT_s,hP_s,hB_s⟩:=R_s.out
      have CV1:Aside _:=(C7.out.gr ((Gr.refl _).drew)).more (P:=fun U=>ItP W7.drew.heap.size V7.heap.size (.slice a_s S.stack.length c_s) T_s U) hB_s hP_s (fun _ _ h k=>h.kp k)
      have HT_s:Hid (T_s.map (·.2)=S.stack):=hT_s
      have HS1:Aside (W7.drew.heap.size≤V7.heap.size):=hB_s.size
      have cD:=a0B (a0A CV1.out.c1) (j:=8) (v:=.slice A.w.a S.waits.length A.w.c) rfl
      clear hT_s hP_s hB_s R_s
      refine hK.out _ _ trivial (fun hHeld=> ?_)
      clear hK K
      refine wtk (i:=6) (v:=.pointer (some ⟨b1,7,none⟩)) hHeld ?_ ?_
      ·intro W hW
       clear hW hHeld
       go_simp
      simp only[Act.put,px]
      refine wrd 5 fun K hK=> ?_
      go_simp
      refine Calls.mono (H64W.out V7 CV1.out.b) ?_
      rintro e V8 ⟨a_w,c_w,rfl,R_w⟩
      obtain⟨T_w,hT_w,hP_w,hB_w⟩:=R_w.out
      have CV2:Aside _:=CV1.out.more (P:=fun U=>ItP V7.heap.size V8.heap.size (.slice a_w S.waits.length c_w) T_w U) hB_w hP_w (fun _ _ h k=>h.kp k)
      have HT_w:Hid (T_w.map (·.2)=S.waits):=hT_w
      have HS2:Aside (V7.heap.size≤V8.heap.size):=hB_w.size
      have cE:=a0B (a0A CV2.out.c1) (j:=7) (v:=.slice A.s.a S.stack.length A.s.c) rfl
      have fE:=(a0A CV2.out.c1 7 (by show 7<25;decide)).2
      have CX1:Aside _:=CV2.out.set 7 (.slice a_s S.stack.length c_s)
      have cF:=a0B (a0A CX1.out.c1) (j:=8) (v:=.slice A.w.a S.waits.length A.w.c) rfl
      have fF:=(a0A CX1.out.c1 8 (by show 8<25;decide)).2
      have CX2:Aside _:=CX1.out.set 8 (.slice a_w S.waits.length c_w)
      clear hT_w hP_w hB_w R_w
      refine hK.out _ _ trivial (fun hHeld=> ?_)
      clear hK K
      refine wrd 7 fun K hK=> ?_
      go_simp
      refine hK.out _ _ trivial (fun hHeld=> ?_)
      clear hK K
      refine wrd 8 fun K hK=> ?_
      go_simp
      refine hK.out _ _ trivial (fun hHeld=> ?_)
      clear hK K
      refine wrd 9 fun K hK=> ?_
      go_simp
      refine hK.out _ _ trivial (fun hHeld=> ?_)
      clear hK K
      refine wpAnyH_done (by kernel_rfl) ?_ _
      go_wp2
      go_meet
      case rel=>exact⟨a_s,a_w,c_s,c_w,⟨V7,V8,T_s,T_w,HT_s.out,HT_w.out,HS1.out,HS2.out,by rw[World.size_setCell,World.size_setCell],CX2.out⟩⟩
    ·skip
     go_simp
     refine hK.out _ _ trivial (fun hHeld=> ?_)
     clear hK K
     refine wrd 1 fun K hK=> ?_
     go_simp
     refine hK.out _ _ trivial (fun hHeld=> ?_)
     clear hK K
     refine wrd 2 fun K hK=> ?_
     go_simp
     refine Calls.mono (H64S.out W7.drew (Cb.b (Cb.gr C7.out ((Gr.refl _).drew)))) ?_
     rintro e V7 ⟨a_s,c_s,rfl,R_s⟩
     obtain⟨T_s,hT_s,hP_s,hB_s⟩:=R_s.out
     have CV1:Aside _:=(C7.out.gr ((Gr.refl _).drew)).more (P:=fun U=>ItP W7.drew.heap.size V7.heap.size (.slice a_s S.stack.length c_s) T_s U) hB_s hP_s (fun _ _ h k=>h.kp k)
     have HT_s:Hid (T_s.map (·.2)=S.stack):=hT_s
     have HS1:Aside (W7.drew.heap.size≤V7.heap.size):=hB_s.size
     have cD:=a0B (a0A CV1.out.c1) (j:=8) (v:=.slice A.w.a S.waits.length A.w.c) rfl
     clear hT_s hP_s hB_s R_s
     refine hK.out _ _ trivial (fun hHeld=> ?_)
     clear hK K
     refine wtk (i:=6) (v:=.pointer (some ⟨b1,7,none⟩)) hHeld ?_ ?_
     ·intro W hW
      clear hW hHeld
      go_simp
     simp only[Act.put,px]
     refine wrd 5 fun K hK=> ?_
     go_simp
     refine Calls.mono (H64W.out V7 CV1.out.b) ?_
     rintro e V8 ⟨a_w,c_w,rfl,R_w⟩
     obtain⟨T_w,hT_w,hP_w,hB_w⟩:=R_w.out
     have CV2:Aside _:=CV1.out.more (P:=fun U=>ItP V7.heap.size V8.heap.size (.slice a_w S.waits.length c_w) T_w U) hB_w hP_w (fun _ _ h k=>h.kp k)
     have HT_w:Hid (T_w.map (·.2)=S.waits):=hT_w
     have HS2:Aside (V7.heap.size≤V8.heap.size):=hB_w.size
     have cE:=a0B (a0A CV2.out.c1) (j:=7) (v:=.slice A.s.a S.stack.length A.s.c) rfl
     have fE:=(a0A CV2.out.c1 7 (by show 7<25;decide)).2
     have CX1:Aside _:=CV2.out.set 7 (.slice a_s S.stack.length c_s)
     have cF:=a0B (a0A CX1.out.c1) (j:=8) (v:=.slice A.w.a S.waits.length A.w.c) rfl
     have fF:=(a0A CX1.out.c1 8 (by show 8<25;decide)).2
     have CX2:Aside _:=CX1.out.set 8 (.slice a_w S.waits.length c_w)
     clear hT_w hP_w hB_w R_w
     refine hK.out _ _ trivial (fun hHeld=> ?_)
     clear hK K
     refine wrd 7 fun K hK=> ?_
     go_simp
     refine hK.out _ _ trivial (fun hHeld=> ?_)
     clear hK K
     refine wrd 8 fun K hK=> ?_
     go_simp
     refine hK.out _ _ trivial (fun hHeld=> ?_)
     clear hK K
     refine wrd 9 fun K hK=> ?_
     go_simp
     refine hK.out _ _ trivial (fun hHeld=> ?_)
     clear hK K
     refine wpAnyH_done (by kernel_rfl) ?_ _
     go_wp2
     go_meet
     case rel=>exact⟨a_s,a_w,c_s,c_w,⟨V7,V8,T_s,T_w,HT_s.out,HT_w.out,HS1.out,HS2.out,by rw[World.size_setCell,World.size_setCell],CX2.out⟩⟩
   case rest=>
    obtain⟨a_s,a_w,c_s,c_w,RC⟩:=hcut
    obtain⟨V7,V8,T_s,T_w,hT1,hT2,hs1,hs2,hs3,CC⟩:=RC.out
    have HT_s:Hid (T_s.map (·.2)=S.stack):=hT1
    have HT_w:Hid (T_w.map (·.2)=S.waits):=hT2
    have HS7:Aside (W7.drew.heap.size≤V7.heap.size):=hs1
    have HS8:Aside (V7.heap.size≤V8.heap.size):=hs2
    have HW9:Hid (wc.heap.size=V8.heap.size):=hs3
    have C9:Aside (Cb w b1 b2 ((((((((((stV A S).set 0 (.slice a_p S.pl.length c_p)).set 1 (.slice a_o S.obs.length c_o)).set 2 (.slice a_l S.libs.length c_l)).set 3 (.slice a_h S.hands.length c_h)).set 4 (.slice a_g S.graves.length c_g)).set 5 (.slice a_x S.exiles.length c_x)).set 6 (.slice a_f S.field.length c_f)).set 7 (.slice a_s S.stack.length c_s)).set 8 (.slice a_w S.waits.length c_w)) y31 V8.heap.size (fun U=>(((((((((True)∧Rw W0.heap.size V0.heap.size 66 8 (.slice a_p S.pl.length c_p) S.pl.length (S.pl.flatMap plV) U)∧ObP W1.heap.size V1.heap.size (.slice a_o S.obs.length c_o) T_o U)∧LsP W2.drew.heap.size V2.heap.size (.slice a_l S.libs.length c_l) T_l U)∧LsP V2.heap.size V3.heap.size (.slice a_h S.hands.length c_h) T_h U)∧LsP W4.drew.heap.size V4.heap.size (.slice a_g S.graves.length c_g) T_g U)∧LsP V4.heap.size V5.heap.size (.slice a_x S.exiles.length c_x) T_x U)∧Rw W6.heap.size V6.heap.size 3 1 (.slice a_f S.field.length c_f) S.field.length (S.field.flatMap fun n=>[.int .i64 n]) U)∧ItP W7.drew.heap.size V7.heap.size (.slice a_s S.stack.length c_s) T_s U)∧ItP V7.heap.size V8.heap.size (.slice a_w S.waits.length c_w) T_w U) wc):=CC
    clear hT1 hT2 hs1 hs2 hs3 CC RC C7 cA cB
    generalize wc=W9 at C9 HW9 ⊢
    go_upto_region 7 with fail
    have cc:=a0B (a0A C9.out.c1) (j:=21) (v:=.slice A.t.a S.cast.ts.length A.t.c) rfl
    have hh:=H66.out W9 (by have:=C9.out.b;exact this)
    go_upto_region 8 with((first|go_at_fn 66|go_at_call 66);refine hh.mono ?_;rintro e V9 ⟨a_t,c_t,rfl,R_t⟩;have HS9:Aside (W9.heap.size≤V9.heap.size):=R_t.out.2.size;have CV:Aside _:=C9.out.more (P:=fun U=>Rw W9.heap.size V9.heap.size 45 2 (.slice a_t S.cast.ts.length c_t) S.cast.ts.length (S.cast.ts.flatMap fun p:Int×Int=>[.int .i64 p.1,.int .i64 p.2]) U) R_t.out.2 R_t.out.1 (fun _ _ h k=>h.kp k);have cc2:=a0B (a0A CV.out.c1) (j:=21) (v:=.slice A.t.a S.cast.ts.length A.t.c) rfl;have ff2:=(a0A CV.out.c1 21 (by show 21<25;decide)).2;have C10:Aside _:=CV.out.set 21 (.slice a_t S.cast.ts.length c_t);clear CV)
    clear cc cc2 ff2 hh C9 R_t
    generalize hW10:V9.setCell ⟨b1,21,none⟩ (.slice a_t S.cast.ts.length c_t)=W10 at C10 ⊢
    have hq:W10.heap.size=V9.heap.size:=by rw[←hW10,World.size_setCell]
    have HW10:Hid _:=hq
    clear hq hW10
    have hSV:(((((((((((stV A S).set 0 (.slice a_p S.pl.length c_p)).set 1 (.slice a_o S.obs.length c_o)).set 2 (.slice a_l S.libs.length c_l)).set 3 (.slice a_h S.hands.length c_h)).set 4 (.slice a_g S.graves.length c_g)).set 5 (.slice a_x S.exiles.length c_x)).set 6 (.slice a_f S.field.length c_f)).set 7 (.slice a_s S.stack.length c_s)).set 8 (.slice a_w S.waits.length c_w)).set 21 (.slice a_t S.cast.ts.length c_t))=ovV ({p:=(.slice a_p S.pl.length c_p),o:=(.slice a_o S.obs.length c_o),l:=(.slice a_l S.libs.length c_l),h:=(.slice a_h S.hands.length c_h),g:=(.slice a_g S.graves.length c_g),x:=(.slice a_x S.exiles.length c_x),f:=(.slice a_f S.field.length c_f),s:=(.slice a_s S.stack.length c_s),w:=(.slice a_w S.waits.length c_w),t:=(.slice a_t S.cast.ts.length c_t),pl:=S.pl,To:=T_o,Tl:=T_l,Th:=T_h,Tg:=T_g,Tx:=T_x,fd:=S.field,Ts:=T_s,Tw:=T_w,ts:=S.cast.ts}:Ow) S:=rfl
    have hST:Ow.st ({p:=(.slice a_p S.pl.length c_p),o:=(.slice a_o S.obs.length c_o),l:=(.slice a_l S.libs.length c_l),h:=(.slice a_h S.hands.length c_h),g:=(.slice a_g S.graves.length c_g),x:=(.slice a_x S.exiles.length c_x),f:=(.slice a_f S.field.length c_f),s:=(.slice a_s S.stack.length c_s),w:=(.slice a_w S.waits.length c_w),t:=(.slice a_t S.cast.ts.length c_t),pl:=S.pl,To:=T_o,Tl:=T_l,Th:=T_h,Tg:=T_g,Tx:=T_x,fd:=S.field,Ts:=T_s,Tw:=T_w,ts:=S.cast.ts}:Ow) S=S:=by unfold Ow.st;simp only[HT_o.out,HT_l.out,HT_h.out,HT_g.out,HT_x.out,HT_s.out,HT_w.out]
    have HST:Aside _:=hST
    generalize hO:({p:=(.slice a_p S.pl.length c_p),o:=(.slice a_o S.obs.length c_o),l:=(.slice a_l S.libs.length c_l),h:=(.slice a_h S.hands.length c_h),g:=(.slice a_g S.graves.length c_g),x:=(.slice a_x S.exiles.length c_x),f:=(.slice a_f S.field.length c_f),s:=(.slice a_s S.stack.length c_s),w:=(.slice a_w S.waits.length c_w),t:=(.slice a_t S.cast.ts.length c_t),pl:=S.pl,To:=T_o,Tl:=T_l,Th:=T_h,Tg:=T_g,Tx:=T_x,fd:=S.field,Ts:=T_s,Tw:=T_w,ts:=S.cast.ts}:Ow)=O at hSV HST
    rw[hSV]at C10
    have SFl:(ovV O S).length=k31:=HK1.out.symm
    have SF1: ∀v∈ovV O S,v.oneCell'=true:=by rw[←hSV];intro v hv;simp only[stV,List.set,List.mem_cons,List.not_mem_nil,or_false]at hv;rcases hv with rfl|rfl|rfl|rfl|rfl|rfl|rfl|rfl|rfl|rfl|rfl|rfl|rfl|rfl|rfl|rfl|rfl|rfl|rfl|rfl|rfl|rfl|rfl|rfl|rfl<;>rfl
    clear hSV hST
    generalize hSF:ovV O S=SF at C10 SFl SF1
    have HSF:Hid _:=hSF
    have HO:Hid _:=hO
    clear hSF hO
    have lB:=a0I P (a0A C10.out.c1) SFl
    have sB:=a0P P (a0A C10.out.c2) SF (by rw[SFl,HK1.out];exact HY1.out) SF1
    have b2F:=a0Y C10.out.c2 SF (by rw[SFl,HK1.out];exact HY1.out)
    have lF:=a0I P (a0A b2F) SFl
    have BF:Aside _:=a0l (show w.heap.size≤b2 by have:=C10.out.h1;have:=C10.out.h2;omega) SF 0 C10.out.b
    have QF:=C10.out.k W10 (W10.setCells b2 0 SF) C10.out.q (Kp.sets (.inl (Nat.lt_succ_self b2)) W10 0 SF)
    have NS:Aside (V9.heap.size≤W10.heap.size):=C10.out.hn
    have HQF:Aside _:=QF
    clear b2F C10 SF1 QF
    go_wp2
    refine bodyPost_ret (v:=.agg SF.toArray) (by simp[results,go_sem,Try.results33,a31,z31,lF]) rfl ?_
    have e2:W2.drew.heap.size=V1.heap.size:=HW2.out
    have e4:W4.drew.heap.size=V3.heap.size:=HW4.out
    have e7:W7.drew.heap.size=V6.heap.size:=HW7.out
    refine⟨O,by rw[←HSF.out],HST.out,fun i=>[W0.heap.size,V0.heap.size,V1.heap.size,V2.heap.size,V3.heap.size,V4.heap.size,V5.heap.size,V6.heap.size,V7.heap.size,V8.heap.size,V9.heap.size].getD i V9.heap.size, ?_, ?_, ?_, ?_, ?_⟩
    ·intro i hi
     have s0:=HS0.out;have s1:=HS1.out;have s2:=HS2.out;have s3:=HS3.out;have s4:=HS4.out;have s5:=HS5.out;have s6:=HS6.out;have s7:=HS7.out;have s8:=HS8.out;have s9:=HS9.out
     rw[HW1.out]at s1;rw[e2]at s2;rw[e4]at s4;rw[HW6.out]at s6;rw[e7]at s7;rw[HW9.out]at s9
     obtain rfl|rfl|rfl|rfl|rfl|rfl|rfl|rfl|rfl|rfl:i=0∨i=1∨i=2∨i=3∨i=4∨i=5∨i=6∨i=7∨i=8∨i=9:=by omega
     ·exact s0
     ·exact s1
     ·exact s2
     ·exact s3
     ·exact s4
     ·exact s5
     ·exact s6
     ·exact s7
     ·exact s8
     ·exact s9
    ·show w.heap.size≤W0.heap.size
     have:=HB1.out;have:=HN0.out;omega
    ·rw[a1A];exact NS.out
    ·obtain⟨⟨⟨⟨⟨⟨⟨⟨⟨⟨-,qp⟩,qo⟩,ql⟩,qh⟩,qg⟩,qx⟩,qf⟩,qs⟩,qw⟩,qt⟩:=HQF.out
     rw[HW1.out]at qo;rw[e2]at ql;rw[e4]at qg;rw[HW6.out]at qf;rw[e7]at qs;rw[HW9.out]at qt
     rw[←HO.out]
     exact⟨qp,qo,ql,qh,qg,qx,qf,qs,qw,qt⟩
    ·exact BF.out
end Go.Proofs.Ytcblehiddfnafaa.canonSame
