/-
  Chapter 28: the law CanonNames, walked.
-/
import Derived.Test.YtcblehiddfnafaaTxY
namespace Go.Proofs.Ytcblehiddfnafaa.canonNames
open Go.Shelf Go.RowKit Go.Lib Go.Sort
theorem plc_mem{l:List Int}{n:Int}:plc n l<l.length↔n∈l:=by
 unfold plc
 rw[List.findIdx_lt_length]
 constructor
 ·rintro⟨x,hx,h⟩
  have:x=n:=by simpa using h
  rwa [←this]
 ·intro h
  exact⟨n,h,by simp⟩
theorem nd_snoc{l:List Int}{n:Int}(h:l.Nodup)(hn: ¬plc n l<l.length):(l++ [n]).Nodup:=by
 rw[List.nodup_append]
 refine⟨h,by simp,fun a ha b hb=> ?_⟩
 rw[List.mem_singleton.1 hb]
 rintro rfl
 exact hn (plc_mem.2 ha)
theorem nd_mor(f:Int→Int): ∀(ids l:List Int),l.Nodup→(mor f l ids).Nodup
 | [],l,h=>h
 |n::ids,l,h=>by
  have e:mor f l (n::ids)=mor f (mor f l [n]) ids:=by unfold mor;rfl
  rw[e]
  refine nd_mor f ids _ ?_
  unfold mor
  simp only[List.foldl_cons,List.foldl_nil]
  split
  ·rename_i hc
   exact nd_snoc h hc.2
  ·exact h
theorem nd_ordP(S:Std)(p:Nat)(l:List Int)(h:l.Nodup):(ordP S p l).Nodup:=nd_mor _ _ _ (nd_mor _ _ _ (nd_mor _ _ _ (nd_mor _ _ _ h)))
theorem nd_ord1(S:Std): ∀n,(ord1 S n).Nodup
 |0=>by simp[ord1]
 |n+1=>by
  rw[ord1_succ]
  exact nd_ordP S n _ (nd_ord1 S n)
theorem nd_fold{α:Type}{f:List Int→α→List Int}(hf: ∀l x,l.Nodup→(f l x).Nodup): ∀(xs:List α) (l:List Int),l.Nodup→(xs.foldl f l).Nodup
 | [],_l,h=>h
 |x::xs,l,h=>nd_fold hf xs _ (hf l x h)
theorem nd_ord(S:Std):(ord S).Nodup:=by
 have h2:(ord2 S).Nodup:=nd_mor _ _ _ (nd_ord1 S _)
 have h3:(ord3 S S.stack).Nodup:=nd_fold (fun l x h=>by
  show(if onSt S x.obj then mor S.fi l [x.obj]else l).Nodup
  split
  ·exact nd_mor _ _ _ h
  ·exact h) _ _ h2
 have h4:(ord4 S S.obs).Nodup:=nd_fold (fun l x h=>nd_mor _ _ _ h) _ _ h3
 exact nd_fold (fun l x h=>by
  show(if plc x.id l<l.length then l else l++ [x.id]).Nodup
  split
  ·exact h
  ·rename_i hc
   exact nd_snoc h hc) _ _ h4
theorem plc_own{l:List Int}(h:l.Nodup){i:Nat}(hi:i<l.length):plc l[i] l=i:=by
 have h1:plc l[i] l<l.length:=plc_mem.2 (List.getElem_mem hi)
 have h2:l[plc l[i] l]=l[i]:=by
  have:=List.findIdx_getElem (xs:=l) (p:=(· ==l[i])) (w:=h1)
  exact eq_of_beq this
 exact(List.getElem_inj h).1 h2
theorem nmO_at{l:List Int}(h:l.Nodup){i:Nat}(hi:i<l.length):(nmO l l[i]).getD 0=(i:Int)+1:=by
 unfold nmO
 rw[plc_own h hi,if_pos hi]
 rfl
set_option linter.unusedVariables false in
set_option maxHeartbeats 16000000 in
set_option maxRecDepth 100000 in
theorem names_law{P:Program}{k29 k31 k41 k43 k45 k66 k97:Nat}{y29 y31 y41 y43 y45 y66 y97:List Value}(L:LayS P k29 k31 k41 k43 k45 k66 k97 y29 y31 y41 y43 y45 y66 y97)(hk0: ¬k29=0)(hk1:k31=25)(hy1:y31.length=k31)(f3:P.funcs[3]? =some Try.f3)
  (t34:P.underlying 34=some (.map 3 3)) (a34: ∀w,(isAgg 34).run P w= .ok false w) (z34: ∀w,(Go.sizeOf 34).run P w= .ok 1 w) (v34: ∀w,(zeroValue 34).run P w= .ok (.map none) w)
  (e6: ∀args w,(callFunc 6 args).run P w= .ok (.enter 6 args) w) (e7: ∀args w,(callFunc 7 args).run P w= .ok (.enter 7 args) w) (e8: ∀args w,(callFunc 8 args).run P w= .ok (.enter 8 args) w) (e9: ∀args w,(callFunc 9 args).run P w= .ok (.enter 9 args) w) (e10: ∀args w,(callFunc 10 args).run P w= .ok (.enter 10 args) w) (e11: ∀args w,(callFunc 11 args).run P w= .ok (.enter 11 args) w) (e12: ∀args w,(callFunc 12 args).run P w= .ok (.enter 12 args) w)
  (A:Lcs) (S T T':Std) (w:World) {hh:Nat} (hhh:hh≤w.heap.size) (hTl:(ord T).length≤900)
  (h6: ∀W,Below w.heap.size w W→Calls P 6 #[.agg (stV A S).toArray] W fun e w'=> ∃A',e= .returned (.agg (stV A' T).toArray)∧Aside (StX hh (W.heap.size+1) w' A' T∧Below W.heap.size W w'))
  (h7: ∀A W,StI 0 W.heap.size W A T→Calls P 7 #[.agg (stV A T).toArray] W fun e w'=> ∃a c,e= .returned (.slice a (ord T).length c)∧Aside (IntI W.heap.size w'.heap.size w' a (ord T)∧Below W.heap.size W w'))
  (h8: ∀A W,StI 0 W.heap.size W A T→Calls P 8 #[.agg (stV A T).toArray] W fun e w'=> ∃b,e= .returned (.map (some b))∧Aside (MapF w' b (ord T).length (nmO (ord T))∧Below W.heap.size W w'))
  (h10: ∀A W,StI 0 W.heap.size W A T→Calls P 10 #[.agg (stV A T).toArray] W fun e w'=> ∃A',e= .returned (.agg (stV A' T').toArray)∧Aside (StI 0 w'.heap.size w' A' T'∧Below W.heap.size W w'))
  (h11: ∀A W,StI 0 W.heap.size W A T→Calls P 11 #[.agg (stV A T).toArray] W fun e w'=> ∃A',e= .returned (.agg (stV A' T').toArray)∧Aside (StI 0 w'.heap.size w' A' T'∧Below W.heap.size W w'))
  (h9: ∀A A' W,StI 0 W.heap.size W A T'→StI 0 W.heap.size W A' T'→Calls P 9 #[.agg (stV A T').toArray,.agg (stV A' T').toArray] W fun e w'=>e= .returned (.bool true)∧Aside (Below W.heap.size W w'))
  (h12: ∀W,Calls P 12 #[] W fun e w'=>e= .returned (.bool true)∧Below W.heap.size W w'):
  Calls P 3 #[.agg (stV A S).toArray] w fun e w'=>e= .returned (.bool true)∧Below w.heap.size w w':=by
 have mixed:=L.mixed;have t3:=L.t3;have a3:=L.a3;have z3:=L.z3;have v3:=L.v3;have qu3:=run_underlying L.t3;have t4:=L.t4;have a4:=L.a4;have z4:=L.z4
 have t25:=L.t25;have a25:=L.a25;have z25:=L.z25;have v25:=L.v25;have qu25:=run_underlying L.t25
 have qu31:=run_underlying L.t31;have a31:=L.a31;have z31:=L.z31;have v31:=L.v31
 have qu34:=run_underlying t34
 have H6:Aside _:=h6
 have H7:Aside _:=h7
 have H8:Aside _:=h8
 have H9:Aside _:=h9
 have H10:Aside _:=h10
 have H11:Aside _:=h11
 have H12:Aside _:=h12
 have HK1:Hid (k31=25):=hk1
 have hn1: ¬k31=0:=by omega
 have SLl:(stV A S).length=k31:=hk1.symm
 have g0:Gr w (w.alloc (.cells (stV A S).toArray 31)):=(Gr.refl _).alloc _
 have HB0:Aside (Below w.heap.size w (w.alloc (.cells (stV A S).toArray 31))):=gr_below (.refl _ _) (Nat.le_refl _) g0
 have bx0:=blk_new w (.cells (stV A S).toArray 31)
 have HX0:Aside _:=bx0
 have HS0:Aside ((w.alloc (.cells (stV A S).toArray 31)).heap.size=w.heap.size+1):=World.size_alloc _ _
 have HHH:Aside (hh≤w.heap.size):=hhh
 have lA:=hold_ld P (blk_hold bx0) SLl
 clear h6 h7 h8 h9 h10 h11 h12 hk1 hy1 g0 bx0 hhh
 go_enter f3,Try.ntmps3
 go_upto_region 1 with fail
 generalize w.alloc (.cells (stV A S).toArray 31)=W0 at HB0 HX0 HS0 lA ⊢
 have hc:=H6.out W0 HB0.out
 go_upto_region 2 with(go_at_fn 6;refine hc.mono ?_;rintro e V0 ⟨A1,rfl,R0⟩;have bx1:=(R0.out.2.block _ (blk_lt HX0.out)).trans HX0.out;have sA:=hold_st P (blk_hold bx1) (stV A1 T) rfl (stV_one _ _);have TL1:(stV A1 T).length=k31:=HK1.out.symm;have BX1:Aside _:=blk_put bx1 (stV A1 T) rfl;have ST1:Aside (StI 0 (V0.setCells w.heap.size 0 (stV A1 T)).heap.size (V0.setCells w.heap.size 0 (stV A1 T)) A1 T):=(R0.out.1.kx ⟨by rw[size_sets];exact Nat.le_refl _,fun j hj _=>sets_other (by have:=HS0.out;have:=HHH.out;omega) _ 0⟩).i;have BW1:Aside (Below w.heap.size w (V0.setCells w.heap.size 0 (stV A1 T))):=below_sets (Nat.le_refl _) _ 0 (HB0.out.trans (R0.out.2.mono HB0.out.size));clear bx1 R0)
 clear hc lA sA HB0 HX0 HS0
 generalize V0.setCells w.heap.size 0 (stV A1 T)=W1 at BX1 ST1 BW1 ⊢
 generalize hb1:w.heap.size=b1 at BX1 ⊢
 have HB1:Aside (w.heap.size=b1):=hb1
 clear hb1 SLl
 have SLl:=TL1
 clear TL1
 refine wp_region_held_drew (S:=fun W=>W.heap[b1]? =some (.cells (stV A1 T).toArray 31)) mixed BX1.out (fun hHeld=> ?_)
 refine wpAnyH_take (i:=0) (v:=.agg (stV A1 T).toArray) rfl (by kernel_rfl) (by kernel_rfl) (by kernel_rfl) (fun _ _ _ h=>h) (Or.inl ⟨by rfl, ?_⟩) hHeld ?_
 ·intro W hW
  have lB:=hold_ld P (blk_hold hW) SLl
  clear hW hHeld
  go_simp
 simp only[Act.put,List.getElem_toArray,List.getElem_cons_zero,List.setIfInBounds_toArray,List.set_cons_zero,List.set_cons_succ]
 refine wpAnyH_take (i:=2) (v:=.agg (stV A1 T).toArray) rfl (by kernel_rfl) (by kernel_rfl) (by kernel_rfl) (fun _ _ _ h=>h) (Or.inl ⟨by rfl, ?_⟩) hHeld ?_
 ·intro W hW
  have lB:=hold_ld P (blk_hold hW) SLl
  clear hW hHeld
  go_simp
 simp only[Act.put,List.getElem_toArray,List.getElem_cons_zero,List.getElem_cons_succ,List.setIfInBounds_toArray,List.set_cons_zero,List.set_cons_succ]
 refine wpAnyH_ready (rs:=[1]) (by kernel_rfl) (by simp) ?_
 refine AllReadyH.cons rfl (fun K hK=> ?_) AllReadyH.nil
 go_simp
 refine Calls.mono (H7.out A1 W1.drew (ST1.out.kp (Kp.gr ((Gr.refl _).drew) (Nat.le_refl _)))) ?_
 rintro e V1 ⟨la,lc,rfl,R1⟩
 have hX1:V1.heap[b1]? =some (.cells (stV A1 T).toArray 31):=(R1.out.2.block _ (blk_lt BX1.out)).trans hHeld
 refine hK.out _ _ hX1 (fun hHeld=> ?_)
 clear hK K
 refine wpAnyH_ready (rs:=[3]) (by kernel_rfl) (by simp) ?_
 refine AllReadyH.cons rfl (fun K hK=> ?_) AllReadyH.nil
 go_simp
 refine Calls.mono (H8.out A1 V1 ((ST1.out.kp ((Kp.below R1.out.2 0).mono (Nat.le_refl _) (Nat.le_refl _))).mono (Nat.le_refl _) R1.out.2.size)) ?_
 rintro e V2 ⟨mb,rfl,R2⟩
 have hX2:V2.heap[b1]? =some (.cells (stV A1 T).toArray 31):=(R2.out.2.block _ (blk_lt hX1)).trans hX1
 refine hK.out _ _ hX2 (fun hHeld=> ?_)
 clear hK K
 have BX2:Aside _:=hX2
 have ST2:Aside (StI 0 V2.heap.size V2 A1 T):=(((ST1.out.kp ((Kp.below R1.out.2 0).mono (Nat.le_refl _) (Nat.le_refl _))).mono (Nat.le_refl _) R1.out.2.size).kp ((Kp.below R2.out.2 0).mono (Nat.le_refl _) (Nat.le_refl _))).mono (Nat.le_refl _) R2.out.2.size
 have LI:Aside (IntI W1.drew.heap.size V1.heap.size V2 la (ord T)):=RowsI.kp R1.out.1 ((Kp.below R2.out.2 _).mono (Nat.le_refl _) (Nat.le_refl _))
 have MM:Aside (MapF V2 mb (ord T).length (nmO (ord T))):=R2.out.1
 have BW2:Aside (Below w.heap.size w V2):=((BW1.out.trans ((below_gr ((Gr.refl W1).drew)).mono BW1.out.size)).trans (R1.out.2.mono BW1.out.size)).trans (R2.out.2.mono (Nat.le_trans BW1.out.size R1.out.2.size))
 clear hX1 hX2 R1 R2 BX1 ST1 BW1
 refine wpAnyH_take (i:=4) (v:=.slice la (ord T).length lc) rfl (by kernel_rfl) (by kernel_rfl) (by kernel_rfl) (fun _ _ _ h=>h) (Or.inl ⟨by rfl, ?_⟩) hHeld ?_
 ·intro W hW
  clear hW hHeld
  go_simp
 simp only[Act.put,List.getElem_toArray,List.getElem_cons_zero,List.getElem_cons_succ,List.setIfInBounds_toArray,List.set_cons_zero,List.set_cons_succ]
 refine wpAnyH_ready (rs:=[5]) (by kernel_rfl) (by simp) ?_
 refine AllReadyH.cons rfl (fun K hK=> ?_) AllReadyH.nil
 go_simp
 refine hK.out _ _ hHeld (fun hHeld=> ?_)
 clear hK K
 refine wpAnyH_done (by kernel_rfl) ?_ _
 have hlm:=MM.out.len t34 3
 clear hHeld
 have HND:Aside ((ord T).Nodup):=nd_ord T
 generalize hlst:ord T=lst at hlm hTl LI MM HND ⊢
 clear hlst
 go_wp2
 clear hlm
 go_loopg [5] lst.length (fun kx q wr=> ∃i:Nat,q= .int .i64 i∧i≤lst.length∧lst.length-i≤kx∧wr=V2)
 case atStart=>exact⟨0,rfl,Nat.zero_le _,Nat.le_refl _,rfl⟩
 case round=>
  obtain⟨i,rfl,hi,hkx,hwr⟩:=hrel
  obtain rfl:=hwr.symm
  have wj:IntKind.i64.wrap ((i:Int)+1)=(i:Int)+1:=by rw[IntKind.wrap_i64];omega
  by_cases hlt:i<lst.length
  ·have hltz:(i:Int)<(lst.length:Int):=by omega
   obtain⟨B,O,rfl,_,_,c0⟩:=RowsI.int LI.out hlt
   have hlk:=MM.out.look t34 t3 v3 lst[i]
   rw[nmO_at HND.out hlt]at hlk
   generalize lst[i]=n at c0 hlk
   go_wp2
   go_roundg (lst.length-(i+1))
   case measure=>omega
   case rel=>exact⟨i+1,by first|rfl|go_num,by omega,Nat.le_refl _,rfl⟩
  ·have hltz: ¬(i:Int)<(lst.length:Int):=by omega
   obtain rfl:i=lst.length:=by omega
   clear LI MM HND
   go_upto_region 10 with fail
   refine wp_region_held_drew (S:=fun W=>W.heap[b1]? =some (.cells (stV A1 T).toArray 31)) mixed BX2.out (fun hHeld=> ?_)
   refine wpAnyH_take (i:=0) (v:=.agg (stV A1 T).toArray) rfl (by kernel_rfl) (by kernel_rfl) (by kernel_rfl) (fun _ _ _ h=>h) (Or.inl ⟨by rfl, ?_⟩) hHeld ?_
   ·intro W hW
    have lB:=hold_ld P (blk_hold hW) SLl
    clear hW hHeld
    go_simp
   simp only[Act.put,List.getElem_toArray,List.getElem_cons_zero,List.setIfInBounds_toArray,List.set_cons_zero,List.set_cons_succ]
   refine wpAnyH_take (i:=2) (v:=.agg (stV A1 T).toArray) rfl (by kernel_rfl) (by kernel_rfl) (by kernel_rfl) (fun _ _ _ h=>h) (Or.inl ⟨by rfl, ?_⟩) hHeld ?_
   ·intro W hW
    have lB:=hold_ld P (blk_hold hW) SLl
    clear hW hHeld
    go_simp
   simp only[Act.put,List.getElem_toArray,List.getElem_cons_zero,List.getElem_cons_succ,List.setIfInBounds_toArray,List.set_cons_zero,List.set_cons_succ]
   refine wpAnyH_ready (rs:=[1]) (by kernel_rfl) (by simp) ?_
   refine AllReadyH.cons rfl (fun K hK=> ?_) AllReadyH.nil
   go_simp
   refine Calls.mono (H10.out A1 V2.drew (ST2.out.kp (Kp.gr ((Gr.refl _).drew) (Nat.le_refl _)))) ?_
   rintro e V3 ⟨A2,rfl,R3⟩
   have hX3:V3.heap[b1]? =some (.cells (stV A1 T).toArray 31):=(R3.out.2.block _ (blk_lt BX2.out)).trans hHeld
   have ST3:Aside (StI 0 V3.heap.size V3 A1 T):=(ST2.out.kp ((Kp.below R3.out.2 0).mono (Nat.le_refl _) (Nat.le_refl _))).mono (Nat.le_refl _) R3.out.2.size
   refine hK.out _ _ hX3 (fun hHeld=> ?_)
   clear hK K
   refine wpAnyH_ready (rs:=[3]) (by kernel_rfl) (by simp) ?_
   refine AllReadyH.cons rfl (fun K hK=> ?_) AllReadyH.nil
   go_simp
   refine Calls.mono (H11.out A1 V3 ST3.out) ?_
   rintro e V4 ⟨A3,rfl,R4⟩
   have hX4:V4.heap[b1]? =some (.cells (stV A1 T).toArray 31):=(R4.out.2.block _ (blk_lt hX3)).trans hX3
   have ST4:Aside (StI 0 V4.heap.size V4 A2 T'):=(R3.out.1.kp ((Kp.below R4.out.2 0).mono (Nat.le_refl _) (Nat.le_refl _))).mono (Nat.le_refl _) R4.out.2.size
   refine hK.out _ _ hX4 (fun hHeld=> ?_)
   clear hK K
   refine wpAnyH_ready (rs:=[4]) (by kernel_rfl) (by simp) ?_
   refine AllReadyH.cons rfl (fun K hK=> ?_) AllReadyH.nil
   go_simp
   refine Calls.mono (H9.out A2 A3 V4 ST4.out R4.out.1) ?_
   rintro e V5 ⟨rfl,R5⟩
   have hX5:V5.heap[b1]? =some (.cells (stV A1 T).toArray 31):=(R5.out.block _ (blk_lt hX4)).trans hX4
   refine hK.out _ _ hX5 (fun hHeld=> ?_)
   clear hK K
   refine wpAnyH_take (i:=5) (v:=.bool true) rfl (by kernel_rfl) (by kernel_rfl) (by kernel_rfl) (fun _ _ _ h=>h) (Or.inl ⟨by rfl, ?_⟩) hHeld ?_
   ·intro W hW
    clear hW hHeld
    go_simp
   simp only[Act.put,List.getElem_toArray,List.getElem_cons_zero,List.getElem_cons_succ,List.setIfInBounds_toArray,List.set_cons_zero,List.set_cons_succ]
   refine wpAnyH_ready (rs:=[6]) (by kernel_rfl) (by simp) ?_
   refine AllReadyH.cons rfl (fun K hK=> ?_) AllReadyH.nil
   go_simp
   refine Calls.mono (H12.out V5) ?_
   rintro e V6 ⟨rfl,R6⟩
   have hX6:V6.heap[b1]? =some (.cells (stV A1 T).toArray 31):=(R6.block _ (blk_lt hX5)).trans hX5
   refine hK.out _ _ hX6 (fun hHeld=> ?_)
   clear hK K
   have BF:Aside (Below w.heap.size w V6):=(by
    have b1:=BW2.out
    have b2:=b1.trans ((below_gr ((Gr.refl V2).drew)).mono b1.size)
    have b3:=b2.trans (R3.out.2.mono b2.size)
    have b4:=b3.trans (R4.out.2.mono b3.size)
    have b5:=b4.trans (R5.out.mono b4.size)
    exact b5.trans (R6.mono b5.size))
   clear hX3 hX4 hX5 hX6 R3 R4 R5 R6 ST3 ST4
   refine wpAnyH_take (i:=7) (v:=.bool true) rfl (by kernel_rfl) (by kernel_rfl) (by kernel_rfl) (fun _ _ _ h=>h) (Or.inl ⟨by rfl, ?_⟩) hHeld ?_
   ·intro W hW
    clear hW hHeld
    go_simp
   simp only[Act.put,List.getElem_toArray,List.getElem_cons_zero,List.getElem_cons_succ,List.setIfInBounds_toArray,List.set_cons_zero,List.set_cons_succ]
   refine wpAnyH_ready (rs:=[8]) (by kernel_rfl) (by simp) ?_
   refine AllReadyH.cons rfl (fun K hK=> ?_) AllReadyH.nil
   go_simp
   refine hK.out _ _ hHeld (fun hHeld=> ?_)
   clear hK K
   refine wpAnyH_done (by kernel_rfl) ?_ _
   clear hHeld
   go_wp2
   go_returns
   exact⟨rfl,BF.out⟩
end Go.Proofs.Ytcblehiddfnafaa.canonNames
