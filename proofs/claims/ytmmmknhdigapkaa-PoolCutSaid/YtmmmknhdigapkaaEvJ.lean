/- Engine, part I: append, copy, the other operations that write. -/
import Derived.Test.YtmmmknhdigapkaaEvH
import Derived.Laws.AppendOwn
import Derived.Laws.Externs
namespace Go.Ev
noncomputable section
theorem c3y{w:World}{need cap:Nat}{e:TypeId}{z:Array Value}{size:Nat}(hz:z.size=size):(grownCap w need cap e-need)*size≤(Builtin.zeroCells z (grownCap w need cap e-need)).toList.length:=by rw[Array.length_toList];simp[Builtin.zeroCells,hz]
theorem a6q[Ext]{w0:World}{φ:Phi}{H:VH}{w:World}(h:HSim w0 φ H w):HSim w0 φ H w.drew:=h.heap rfl
theorem b8z[Ext]{P:Program}{w0:World}{φ:Phi}{H:VH}{w:World}(h:HSim w0 φ H w)(hnx:H.next<top){t e:TypeId}{ts:List TypeId}{ty:TypeId}{i:TypeInfo}{z':Value}(hu:P.underlying t=some (.slice e))(hi:P.info? e=some i)(hz:i.zero=some z')(hzs:z'.cells.size=i.size)
  (hp:a2N P ts.head? =true) {base:Option Addr} {len cap n:Nat} {x':Value} (hln:(Builtin.lenOf x').run P w= .ok n w) (hlt:cap<len+n) (hb:(len+n)*i.bytes≤140737488355328) (hsm:len+n<1099511627776)
  {old new:List VV} {old' new':List Value} (ho:(Builtin.firstCells i.size len (.slice base len cap)).run P w.drew= .ok ⟨old'⟩ w.drew) (hn:(Builtin.firstCells i.size n x').run P w.drew= .ok ⟨new'⟩ w.drew) (vo:VRs φ old old') (vn:VRs φ new new')
  {H':VH} (h':HSim w0 φ H' w) (hH:H'.next=H.next) (hB:H'.base=H.base) (ro:Nat) (et:Option TypeId) (het: ∀t,et=some t→e=t):
  b3h w0 φ H w ((do pure (Next.value (←Builtin.append_ ⟨t::ts⟩ ty #[.slice base len cap,x'])):Sem Next).run P w)
   (.val (.slice (some ⟨.loc H.next,0⟩) (len+n) (len+n)) (H'.alloc (.cells (old++new) (some i.size) ro et))):=by
 have hr:=b3L (P:=P) (ty:=ty) hu hi hz hp hln hlt hb hsm ho hn;have hge:=grownCap_ge w (len+n) cap e;have hc:=(a6q h').cells (by rw[hH];exact hnx) (a4T vo vn) e (some i.size) (grownCap w (len+n) cap e-(len+n)) ro et (Builtin.zeroCells z'.cells (grownCap w (len+n) cap e-(len+n))).toList (0,0) (by simp) (by simpa[a7R]using c3y (w:=w) (need:=len+n) (cap:=cap) (e:=e) hzs) (Nat.zero_le _) (fun t ht=>⟨het t ht,fun h=>by cases h⟩);rw[hH]at hc
 have hst:St φ w (φ.ext H.next ⟨w.heap.size,0,grownCap w (len+n) cap e-(len+n)⟩) (w.drew.alloc (.cells ⟨old'++(new'++(Builtin.zeroCells z'.cells (grownCap w (len+n) cap e-(len+n))).toList)⟩ e)):=
  (St.drew (φ:=φ) (w:=w) (w₁:=w.drew) rfl rfl rfl rfl).trans (St.alloc (a6q h) _ _)
 refine⟨.slice (some ⟨w.heap.size,0,none⟩) (len+n) (grownCap w (len+n) cap e),_,_,by simp only[Sem.run_bind,hr,Result.andThen_ok,Sem.run_pure],hst, ?_, ?_,hB⟩
 ·have:=b3F (φ:=φ) (n:=H.next) (b:=w.heap.size) (s:=grownCap w (len+n) cap e-(len+n)) (l:=len+n) (c:=len+n)
  rwa [show len+n+(grownCap w (len+n) cap e-(len+n))=grownCap w (len+n) cap e by omega]at this
 ·rw[←List.append_assoc];exact hc
theorem b9A[Ext]{P:Program}{w0:World}{φ:Phi}{H:VH}{w:World}(h:HSim w0 φ H w)(hnx:H.next<top){t e:TypeId}{ts:List TypeId}{ty:TypeId}{i:TypeInfo}(hu:P.underlying t=some (.slice e))(hi:P.info? e=some i)
  (hp:a2N P ts.head? =true) {b o:Nat} {inf:Inf} (hφ:φ b=some inf) {c:List VV} {ro:Nat} {et et':Option TypeId} (het: ∀t,et'=some t→et=some t) (hg:H.locs.get b=some (.cells c (some i.size) ro et)) {len cap n:Nat} {x':Value} (hln:(Builtin.lenOf x').run P w= .ok n w) (hle:len+n≤cap+inf.slack) (_hgt:cap<len+n)
  (hend:o+cap*i.size=c.length) (hro:ro≤o+len*i.size) {old new:List VV} {new':List Value} (hold:a8T H ⟨.loc b,o⟩ (len*i.size)=some old) (hn:(Builtin.firstCells i.size n x').run P w= .ok ⟨new'⟩ w) (vn:VRs φ new new') (hnl:new.length=n*i.size) (hfl:flat new=true):
  b3h w0 φ H w ((do pure (Next.value (←Builtin.append_ ⟨t::ts⟩ ty #[.slice (some ⟨inf.blk,inf.off+o,none⟩) len (cap+inf.slack),x'])):Sem Next).run P w)
   (.val (.slice (some ⟨.loc H.next,0⟩) (len+n) (len+n)) {H with locs:=(H.locs.del b).put H.next (.cells (old++new) (some i.size) (ro-o) et'),next:=H.next+1}):=by
 obtain⟨inf',o',hφ',hw,⟨cr,e0,fr,rfl,hc⟩,_⟩:=h.live b _ hg;rw[hφ]at hφ';cases hφ';have hsz:=hc.size;simp only[a7R]at hsz;have hnl':new'.length=n*i.size:=by rw[←a0R _ _ vn,hnl]
 have hmul:(len+n)*i.size≤(cap+inf.slack)*i.size:=Nat.mul_le_mul_right _ hle;rw[Nat.add_mul,Nat.add_mul]at hmul;have hcomm:inf.slack*i.size=inf.slack*i.size:=rfl
 obtain⟨w₁,c₁,r1,r2,r3,r4⟩:=a2j (P:=P) (b:=inf.blk) (o:=inf.off+o+len*i.size) (e:=e0) (fr:=fr) new' 0 cr w hw (by omega) (fun j hj=>by
  have:=hc.free (o+len*i.size+j) (by omega) (by simp only[a7R];omega)
  rwa [show inf.off+o+len*i.size+0+j=inf.off+(o+len*i.size+j)by omega]) (b1c _ _ vn hfl)
 have hadd:(⟨inf.blk,inf.off+o,none⟩:Addr).add (len*i.size)=⟨inf.blk,inf.off+o+len*i.size,none⟩:=Addr.add_lit _ _ _;have hr:=a2M (P:=P) (ty:=ty) hu hi hp (base:=some ⟨inf.blk,inf.off+o,none⟩) (len:=len) (cap:=cap+inf.slack) (n:=n) hln hle hn (w₁:=w₁) (by simp only;rw[hadd];exact r1)
 have hold2:old=(c.drop o).take (len*i.size)∧len*i.size≤c.length-o:=by unfold a8T at hold;simp only[hg]at hold;obtain⟨k1,k2⟩:=a6Y _ _ _ hold;rw[a1p]at k1 k2;exact⟨k2,by simpa using k1⟩
 have hol:old.length=len*i.size:=by rw[hold2.1];simp;omega
 refine⟨.slice (some ⟨inf.blk,inf.off+o,none⟩) (len+n) (cap+inf.slack),w₁,φ.ext H.next ⟨inf.blk,inf.off+o,cap+inf.slack-(len+n)⟩,by simp only[Sem.run_bind,hr,Result.andThen_ok,Sem.run_pure], ?_, ?_, ?_,rfl⟩
 ·refine⟨Phi.le_ext _ (h.fresh _ (Nat.le_refl _)),r2.wk,fun k _ hk=>r2.there k (fun e=>hk b inf hφ e.symm),fun j jnf hj=> ?_⟩;simp only[Phi.ext]at hj;split at hj
  ·cases hj;exact .inl ⟨b,inf,hφ,rfl⟩
  ·exact .inl ⟨j,jnf,hj,rfl⟩
 ·simp only[VR];refine⟨⟨inf.blk,inf.off+o,none⟩,cap+inf.slack-(len+n), ?_, ?_⟩
  ·unfold AR;exact⟨_,Phi.ext_self _ _ _,rfl,rfl⟩
  ·rw[show len+n+(cap+inf.slack-(len+n))=cap+inf.slack by omega]
 ·refine h.regrow hg hφ ⟨inf.blk,inf.off+o,cap+inf.slack-(len+n)⟩ rfl r2 ⟨c₁,e0,fr,rfl,⟨?_,by simp, ?_,by have:=hc.low;simp only;omega,fun t ht=>⟨(hc.typ t (het t ht)).1,fun h=>by cases h⟩⟩⟩ hnx
  ·simp only[a7R,List.length_append,hol,hnl,r3];have:(cap+inf.slack-(len+n))*i.size=(cap+inf.slack)*i.size-(len+n)*i.size:=Nat.sub_mul _ _ _;rw[this,Nat.add_mul,Nat.add_mul];omega
  ·intro j x hx;have hle':=Phi.le_ext (φ:=φ) ⟨inf.blk,inf.off+o,cap+inf.slack-(len+n)⟩ (h.fresh H.next (Nat.le_refl _));simp only at*;rw[r4]
   by_cases hj:j<old.length
   ·rw[List.getElem?_append_left hj,hold2.1,List.getElem?_take,if_pos (by omega),List.getElem?_drop]at hx;rw[if_neg (by omega)];obtain⟨y,h1,h2⟩:=hc.cell _ x hx;exact⟨y,by rw[show inf.off+o+j=inf.off+(o+j)by omega];exact h1,h2.mono hle'⟩
   ·rw[List.getElem?_append_right (by omega)]at hx;have hlt:=(List.getElem?_eq_some_iff.1 hx).1;rw[if_pos ⟨by omega,by omega⟩];obtain⟨y,h1,h2⟩:=a2D _ _ vn _ x hx;exact⟨y,by rw[show inf.off+o+j-(inf.off+o+len*i.size+0)=j-old.length by omega];exact h1,h2.mono hle'⟩
theorem b3a[Ext]{P:Program}{w0:World}{φ:Phi}{H:VH}{w:World}(h:HSim w0 φ H w){t:TypeId}{ts:List TypeId}{ty:TypeId}{s x:VV}{s' x':Value}(hs:VR φ s s')(hx:VR φ x x'):
  b3h w0 φ H w ((do pure (Next.value (←Builtin.append_ ⟨t::ts⟩ ty #[s',x'])):Sem Next).run P w) (b5l P H t ts.head? s x):=by
 unfold b5l;cases hu:P.underlying t with
 |none=>trivial
 |some d=>cases d with
  |slice e=>
   simp only;cases hp:a2N P ts.head? with
   |false=>trivial
   |true=>cases hi:P.info? e with
    |none=>trivial
    |some i=>cases hz:a2U P e with
     |none=>trivial
     |some z=>cases hn:a3C x with
      |none=>trivial
      |some n=>
       simp only;have hln:=a5P (P:=P) (w:=w) hx hn;cases s with
       |slice base len cap=>
        simp only[b3h];refine⟨fun hle=> ?_,fun hgt=> ?_⟩
        ·have hle':len+n≤cap:=Nat.le_of_ble_eq_true hle;cases n with
         |zero=>
          have hfc:=a9B (P:=P) (w:=w) hx hn i.size
          have fin: ∀(b':Option Addr) (c':Nat),cap≤c'→VR φ (.slice base len cap) (.slice b' len c')→b3h w0 φ H w ((do pure (Next.value (←Builtin.append_ ⟨t::ts⟩ ty #[.slice b' len c',x'])):Sem Next).run P w) (.val (.slice base len cap) H):=by intro b' c' hc hv;have hr:=a2M (P:=P) (ty:=ty) hu hi hp (base:=b') (len:=len) (cap:=c') (n:=0) hln (by omega) (new:=[]) hfc (w₁:=w) (by cases b'<;>rfl);exact⟨.slice b' len c',w,φ,by simp only[Sem.run_bind,hr,Result.andThen_ok,Sem.run_pure,Nat.add_zero],.refl φ w,hv,h,rfl⟩
          cases base with
          |none=>simp only[VR]at hs;subst hs;exact fin none cap (Nat.le_refl _) (by simp only[VR])
          |some a=>have hs':=hs;simp only[VR]at hs';obtain⟨a',sl,ha,rfl⟩:=hs';exact fin (some a') (cap+sl) (by omega) hs
         |succ n=>
          cases base with
          |none=>trivial
          |some a=>
           simp only;cases hsc:a0e H i.size (n+1) x with
           |none=>trivial
           |some new=>
            simp only;cases hst:b8B H (a.add (len*i.size)) new with
            |none=>trivial
            |some H₁=>simp only[VR]at hs;obtain⟨a',sl,ha,rfl⟩:=hs;obtain⟨new',f1,f2⟩:=a1B (P:=P) h hx hsc;obtain⟨w₁,g1,g2,g3,g4⟩:=b0P (P:=P) h (ha.add (len*i.size)) hst f2;have hr:=a2M (P:=P) (ty:=ty) hu hi hp (base:=some a') (len:=len) (cap:=cap+sl) (n:=n+1) hln (by omega) f1 (w₁:=w₁) g1;obtain⟨bi,binf,bo,hb1,hb2⟩:=g3;exact⟨.slice (some a') (len+(n+1)) (cap+sl),w₁,φ,by simp only[Sem.run_bind,hr,Result.andThen_ok,Sem.run_pure],St.upd hb1 hb2,by simp only[VR];exact⟨a',sl,ha,rfl⟩,g2,g4⟩
        ·intro hb hsm;have hb':(len+n)*i.bytes≤140737488355328:=Nat.le_of_ble_eq_true hb;have hsm':=a0G hsm
         have hgt':cap<len+n:=by
          rcases Nat.lt_or_ge cap (len+n)with h1|h1
          ·exact h1
          ·have:=Nat.ble_eq_true_of_le h1;rw[this]at hgt;cases hgt
         obtain⟨z',hz1,hz2⟩: ∃z',i.zero=some z'∧emb z'=some z:=by
          have hz0:=hz;unfold a2U at hz0;rw[hi]at hz0;simp only at hz0;cases hiz:i.zero with
          |none=>rw[hiz]at hz0;cases hz0
          |some z'=>rw[hiz]at hz0;exact⟨z',rfl,hz0⟩
         have hzl:=a0R _ _ (a3M (a4P z' z hz2) (b0v φ z' z hz2));simp only[Array.length_toList]at hzl;cases hbz:Nat.beq z.cells.length i.size with
         |false=>trivial
         |true=>cases hnx:Nat.blt H.next top with
          |false=>trivial
          |true=>
           have hbz':z'.cells.size=i.size:=by rw[←hzl];exact Nat.eq_of_beq_eq_true hbz
           have hnx':=a0G hnx;simp only;cases hso:a0e H i.size len (.slice base len cap)with
           |none=>trivial
           |some old=>cases hsn:a0e H i.size n x with
            |none=>trivial
            |some new=>
             simp only;obtain⟨old',o1,o2⟩:=a1B (P:=P) (a6q h) hs hso;obtain⟨new',n1,n2⟩:=a1B (P:=P) (a6q h) hx hsn;have hln':(Builtin.lenOf x').run P w= .ok n w:=hln
             have re: ∀(b':Option Addr) (c':Nat) (H':VH) (ro:Nat) (et:Option TypeId),(∀t,et=some t→e=t)→s'= .slice b' len c'→c'<len+n→HSim w0 φ H' w→H'.next=H.next→H'.base=H.base→
               (Builtin.firstCells i.size len (.slice b' len c')).run P w.drew= .ok ⟨old'⟩ w.drew→
               b3h w0 φ H w ((do pure (Next.value (←Builtin.append_ ⟨t::ts⟩ ty #[s',x'])):Sem Next).run P w) (.val (.slice (some ⟨.loc H.next,0⟩) (len+n) (len+n)) (H'.alloc (.cells (old++new) (some i.size) ro et))):=by
              intro b' c' H' ro et het hs1 hc1 hH' hN hB ho;subst hs1;exact b8z h hnx' hu hi hz1 hbz' hp hln hc1 hb' hsm' ho n1 o2 n2 hH' hN hB ro et het
             cases base with
             |none=>simp only[VR]at hs;exact re none cap H 0 (some e) (fun _ h=>by cases h;rfl) hs hgt' h rfl rfl (by rw[hs]at o1;exact o1)
             |some a=>
              have hs0:=hs;simp only[VR]at hs0;obtain⟨a',sl,ha,hs1⟩:=hs0;obtain⟨ab,ao⟩:=a;rw[hs1]at o1;simp only;cases ab with
              |base r=>
               have hsl:sl=0:=by unfold AR at ha;exact ha.2
               subst hsl;exact re (some a') cap H 0 (some e) (fun _ h=>by cases h;rfl) hs1 hgt' h rfl rfl o1
              |sym r=>trivial
              |loc b=>
               simp only;cases hg:H.locs.get b with
               |none=>trivial
               |some ob=>cases ob with
                |cells c g ro et=>cases g with
                 |none=>have hsl:sl=0:=a4h h ha (by simp[a7a,hg]);subst hsl;exact re (some a') cap H 0 (some e) (fun _ h=>by cases h;rfl) hs1 hgt' h rfl rfl o1
                 |some sz=>
                  simp only;cases hq1:Nat.beq sz i.size with
                  |false=>trivial
                  |true=>cases hq2:Nat.beq (ao+cap*i.size) c.length with
                   |false=>trivial
                   |true=>cases hq3:Nat.ble ro (ao+len*i.size)with
                    |false=>trivial
                    |true=>cases hq4:flat new with
                     |false=>trivial
                     |true=>
                      have hsz:sz=i.size:=Nat.eq_of_beq_eq_true hq1;subst hsz;unfold AR at ha;simp only at ha;obtain⟨inf,hφ,rfl,rfl⟩:=ha
                      by_cases hin:len+n≤cap+inf.slack
                      ·rw[hs1];obtain⟨new2,m1,m2⟩:=a1B (P:=P) h hx hsn;exact b9A h hnx' hu hi hp hφ (fun t ht=>(a3p ht).2) hg hln hin hgt' (Nat.eq_of_beq_eq_true hq2) (Nat.le_of_ble_eq_true hq3) (by simpa[a0e]using hso) m1 m2 (a5Q h hx hn hsn) hq4
                      ·have hlt2:b<top:=Nat.lt_trans (h.lt hφ) hnx';exact re (some ⟨inf.blk,inf.off+ao,none⟩) (cap+inf.slack) {H with locs:=H.locs.del b} (ro-ao) (a4w et e) (fun t ht=>(a3p ht).1.symm) hs1 (by omega) (h.del hlt2) rfl rfl o1
                |_=>trivial
       |sliceE=>
        simp only[VR]at hs;obtain⟨a',c,rfl⟩:=hs;cases n with
        |succ n=>trivial
        |zero=>have hfc:=a9B (P:=P) (w:=w) hx hn i.size;have hr:=a2M (P:=P) (ty:=ty) hu hi hp (base:=some a') (len:=0) (cap:=c) (n:=0) hln (by omega) (new:=[]) hfc (w₁:=w) rfl;exact⟨.slice (some a') 0 c,w,φ,by simp only[Sem.run_bind,hr,Result.andThen_ok,Sem.run_pure,Nat.add_zero],.refl φ w,by simp only[VR];exact⟨_,_,rfl⟩,h,rfl⟩
       |_=>trivial
  |_=>trivial
theorem b6Z{α:Type}: ∀(l:List α),takeN l.length l=some l
 | []=>rfl
 |x::l=>by show takeN (l.length+1) (x::l)=_;simp only[takeN,b6Z l]
theorem HSim.see[Ext]{w0:World}{φ:Phi}{K H:VH}{w:World}(h:HSim w0 φ K w){q:Nat}{o o₁:VO}(hq:K.locs.get q=some o)(hb:H.base=K.base)(hn:H.next=K.next)(hl: ∀i x,H.locs.get i=some x→i≠q→K.locs.get i=some x)(ho:H.locs.get q=some o₁)
  (hor: ∀inf o',φ q=some inf→OR φ inf o o'→OR φ inf o₁ o'):HSim w0 φ H w:=by
 have was: ∀i x,H.locs.get i=some x→ ∃y,K.locs.get i=some y:=fun i x hx=>by
  by_cases e:i=q
  ·subst e;exact⟨_,hq⟩
  ·exact⟨_,hl i x hx e⟩
 refine⟨by rw[hb];exact h.env,by rw[hb];exact h.base,h.old,h.own,by rw[hn];exact h.small,fun i x hx=> ?_,fun i j oi oj inf jnf h1 h2 h3 h4 h5=> ?_,by rw[hn];exact h.fresh,h.bound⟩
 ·by_cases e:i=q
  ·subst e;rw[ho]at hx;cases hx;obtain⟨inf,o',k1,k2,k3,k4⟩:=h.live i o hq;exact⟨inf,o',k1,k2,hor inf o' k1 k3,by rw[hb];exact k4⟩
  ·obtain⟨inf,o',k1,k2,k3,k4⟩:=h.live i x (hl i x hx e);exact⟨inf,o',k1,k2,k3,by rw[hb];exact k4⟩
 ·obtain⟨y,hy⟩:=was i oi h1;obtain⟨z,hz⟩:=was j oj h2;exact h.inj i j y z inf jnf hy hz h3 h4 h5
def b2r(P:Program)(H:VH)(t:TypeId)(xt:Option TypeId)(b n m:Nat)(x:VV):Out:=
 match P.underlying t with
 |some (.slice e)=>match a2N P xt,P.info? e,a2U P e,a3C x with
  |true,some i,some z,some (k+1)=>match H.locs.get b with
   |some (.list j n' sz tail et)=>match Nat.beq n n',Nat.beq sz i.size,Nat.beq tail.length (m*i.size),Nat.beq z.cells.length i.size,Nat.blt H.next top with
    |true,true,true,true,true=>match a0e H i.size (k+1) x with
     |some new=>match flat new,decide (((H.base.ivl n).2+((m+(k+1):Nat):Int))*(i.bytes:Int)≤140737488355328),decide ((H.base.ivl n).2+((m+(k+1):Nat):Int)<1099511627776)with
      |true,true,true=>.val (.lsl H.next n (m+(k+1))) {H with locs:=(H.locs.del b).put H.next (.list j n sz (tail++new) (a4w et e)),next:=H.next+1}|_,_,_=>.bad
     |none=>.bad
    |_,_,_,_,_=>.bad
   |_=>.bad
  |true,some _,some _,some 0=>.val (.lsl b n m) H|_,_,_,_=>.bad
 |_=>.bad
theorem b2q[Ext]{P:Program}{w0:World}{φ:Phi}{H:VH}{w:World}(h:HSim w0 φ H w){t:TypeId}{ts:List TypeId}{ty:TypeId}{b n m:Nat}{x:VV}{s' x':Value}(hs:VR φ (.lsl b n m) s')(hx:VR φ x x'):
  b3h w0 φ H w ((do pure (Next.value (←Builtin.append_ ⟨t::ts⟩ ty #[s',x'])):Sem Next).run P w) (b2r P H t ts.head? b n m x):=by
 unfold b2r;split
 ·rename_i e hu;split
  ·rename_i i z k hp hi hz hn;split
   ·rename_i j n' sz tail et hg;split
    ·rename_i g1 g2 g3 g4 g5;split
     ·rename_i new hsn;split
      ·rename_i g6 g7 g8;have g1:=Nat.eq_of_beq_eq_true g1;have g2:=Nat.eq_of_beq_eq_true g2;have g3:=Nat.eq_of_beq_eq_true g3;have g4:=Nat.eq_of_beq_eq_true g4;have hnx:=a0G g5;have g7:=of_decide_eq_true g7;have g8:=of_decide_eq_true g8;subst g1 g2;simp only[VR]at hs;obtain⟨inf,hφ,rfl⟩:=hs;obtain⟨inf',o',hφ',hw,⟨q0,q1,c',e0,fr,rfl,hc⟩,q4⟩:=h.live b _ hg;rw[hφ]at hφ';cases hφ';have hi2:=(h.env.ivl n).2;have hblt:b<top:=Nat.lt_trans (h.lt hφ) hnx;have hbn:b≠H.next:=Nat.ne_of_lt (h.lt hφ);generalize hL:(φ.ρ.int n).toNat+m=L;have hll:(φ.ρ.lst j++tail).length=L*i.size:=by rw[List.length_append,q1,g3,←hL,Nat.add_mul]
       have hS:HSim w0 φ {H with locs:=H.locs.put b (.cells (φ.ρ.lst j++tail) (some i.size) 0 et)} w:=h.put hg hφ ⟨rfl,rfl,rfl,rfl,hw,fun _ _=>rfl⟩ ⟨c',e0,fr,rfl,hc⟩;have hgS:(H.locs.put b (.cells (φ.ρ.lst j++tail) (some i.size) 0 et)).get b=some (.cells (φ.ρ.lst j++tail) (some i.size) 0 et):=TT.get_put_same _ _ _ hblt
       have hold:a8T {H with locs:=H.locs.put b (.cells (φ.ρ.lst j++tail) (some i.size) 0 et)} ⟨.loc b,0⟩ (L*i.size)=some (φ.ρ.lst j++tail):=by unfold a8T;simp only[hgS];rw[←hll];exact b6Z _
       have hln:=a5P (P:=P) (w:=w) hx hn
       obtain⟨z',hz1,hz2⟩: ∃z',i.zero=some z'∧emb z'=some z:=by
        have hz0:=hz;unfold a2U at hz0;rw[hi]at hz0;simp only at hz0;cases hiz:i.zero with
        |none=>rw[hiz]at hz0;cases hz0
        |some z'=>rw[hiz]at hz0;exact⟨z',rfl,hz0⟩
       have hzl:=a0R _ _ (a3M (a4P z' z hz2) (b0v φ z' z hz2));simp only[Array.length_toList]at hzl;have hzs:z'.cells.size=i.size:=by rw[←hzl];exact g4
       obtain⟨new2,m1,m2⟩:=a1B (P:=P) h hx hsn
       have back: ∀(X:Out) (v:VV) (K:VH),X= .val v K→v= .slice (some ⟨.loc H.next,0⟩) (L+(k+1)) (L+(k+1))→K.base=H.base→K.next=H.next+1→K.locs.get H.next=some (.cells ((φ.ρ.lst j++tail)++new) (some i.size) 0 (a4w et e))→
         (∀q y,((H.locs.del b).put H.next (.list j n i.size (tail++new) (a4w et e))).get q=some y→q≠H.next→K.locs.get q=some y)→
         b3h w0 φ {H with locs:=H.locs.put b (.cells (φ.ρ.lst j++tail) (some i.size) 0 et)} w ((do pure (Next.value (←Builtin.append_ ⟨t::ts⟩ ty #[.slice (some ⟨inf.blk,inf.off,none⟩) L (L+inf.slack),x'])):Sem Next).run P w) X→
         b3h w0 φ H w ((do pure (Next.value (←Builtin.append_ ⟨t::ts⟩ ty #[.slice (some ⟨inf.blk,inf.off,none⟩) L (L+inf.slack),x'])):Sem Next).run P w) (.val (.lsl H.next n (m+(k+1))) {H with locs:=(H.locs.del b).put H.next (.list j n i.size (tail++new) (a4w et e)),next:=H.next+1}):=by
        rintro X v K rfl rfl hKb hKn hKq hKl ⟨v',w₁,φ₁,r1,r2,r3,r4,r5⟩;have hρ:φ₁.ρ=φ.ρ:=r2.le.2;refine⟨v',w₁,φ₁,r1,r2, ?_, ?_,rfl⟩
        ·simp only[VR]at r3 ⊢;obtain⟨a',sl,ha,rfl⟩:=r3;simp only[AR]at ha;obtain⟨jnf,ja,rfl,rfl⟩:=ha;refine⟨jnf,ja, ?_⟩;rw[hρ,show(φ.ρ.int n).toNat+(m+(k+1))=L+(k+1)by omega];rfl
        ·refine r4.see hKq hKb.symm hKn.symm hKl (TT.get_put_same _ _ _ hnx) fun jnf o'' _ ho=> ?_;obtain⟨d',e1,fr1,rfl,hc1⟩:=ho;refine⟨by rw[hρ];exact q0,by rw[hρ];exact q1,d',e1,fr1,rfl, ?_⟩;rw[hρ,←List.append_assoc];exact hc1
       have hget: ∀(T:TT VO),(∀q y,q≠b→T.get q=some y→(H.locs.put b (.cells (φ.ρ.lst j++tail) (some i.size) 0 et)).get q=some y)→True:=fun _ _=>trivial
       have hother: ∀q y,((H.locs.del b).put H.next (.list j n i.size (tail++new) (a4w et e))).get q=some y→q≠H.next→q≠b∧H.locs.get q=some y:=by
        intro q y hy hq;rw[TT.get_put_other _ _ _ _ hq]at hy
        by_cases e:q=b
        ·subst e;rw[TT.get_del_same _ _ hblt]at hy;cases hy
        ·exact⟨e,by rwa [TT.get_del_other _ _ _ e]at hy⟩
       by_cases hin:L+(k+1)≤L+inf.slack
       ·refine back _ _ {H with locs:=((H.locs.put b (.cells (φ.ρ.lst j++tail) (some i.size) 0 et)).del b).put H.next (.cells ((φ.ρ.lst j++tail)++new) (some i.size) 0 (a4w et e)),next:=H.next+1} rfl rfl rfl rfl (TT.get_put_same _ _ _ hnx) (fun q y hy hq=> ?_) (b9A hS hnx hu hi hp (b:=b) (o:=0) hφ (fun t ht=>(a3p ht).2) hgS (len:=L) (cap:=L) (n:=k+1) hln hin (by omega) (by rw[Nat.zero_add];exact hll.symm) (Nat.zero_le _) hold m1 m2 (a5Q h hx hn hsn) g6);obtain⟨h1,h2⟩:=hother q y hy hq;rw[TT.get_put_other _ _ _ _ hq,TT.get_del_other _ _ _ h1,TT.get_put_other _ _ _ _ h1];exact h2
       ·have hb:(L+(k+1))*i.bytes≤140737488355328:=by
         have e1:((L+(k+1):Nat):Int)≤(H.base.ivl n).2+((m+(k+1):Nat):Int):=by omega
         have e2:((L+(k+1):Nat):Int)*(i.bytes:Int)≤((H.base.ivl n).2+((m+(k+1):Nat):Int))*(i.bytes:Int):=Int.mul_le_mul_of_nonneg_right e1 (Int.natCast_nonneg _);have e3:(((L+(k+1))*i.bytes:Nat):Int)≤140737488355328:=by rw[Int.natCast_mul];omega
         omega
        have hsm:L+(k+1)<1099511627776:=by omega
        have hof:(Builtin.firstCells i.size L (.slice (some ⟨inf.blk,inf.off,none⟩) L (L+inf.slack))).run P w.drew= .ok ⟨(c'.toList.drop inf.off).take (L*i.size)⟩ w.drew∧VRs φ (φ.ρ.lst j++tail) ((c'.toList.drop inf.off).take (L*i.size)):=by
         obtain⟨vs,f1,f2⟩:=a1B (P:=P) (a6q hS) (x:=.slice (some ⟨.loc b,0⟩) L L) (x':=.slice (some ⟨inf.blk,inf.off,none⟩) L (L+inf.slack)) (by simp only[VR];exact⟨_,inf.slack,⟨inf,hφ,rfl,rfl⟩,rfl⟩) (size:=i.size) (n:=L) (l:=φ.ρ.lst j++tail) hold;have hsz:=hc.size;rw[hll]at hsz
         have e1:vs=(c'.toList.drop inf.off).take (L*i.size):=by
          have h2:(Builtin.firstCells i.size L (.slice (some ⟨inf.blk,inf.off,none⟩) L (L+inf.slack))).run P w.drew= .ok ⟨(c'.toList.drop inf.off).take (L*i.size)⟩ w.drew:=by
           have hrun:=run_loadCells_list (P:=P) w.drew ⟨inf.blk,inf.off,none⟩ ((c'.toList.drop inf.off).take (L*i.size)) (fun q v hv=>by
            rw[List.getElem?_take]at hv;split at hv
            ·rw[List.getElem?_drop,Array.getElem?_toList]at hv;rw[Addr.add_lit];have:w.drew.heap[inf.blk]? =some (.cells c' e0 fr):=hw;rw[cell?_at this];exact hv
            ·cases hv)
           have hlen:((c'.toList.drop inf.off).take (L*i.size)).length=L*i.size:=by simp;omega
           rw[hlen]at hrun;exact hrun
          rw[f1]at h2;simpa using h2
         rw[←e1];exact⟨f1,f2⟩
        obtain⟨n1,n2,n3⟩:=a1B (P:=P) (a6q h) hx hsn;refine back _ _ (VH.alloc {H with locs:=H.locs.del b} (.cells ((φ.ρ.lst j++tail)++new) (some i.size) 0 (a4w et e))) rfl rfl ?_ ?_ ?_ (fun q y hy hq=> ?_) (b8z hS hnx hu hi hz1 hzs hp hln (base:=some ⟨inf.blk,inf.off,none⟩) (len:=L) (cap:=L+inf.slack) (n:=k+1) (by omega) hb hsm hof.1 n2 hof.2 n3 (H':={H with locs:=H.locs.del b}) (h.del hblt) rfl rfl 0 (a4w et e) (fun t ht=>(a3p ht).1.symm))
        ·rfl
        ·rfl
        ·exact TT.get_put_same _ _ _ hnx
        ·obtain⟨h1,h2⟩:=hother q y hy hq;show((H.locs.del b).put H.next _).get q=some y;rw[TT.get_put_other _ _ _ _ hq,TT.get_del_other _ _ _ h1];exact h2
      ·trivial
     ·trivial
    ·trivial
   ·trivial
  ·rename_i i z hp hi hz hn;have hln:=a5P (P:=P) (w:=w) hx hn;have hfc:=a9B (P:=P) (w:=w) hx hn i.size;have hs':=hs;simp only[VR]at hs';obtain⟨inf,hφ,rfl⟩:=hs';have hr:=a2M (P:=P) (ty:=ty) hu hi hp (base:=some ⟨inf.blk,inf.off,none⟩) (len:=(φ.ρ.int n).toNat+m) (cap:=(φ.ρ.int n).toNat+m+inf.slack) (n:=0) hln (by omega) (new:=[]) hfc (w₁:=w) rfl;exact⟨_,w,φ,by simp only[Sem.run_bind,hr,Result.andThen_ok,Sem.run_pure,Nat.add_zero],.refl φ w,hs,h,rfl⟩
  ·trivial
 ·trivial
def c6p:List VV→Option (List UInt8)
 | []=>some []
 |.int .u8 (.ofNat n)::l=>match Nat.blt n 256,c6p l with
  |true,some r=>some (UInt8.ofNat n::r)|_,_=>none
 |_::_=>none
theorem c2M: ∀{l:List VV} {bs:List UInt8},c6p l=some bs→l=bs.map fun b=>VV.int .u8 b.toNat
 | [],bs,h=>by simp only[c6p,Option.some.injEq]at h;subst h;rfl
 |x::l,bs,h=>by
  unfold c6p at h;split at h
  ·rename_i heq;cases heq
  ·rename_i n l' heq;simp only[List.cons.injEq]at heq;obtain⟨rfl,rfl⟩:=heq;split at h
   ·rename_i r h1 h2;simp only[Option.some.injEq]at h;subst h;have hn:n<256:=a0G h1;rw[List.map_cons,←c2M h2]
    congr 2
    show Int.ofNat n=((UInt8.ofNat n).toNat:Int);rw[UInt8.toNat_ofNat'];rw[Nat.mod_eq_of_lt hn];rfl
   ·cases h
  ·cases h
theorem c8I(φ:Phi):VR φ (.tuple []) (.tuple #[]):=by simp only[VR];exact⟨[],by simp[VRs],rfl⟩
def a6U(P:Program):Prop:= ∀(g:FuncId) (fn:Func),P.funcs[g]? =some fn→(fn.name== "runtime.NumGoroutine")=false
def d0H(H:VH)(fn:Func)(args:List VV):Out:=
 match fn.name== "internal/abi.NoEscape",fn.origin== "",args with
 |true,true,[v]=>.val v H|_,_,_=>.bad
def a7f(P:Program)(H:VH)(g:FuncId)(args:List VV):Out:=
 match P.funcs[g]? with
 |some fn=>match fn.body with
  |some _=>.enter g args|none=>d0H H fn args
 |none=>.bad
theorem b5T{fn:Func}(hn:fn.name= "internal/abi.NoEscape") (ho:fn.origin= ""):Extern.findNext fn=none∧Extern.find fn=some Extern.AbiNoEscape.same:=by
 have h1:Extern.allNextRows.lookup "internal/abi.NoEscape" =none:=by kernel_rfl
 have h2:Extern.allNextRows.lookup "" =none:=by kernel_rfl
 have h3:Extern.allGenericRows.lookup "internal/abi.NoEscape" =none:=by kernel_rfl
 have h4:Extern.allTypedRows.lookup "internal/abi.NoEscape" =none:=by kernel_rfl
 have h5:Extern.allRows.lookup "internal/abi.NoEscape" =some Extern.AbiNoEscape.same:=by kernel_rfl
 constructor
 ·simp only[Extern.findNext,hn,ho,h1,h2];rfl
 ·simp only[Extern.find,hn,h3,h4,h5];rfl
theorem c0z[Ext]{P:Program}(hng:a6U P){w0:World}{φ:Phi}{H:VH}{w:World}(hs:HSim w0 φ H w){g:FuncId}{fn:Func}(hf:P.funcs[g]? =some fn)(hb:fn.body=none){args:List VV}{args':List Value}(ha:VRs φ args args'):
  b3h w0 φ H w ((callFunc g ⟨args'⟩).run P w) (d0H H fn args):=by
 unfold d0H;split
 ·rename_i v h1 h2;obtain⟨e1,e2⟩:=b5T (eq_of_beq h1) (eq_of_beq h2);simp only[VRs]at ha;obtain⟨v',l,rfl,hv,rfl⟩:=ha;rw[run_callFunc_extern hf (hng g fn hf) (by simp[hb]) e1 e2];exact⟨v',w,φ,rfl,.refl φ w,hv,hs,rfl⟩
 ·trivial
theorem a4m[Ext]{P:Program}(hng:a6U P){w0:World}{φ:Phi}{H:VH}{w:World}(hs:HSim w0 φ H w){g:FuncId}{args:List VV}{args':List Value}(ha:VRs φ args args'):
  b3h w0 φ H w ((callFunc g ⟨args'⟩).run P w) (a7f P H g args):=by
 unfold a7f;cases hf:P.funcs[g]? with
 |none=>trivial
 |some fn=>
  simp only;cases hb:fn.body with
  |none=>exact c0z hng hs hf hb ha
  |some c=>
   simp only;refine⟨args', ?_,ha⟩;have hn:=hng g fn hf;simp only[callFunc,Sem.run_bind,run_program,Result.andThen_ok,hf,hn,hb]
   simp
def c7b(P:Program)(H:VH)(f:VV)(args:List VV):Out:=
 match f with
 |.func (.func g) first cap=>a7f P H g (first++(args++cap))
 |.yield i=>match H.locs.get i with
  |some (.loop _ _ _ _ params _ _)=>match Nat.beq args.length params.length with
   |true=>.round i args|false=>.bad
  |_=>.bad
 |_=>.bad
def b1X(P:Program)(t:TypeId)(name:String):Option FuncId:=match P.info? t with
 |some i=>match i.methods.find? (·.name==name)with
  |some m=>match m.path.toList,m.func,P.underlying t with
   | [],some (f,true),some (.pointer _)=>some f
   | [],some (f,false),some d=>match d with
    |.pointer _=>none|_=>some f
   |_,_,_=>none
  |none=>none
 |none=>none
theorem b3V{P:Program}{t:TypeId}{name:String}{f:FuncId}(h:b1X P t name=some f)(v:Value)(args:Array Value)(w:World):(callMethod (.iface t v) name args).run P w=(callFunc f (#[v]++args)).run P w:=by
 unfold b1X at h;split at h
 ·rename_i i hi;split at h
  ·rename_i m hm;have hd:P.types.size+Made.depth=(P.types.size+(Made.depth-1))+1:=rfl;have hti:(typeInfo t).run P w= .ok i w:=by simp[typeInfo,hi]
   have hmm: ∀r:Value,(do let (xt,x)←follow m.path.toList t (.val v);receiverAt xt x (match m.func with|some (_,b)=>b|none=>false) (if m.path.isEmpty then some ((name.splitOn ".").getLastD name)else none):Sem Value).run P w= .ok r w→(∃b,m.func=some (f,b))→(method (P.types.size+Made.depth) t v name).run P w= .ok (f,r) w:=by
    intro r hr ⟨b,hb⟩;rw[hd];simp only[method,Sem.run_bind,hti,Result.andThen_ok,hm];simp only[Sem.run_bind,hb]at hr ⊢;cases hf:(follow m.path.toList t (.val v)).run P w with
    |ok xx w'=>rw[hf]at hr;simp only[Result.andThen_ok]at hr ⊢;rw[hr];rfl
    |halt hh w'=>rw[hf]at hr;cases hr
   split at h
   ·rename_i f' e hp hfn hu;cases h;have:=hmm v (by simp[hp,hfn,follow,receiverAt,run_underlying hu,Place.get]) ⟨true,hfn⟩;simp only[callMethod,Sem.run_bind,run_program,Result.andThen_ok,this]
   ·rename_i f' d hp hfn hu;split at h
    ·cases h
    ·rename_i hnp;cases h
     have:=hmm v (by
      simp only[hp,hfn,follow,receiverAt,Sem.run_bind,Sem.run_pure,Result.andThen_ok,run_underlying hu]
      cases d<;>first|exact absurd rfl (hnp _)|rfl) ⟨false,hfn⟩
     simp only[callMethod,Sem.run_bind,run_program,Result.andThen_ok,this]
   ·cases h
  ·cases h
 ·cases h
theorem HSim.sub[Ext]{w0:World}{φ:Phi}{K H:VH}{w:World}(h:HSim w0 φ K w)(hb:H.base=K.base)(hn:H.next=K.next)(hl: ∀i x,H.locs.get i=some x→K.locs.get i=some x):HSim w0 φ H w:=
 ⟨by rw[hb];exact h.env,by rw[hb];exact h.base,h.old,h.own,by rw[hn];exact h.small,fun i x hx=>by rw[hb];exact h.live i x (hl i x hx),fun i j oi oj inf jnf h1 h2 h3 h4 h5=>h.inj i j oi oj inf jnf (hl _ _ h1) (hl _ _ h2) h3 h4 h5,by rw[hn];exact h.fresh,h.bound⟩
def c3C(b:Nat):List (VV×VV×Nat)→Option (VV×VV)
 | []=>none
 |e::l=>match Nat.beq e.2.2 b with
  |true=>some (e.1,e.2.1)|false=>c3C b l
def d3k:List Nat→Option Nat
 | []=>none
 |x::l=>match l with
  | []=>some x|y::l=>d3k (y::l)
theorem c2Q: ∀(l:List Nat),d3k l=l.getLast?
 | []=>rfl
 | [x]=>rfl
 |x::y::l=>by rw[List.getLast?_cons_cons];exact c2Q (y::l)
theorem b0i{φ:Phi}{b:Nat}{k v:VV}: ∀(xs:List (VV×VV×Nat)) (es:List MapEntry),ERs φ xs es→c3C b xs=some (k,v)→ ∃e,es.find? (·.born==b)=some e∧VR φ k e.key∧VR φ v e.val
 | [],_,_,h=>by cases h
 |x::xs,es,hr,h=>by
  obtain⟨z,zs,rfl,k1,k2,k3,k4⟩:=hr;simp only[c3C]at h;rw[k3]at h;cases hb:Nat.beq z.born b with
  |true=>rw[hb]at h;simp only[Option.some.injEq,Prod.mk.injEq]at h;obtain⟨rfl,rfl⟩:=h;refine⟨z, ?_,k1,k2⟩;rw[List.find?_cons,show(z.born==b)=true from beq_iff_eq.2 (Nat.eq_of_beq_eq_true hb)]
  |false=>rw[hb]at h;obtain⟨e,e1,e2⟩:=b0i xs zs k4 h;refine⟨e, ?_,e2⟩;rw[List.find?_cons,show(z.born==b)=false from beq_eq_false_iff_ne.2 (Nat.ne_of_beq_eq_false hb)];exact e1
def c1A(H:VH)(p:VV):Out:=match p with
 |.ptr (some ⟨.loc j,0⟩)=>match H.locs.get j with
  |some (.miter i _ seen last)=>match H.locs.get i,d3k seen with
   |some (.map es c),some b=>match Nat.beq c last,c3C b es with
    |true,some (k,v)=>.val (.tuple [k,v]) H|_,_=>.bad
   |_,_=>.bad
  |_=>.bad
 |_=>.bad
theorem b5f[Ext]{P:Program}{w0:World}{φ:Phi}{H:VH}{w:World}(hs:HSim w0 φ H w){p:VV}{p':Value}(hp:VR φ p p'):
  b3h w0 φ H w ((do pure (Next.value (←Instr.entry p')):Sem Next).run P w) (c1A H p):=by
 unfold c1A;split
 ·rename_i j;split
  ·rename_i i since seen last hj;split
   ·rename_i es c b hi hl;split
    ·rename_i k v hc hb;simp only[VR]at hp;obtain⟨a',s,ha,rfl⟩:=hp;unfold AR at ha;obtain⟨inf,hφ,h1,h2⟩:=ha;obtain⟨inf1,o1,q1,q2,⟨q0,inf2,q3,rfl⟩,q4⟩:=hs.live j _ hj;rw[hφ]at q1;cases q1;obtain⟨inf3,o3,r1,r2,⟨es',rfl,r3⟩,r4⟩:=hs.live i _ hi;rw[q3]at r1;cases r1;have ha':a'=⟨inf.blk,0,none⟩:=by rw[h1,q0];rfl
     subst ha';obtain⟨e,e1,e2,e3⟩:=b0i es es' r3 hb;have hcl:c=last:=Nat.eq_of_beq_eq_true hc;subst hcl;rw[c2Q]at hl
     have hv:VR φ (.tuple [k,v]) (.tuple #[e.key,e.val]):=by simp only[VR];refine⟨[e.key,e.val], ?_,rfl⟩;unfold VRs;refine⟨_,_,rfl,e2, ?_⟩;unfold VRs;refine⟨_,_,rfl,e3, ?_⟩;unfold VRs;rfl
     refine⟨_,w,φ, ?_,.refl φ w,hv,hs,rfl⟩;have hback:(⟨seen⟩:Array Nat).back? =some b:=by rw[←Array.getLast?_toList];exact hl
     have hfind:(⟨es'⟩:Array MapEntry).find? (·.born==b)=some e:=by rw[←Array.find?_toList];exact e1
     simp[Instr.entry,getObj,Sem.run_bind,Sem.run,q2,r2,Result.andThen,hback,hfind]
    ·trivial
   ·trivial
  ·trivial
 ·trivial
def c1D(P:Program)(c:Call)(a:VT)(H:VH):Out:=
 match c.callee with
 |.invoke r n=>match a0A a r,a0b a c.args.toList with
  |some (.iface t v),some vs=>match b1X P t n with
   |some f=>a7f P H f (v::vs)|none=>.bad
  |_,_=>.bad
 |.value f=>match a0A a f,a0b a c.args.toList with
  |some f,some vs=>c7b P H f vs|_,_=>.bad
 |.builtin b=>match b,c.args,c.argTypes with
  |.append,⟨[s,x]⟩,⟨t::ts⟩=>match a0A a s,a0A a x with
   |some s,some x=>match a2N P ts.head? with
    |true=>match s with
     |.lsl b n m=>b2r P H t ts.head? b n m x|s=>b5l P H t ts.head? s x
    |false=>.bad
   |_,_=>.bad
  |_,_,_=>.bad
def evE(P:Program)(o:Op)(a:VT)(H:VH):Out:=
 match o with
 |.alloc _|.box _ _|.buildSlice _ _ _|.makeMap _ _|.makeSlice _ _ _=>c3r H (a3h P o a)
 |.store t x y=>match a0A a x,a0A a y,P.info? t with
  |some (.ptr (some ad)),some v,some i=>match Nat.beq v.cells.length i.size,b5N H ad v.cells with
   |true,some H₁=>.skip H₁|_,_=>.bad
  |_,_,_=>.bad
 |.mapUpdate t m k v|.insert t m k v=>match a0A a m,a0A a k,a0A a v with
  |some m,some k,some v=>b5W P H t m k v|_,_,_=>.bad
 |.call c=>c1D P c a H
 |.range t x=>match a0A a x with
  |some x=>c0t P H t x|none=>.bad
 |.entry x=>match a0A a x with
  |some x=>c1A H x|none=>.bad
 |_=>.bad
theorem b5j[Ext]{P:Program}(hng:a6U P){w0:World}{φ:Phi}{a:VT}{act:Act}{H:VH}{w:World}(ht:TR φ a act.tmps)(hs:HSim w0 φ H w)(c:Call)(o:Oper)(ho:o.op= .call c):
  b3h w0 φ H w ((execOp act.eval o).run P w) (c1D P c a H):=by
 obtain⟨cal,args,ts⟩:=c;unfold c1D;cases cal with
 |invoke r n=>
  simp only;cases hr:a0A a r with
  |none=>trivial
  |some rv=>cases hv:a0b a args.toList with
   |none=>cases rv<;>trivial
   |some vs=>cases rv with
    |iface t v=>
     simp only;cases hm:b1X P t n with
     |none=>trivial
     |some f=>
      have hrr:=a0B ht hr;have hvr:=a1S ht _ _ hv;simp only[VR]at hrr;obtain⟨v',h1,h2⟩:=hrr;have he:=a4m hng hs (g:=f) (show VRs φ (v::vs) (v'::args.toList.map act.eval)by simp only[VRs];exact⟨_,_,rfl,h1,hvr⟩)
      have hrun:(execOp act.eval o).run P w=(callFunc f ⟨v'::args.toList.map act.eval⟩).run P w:=by
       unfold execOp;rw[ho];simp only[resolve,h2,Sem.run_bind,Sem.run_pure,Result.andThen_ok];unfold invoke;simp only
       have e0:(#[Value.iface t v']++args.map act.eval)[0]? =some (.iface t v'):=by first|rfl|(rw[Array.getElem?_append_left (Nat.zero_lt_one)];rfl)
       have e1:(#[Value.iface t v']++args.map act.eval).extract 1 (#[Value.iface t v']++args.map act.eval).size=args.map act.eval:=by
        apply Array.ext'
        simp
        rw[List.take_of_length_le (by simp)]
       rw[e0];simp only[e1];rw[b3V hm]
       congr 2
       apply Array.ext'
       simp
      rw[hrun];exact he
    |_=>trivial
 |builtin b=>
  simp only
  have run: ∀(args':Array Value),args.map act.eval=args'→(execOp act.eval o).run P w=(builtin b ts o.type (args.map fun|.const _=>true|_=>false) args').run P w:=by intro args' h;unfold execOp;rw[ho];simp[resolve,h,invoke];rfl
  split
  ·rename_i s x t ts';rw[run #[act.eval s,act.eval x] (by simp)];cases h1:a0A a s with
   |none=>trivial
   |some u=>cases h2:a0A a x with
    |none=>trivial
    |some v=>
     simp only;cases a2N P ts'.head? with
     |true=>cases u<;>first
      |exact b2q hs (a0B ht h1) (a0B ht h2)
      |exact b3a hs (a0B ht h1) (a0B ht h2)
     |false=>trivial
  ·trivial
 |value f=>
  simp only;cases hf:a0A a f with
  |none=>trivial
  |some fv=>cases hv:a0b a args.toList with
   |none=>trivial
   |some vs=>
    simp only;have hfr:=a0B ht hf;have hvr:=a1S ht _ _ hv;unfold c7b;cases fv with
    |func fn first cap=>
     cases fn with
     |func g=>
      simp only[VR]at hfr;obtain⟨first',cap',_,h1,h2,h3⟩:=hfr;have he:=a4m hng hs (g:=g) (a4T h1 (a4T hvr h2))
      have hrun:(execOp act.eval o).run P w=(callFunc g ⟨first'++(args.toList.map act.eval++cap')⟩).run P w:=by
       unfold execOp;rw[ho];simp only[resolve,h3,Deferred.ofValue,Sem.run_bind,Sem.run_pure,Result.andThen_ok,invoke]
       congr 2
       apply Array.ext'
       simp
      rw[hrun];exact he
     |_=>trivial
    |yield i=>
     simp only;cases hg:H.locs.get i with
     |none=>trivial
     |some vo=>cases vo with
      |loop st pend tm nt params asg body=>
       simp only;cases hb:Nat.beq vs.length params.length with
       |false=>trivial
       |true=>
        obtain⟨inf,o',h1,h2,⟨tmps',fn,d,rfl,h3,h4⟩,_⟩:=hs.live i _ hg;simp only[VR]at hfr;obtain⟨inf',h1',hfe⟩:=hfr;rw[h1]at h1';cases h1';have hl:=a0R _ _ hvr;have hlen:(args.toList.map act.eval).length=params.length:=by rw[←hl];exact Nat.eq_of_beq_eq_true hb
        refine⟨inf,_,args.toList.map act.eval,h1,h2,by simpa using hlen,hvr, ?_⟩;unfold execOp;rw[ho];have hge:(getObj inf.blk).run P w= .ok (.loop {state:=st,pending:=pend,fn:=fn,tmps:=tmps',params:=⟨params⟩,assign:=asg,body:=body,defers:=d}) w:=by simp[getObj,Sem.run,h2]
        have hsz:(args.map act.eval).size=params.length:=by rw[←hlen];simp
        have hargs:args.map act.eval=⟨args.toList.map act.eval⟩:=by apply Array.ext';simp
        have hgl:(Instr.getLoop inf.blk).run P w= .ok {state:=st,pending:=pend,fn:=fn,tmps:=tmps',params:=⟨params⟩,assign:=asg,body:=body,defers:=d} w:=by simp[Instr.getLoop,hge]
        have hne: ¬((#[]++args.map act.eval:Array Value).size≠(⟨params⟩:Array Tmp).size):=by simpa using hsz
        simp only[resolve,hfe,Deferred.ofValue,Sem.run_bind,Sem.run_pure,Result.andThen_ok,invoke,Instr.yield,hgl];rw[if_neg hne];simp only[Sem.run_pure];rw[←hargs];simp only[Array.empty_append]
      |_=>trivial
    |_=>trivial
theorem b2o[Ext]{P:Program}(hng:a6U P){w0:World}{φ:Phi}{a:VT}{act:Act}{H:VH}{w:World}(ht:TR φ a act.tmps)(hs:HSim w0 φ H w)(o:Oper):
  b3h w0 φ H w ((execOp act.eval o).run P w) (evE P o.op a H):=by
 obtain⟨dst,op,type,pos,after,guard⟩:=o;simp only;cases op with
 |alloc t=>exact a3V hs fun k vo h=>a2C ht _ h
 |box t x=>exact a3V hs fun k vo h=>a2C ht _ h
 |buildSlice t len parts=>exact a3V hs fun k vo h=>a2C ht _ h
 |makeMap t r=>exact a3V hs fun k vo h=>a2C ht _ h
 |makeSlice t l c=>exact a3V hs fun k vo h=>a2C ht _ h
 |store t x y=>
  simp only[evE];cases hx:a0A a x with
  |none=>trivial
  |some u=>cases u with
   |ptr p=>cases p with
    |none=>cases hy:a0A a y<;>cases hi:P.info? t<;>trivial
    |some ad=>cases hy:a0A a y with
     |none=>trivial
     |some v=>cases hi:P.info? t with
      |none=>trivial
      |some i=>
       simp only;cases hb:Nat.beq v.cells.length i.size with
       |false=>trivial
       |true=>cases hst:b5N H ad v.cells with
        |none=>trivial
        |some H₁=>
         have hxr:=a0B ht hx;have hyr:=a3M (a2z hy) (a0B ht hy);simp only[VR]at hxr;obtain⟨a',s,ha,hxe⟩:=hxr;obtain⟨w₁,g1,g2,⟨bi,binf,bo,hb1,hb2⟩,g4⟩:=b5M (P:=P) hs ha hst hyr;refine⟨w₁,φ, ?_,St.upd hb1 hb2,g2,g4⟩;have hl:=a0R _ _ hyr;simp only[Array.length_toList]at hl;have hsz:(act.eval y).cells.size=i.size:=by rw[←hl];exact Nat.eq_of_beq_eq_true hb
         simp[execOp,Instr.storeAt,hxe,Instr.sureAddr,storeVar,a0J hi,a1z hi,hsz,g1]
   |_=>cases hy:a0A a y<;>cases hi:P.info? t<;>trivial
 |entry x=>
  simp only[evE];cases hx:a0A a x with
  |none=>trivial
  |some u=>exact b5f hs (a0B ht hx)
 |range t x=>
  simp only[evE];cases hx:a0A a x with
  |none=>trivial
  |some u=>exact b5Z hs (a0B ht hx)
 |mapUpdate t m k v=>
  simp only[evE];cases hm:a0A a m with
  |none=>trivial
  |some x=>cases hk:a0A a k with
   |none=>trivial
   |some y=>cases hv:a0A a v with
    |none=>trivial
    |some z=>exact a7M hs (a0B ht hm) (a0B ht hk) (a0B ht hv)
 |insert t m k v=>
  simp only[evE];cases hm:a0A a m with
  |none=>trivial
  |some x=>cases hk:a0A a k with
   |none=>trivial
   |some y=>cases hv:a0A a v with
    |none=>trivial
    |some z=>exact a7M hs (a0B ht hm) (a0B ht hk) (a0B ht hv)
 |call c=>exact b5j hng ht hs c _ rfl
 |_=>trivial
end
end Go.Ev
