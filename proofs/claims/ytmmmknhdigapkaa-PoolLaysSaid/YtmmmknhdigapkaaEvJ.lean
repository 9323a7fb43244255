/- Engine, part I: append, copy, the other operations that write. -/
import Derived.Test.YtmmmknhdigapkaaEvH
import Derived.Laws.AppendOwn
import Derived.Laws.Externs
namespace Go.Ev
noncomputable section
theorem b3w{w:World}{need cap:Nat}{e:TypeId}{z:Array Value}{size:Nat}(hz:z.size=size):(grownCap w need cap e-need)*size≤(Builtin.zeroCells z (grownCap w need cap e-need)).toList.length:=by
 rw[Array.length_toList]
 simp[Builtin.zeroCells,hz]
theorem a2k[Ext]{w0:World}{φ:Phi}{H:VH}{w:World}(h:HSim w0 φ H w):HSim w0 φ H w.drew:=h.heap rfl
theorem a8u[Ext]{P:Program}{w0:World}{φ:Phi}{H:VH}{w:World}(h:HSim w0 φ H w)(hnx:H.next<top){t e:TypeId}{ts:List TypeId}{ty:TypeId}{i:TypeInfo}{z':Value}(hu:P.underlying t=some (.slice e))(hi:P.info? e=some i)(hz:i.zero=some z')(hzs:z'.cells.size=i.size)
  (hp:a1o P ts.head? =true) {base:Option Addr} {len cap n:Nat} {x':Value} (hln:(Builtin.lenOf x').run P w= .ok n w) (hlt:cap<len+n) (hb:(len+n)*i.bytes≤140737488355328) (hsm:len+n<1099511627776)
  {old new:List VV} {old' new':List Value} (ho:(Builtin.firstCells i.size len (.slice base len cap)).run P w.drew= .ok ⟨old'⟩ w.drew) (hn:(Builtin.firstCells i.size n x').run P w.drew= .ok ⟨new'⟩ w.drew) (vo:VRs φ old old') (vn:VRs φ new new')
  {H':VH} (h':HSim w0 φ H' w) (hH:H'.next=H.next) (hB:H'.base=H.base) (ro:Nat) (et:Option TypeId) (het: ∀t,et=some t→e=t):
  a5g w0 φ H w ((do pure (Next.value (←Builtin.append_ ⟨t::ts⟩ ty #[.slice base len cap,x'])):Sem Next).run P w)
   (.val (.slice (some ⟨.loc H.next,0⟩) (len+n) (len+n)) (H'.alloc (.cells (old++new) (some i.size) ro et))):=by
 have hr:=b3B (P:=P) (ty:=ty) hu hi hz hp hln hlt hb hsm ho hn
 have hge:=grownCap_ge w (len+n) cap e
 have hc:=(a2k h').cells (by rw[hH];exact hnx) (a3B vo vn) e (some i.size) (grownCap w (len+n) cap e-(len+n)) ro et (Builtin.zeroCells z'.cells (grownCap w (len+n) cap e-(len+n))).toList (0,0) (by simp) (by simpa[a9G]using b3w (w:=w) (need:=len+n) (cap:=cap) (e:=e) hzs) (Nat.zero_le _) (fun t ht=>⟨het t ht,fun h=>by cases h⟩)
 rw[hH]at hc
 have hst:St φ w (φ.ext H.next ⟨w.heap.size,0,grownCap w (len+n) cap e-(len+n)⟩) (w.drew.alloc (.cells ⟨old'++(new'++(Builtin.zeroCells z'.cells (grownCap w (len+n) cap e-(len+n))).toList)⟩ e)):=
  (St.drew (φ:=φ) (w:=w) (w₁:=w.drew) rfl rfl rfl rfl).trans (St.alloc (a2k h) _ _)
 refine⟨.slice (some ⟨w.heap.size,0,none⟩) (len+n) (grownCap w (len+n) cap e),_,_,by simp only[Sem.run_bind,hr,Result.andThen_ok,Sem.run_pure],hst, ?_, ?_,hB⟩
 ·have:=a7o (φ:=φ) (n:=H.next) (b:=w.heap.size) (s:=grownCap w (len+n) cap e-(len+n)) (l:=len+n) (c:=len+n)
  rwa [show len+n+(grownCap w (len+n) cap e-(len+n))=grownCap w (len+n) cap e by omega]at this
 ·rw[←List.append_assoc]
  exact hc
theorem b2n[Ext]{P:Program}{w0:World}{φ:Phi}{H:VH}{w:World}(h:HSim w0 φ H w)(hnx:H.next<top){t e:TypeId}{ts:List TypeId}{ty:TypeId}{i:TypeInfo}(hu:P.underlying t=some (.slice e))(hi:P.info? e=some i)
  (hp:a1o P ts.head? =true) {b o:Nat} {inf:Inf} (hφ:φ b=some inf) {c:List VV} {ro:Nat} {et et':Option TypeId} (het: ∀t,et'=some t→et=some t) (hg:H.locs.get b=some (.cells c (some i.size) ro et)) {len cap n:Nat} {x':Value} (hln:(Builtin.lenOf x').run P w= .ok n w) (hle:len+n≤cap+inf.slack) (_hgt:cap<len+n)
  (hend:o+cap*i.size=c.length) (hro:ro≤o+len*i.size) {old new:List VV} {new':List Value} (hold:a4k H ⟨.loc b,o⟩ (len*i.size)=some old) (hn:(Builtin.firstCells i.size n x').run P w= .ok ⟨new'⟩ w) (vn:VRs φ new new') (hnl:new.length=n*i.size) (hfl:flat new=true):
  a5g w0 φ H w ((do pure (Next.value (←Builtin.append_ ⟨t::ts⟩ ty #[.slice (some ⟨inf.blk,inf.off+o,none⟩) len (cap+inf.slack),x'])):Sem Next).run P w)
   (.val (.slice (some ⟨.loc H.next,0⟩) (len+n) (len+n)) {H with locs:=(H.locs.del b).put H.next (.cells (old++new) (some i.size) (ro-o) et'),next:=H.next+1}):=by
 obtain⟨inf',o',hφ',hw,⟨cr,e0,fr,rfl,hc⟩,_⟩:=h.live b _ hg
 rw[hφ]at hφ';cases hφ'
 have hsz:=hc.size
 simp only[a9G]at hsz
 have hnl':new'.length=n*i.size:=by rw[←a0M _ _ vn,hnl]
 have hmul:(len+n)*i.size≤(cap+inf.slack)*i.size:=Nat.mul_le_mul_right _ hle
 rw[Nat.add_mul,Nat.add_mul]at hmul
 have hcomm:inf.slack*i.size=inf.slack*i.size:=rfl
 obtain⟨w₁,c₁,r1,r2,r3,r4⟩:=a3C (P:=P) (b:=inf.blk) (o:=inf.off+o+len*i.size) (e:=e0) (fr:=fr) new' 0 cr w hw (by omega) (fun j hj=>by
  have:=hc.free (o+len*i.size+j) (by omega) (by simp only[a9G];omega)
  rwa [show inf.off+o+len*i.size+0+j=inf.off+(o+len*i.size+j)by omega]) (b1B _ _ vn hfl)
 have hadd:(⟨inf.blk,inf.off+o,none⟩:Addr).add (len*i.size)=⟨inf.blk,inf.off+o+len*i.size,none⟩:=Addr.add_lit _ _ _
 have hr:=a2A (P:=P) (ty:=ty) hu hi hp (base:=some ⟨inf.blk,inf.off+o,none⟩) (len:=len) (cap:=cap+inf.slack) (n:=n) hln hle hn (w₁:=w₁) (by simp only;rw[hadd];exact r1)
 have hold2:old=(c.drop o).take (len*i.size)∧len*i.size≤c.length-o:=by
  unfold a4k at hold
  simp only[hg]at hold
  obtain⟨k1,k2⟩:=a4u _ _ _ hold
  rw[a1q]at k1 k2
  exact⟨k2,by simpa using k1⟩
 have hol:old.length=len*i.size:=by rw[hold2.1];simp;omega
 refine⟨.slice (some ⟨inf.blk,inf.off+o,none⟩) (len+n) (cap+inf.slack),w₁,φ.ext H.next ⟨inf.blk,inf.off+o,cap+inf.slack-(len+n)⟩,by simp only[Sem.run_bind,hr,Result.andThen_ok,Sem.run_pure], ?_, ?_, ?_,rfl⟩
 ·refine⟨Phi.le_ext _ (h.fresh _ (Nat.le_refl _)),r2.wk,fun k _ hk=>r2.there k (fun e=>hk b inf hφ e.symm),fun j jnf hj=> ?_⟩
  simp only[Phi.ext]at hj
  split at hj
  ·cases hj;exact .inl ⟨b,inf,hφ,rfl⟩
  ·exact .inl ⟨j,jnf,hj,rfl⟩
 ·simp only[VR]
  refine⟨⟨inf.blk,inf.off+o,none⟩,cap+inf.slack-(len+n), ?_, ?_⟩
  ·unfold AR;exact⟨_,Phi.ext_self _ _ _,rfl,rfl⟩
  ·rw[show len+n+(cap+inf.slack-(len+n))=cap+inf.slack by omega]
 ·refine h.regrow hg hφ ⟨inf.blk,inf.off+o,cap+inf.slack-(len+n)⟩ rfl r2 ⟨c₁,e0,fr,rfl,⟨?_,by simp, ?_,by have:=hc.low;simp only;omega,fun t ht=>⟨(hc.typ t (het t ht)).1,fun h=>by cases h⟩⟩⟩ hnx
  ·simp only[a9G,List.length_append,hol,hnl,r3]
   have:(cap+inf.slack-(len+n))*i.size=(cap+inf.slack)*i.size-(len+n)*i.size:=Nat.sub_mul _ _ _
   rw[this,Nat.add_mul,Nat.add_mul]
   omega
  ·intro j x hx
   have hle':=Phi.le_ext (φ:=φ) ⟨inf.blk,inf.off+o,cap+inf.slack-(len+n)⟩ (h.fresh H.next (Nat.le_refl _))
   simp only at*
   rw[r4]
   by_cases hj:j<old.length
   ·rw[List.getElem?_append_left hj,hold2.1,List.getElem?_take,if_pos (by omega),List.getElem?_drop]at hx
    rw[if_neg (by omega)]
    obtain⟨y,h1,h2⟩:=hc.cell _ x hx
    exact⟨y,by rw[show inf.off+o+j=inf.off+(o+j)by omega];exact h1,h2.mono hle'⟩
   ·rw[List.getElem?_append_right (by omega)]at hx
    have hlt:=(List.getElem?_eq_some_iff.1 hx).1
    rw[if_pos ⟨by omega,by omega⟩]
    obtain⟨y,h1,h2⟩:=a2L _ _ vn _ x hx
    exact⟨y,by rw[show inf.off+o+j-(inf.off+o+len*i.size+0)=j-old.length by omega];exact h1,h2.mono hle'⟩
theorem b3T[Ext]{P:Program}{w0:World}{φ:Phi}{H:VH}{w:World}(h:HSim w0 φ H w){t:TypeId}{ts:List TypeId}{ty:TypeId}{s x:VV}{s' x':Value}(hs:VR φ s s')(hx:VR φ x x'):
  a5g w0 φ H w ((do pure (Next.value (←Builtin.append_ ⟨t::ts⟩ ty #[s',x'])):Sem Next).run P w) (b5o P H t ts.head? s x):=by
 unfold b5o
 cases hu:P.underlying t with
 |none=>trivial
 |some d=>cases d with
  |slice e=>
   simp only
   cases hp:a1o P ts.head? with
   |false=>trivial
   |true=>cases hi:P.info? e with
    |none=>trivial
    |some i=>cases hz:a1m P e with
     |none=>trivial
     |some z=>cases hn:a2P x with
      |none=>trivial
      |some n=>
       simp only
       have hln:=a3G (P:=P) (w:=w) hx hn
       cases s with
       |slice base len cap=>
        simp only[a5g]
        refine⟨fun hle=> ?_,fun hgt=> ?_⟩
        ·have hle':len+n≤cap:=Nat.le_of_ble_eq_true hle
         cases n with
         |zero=>
          have hfc:=a9F (P:=P) (w:=w) hx hn i.size
          have fin: ∀(b':Option Addr) (c':Nat),cap≤c'→VR φ (.slice base len cap) (.slice b' len c')→a5g w0 φ H w ((do pure (Next.value (←Builtin.append_ ⟨t::ts⟩ ty #[.slice b' len c',x'])):Sem Next).run P w) (.val (.slice base len cap) H):=by
           intro b' c' hc hv
           have hr:=a2A (P:=P) (ty:=ty) hu hi hp (base:=b') (len:=len) (cap:=c') (n:=0) hln (by omega) (new:=[]) hfc (w₁:=w) (by cases b'<;>rfl)
           exact⟨.slice b' len c',w,φ,by simp only[Sem.run_bind,hr,Result.andThen_ok,Sem.run_pure,Nat.add_zero],.refl φ w,hv,h,rfl⟩
          cases base with
          |none=>simp only[VR]at hs;subst hs;exact fin none cap (Nat.le_refl _) (by simp only[VR])
          |some a=>
           have hs':=hs
           simp only[VR]at hs'
           obtain⟨a',sl,ha,rfl⟩:=hs'
           exact fin (some a') (cap+sl) (by omega) hs
         |succ n=>
          cases base with
          |none=>trivial
          |some a=>
           simp only
           cases hsc:a0Q H i.size (n+1) x with
           |none=>trivial
           |some new=>
            simp only
            cases hst:a8W H (a.add (len*i.size)) new with
            |none=>trivial
            |some H₁=>
             simp only[VR]at hs
             obtain⟨a',sl,ha,rfl⟩:=hs
             obtain⟨new',f1,f2⟩:=a0U (P:=P) h hx hsc
             obtain⟨w₁,g1,g2,g3,g4⟩:=a4I (P:=P) h (ha.add (len*i.size)) hst f2
             have hr:=a2A (P:=P) (ty:=ty) hu hi hp (base:=some a') (len:=len) (cap:=cap+sl) (n:=n+1) hln (by omega) f1 (w₁:=w₁) g1
             obtain⟨bi,binf,bo,hb1,hb2⟩:=g3
             exact⟨.slice (some a') (len+(n+1)) (cap+sl),w₁,φ,by simp only[Sem.run_bind,hr,Result.andThen_ok,Sem.run_pure],St.upd hb1 hb2,by simp only[VR];exact⟨a',sl,ha,rfl⟩,g2,g4⟩
        ·intro hb hsm
         have hb':(len+n)*i.bytes≤140737488355328:=Nat.le_of_ble_eq_true hb
         have hsm':=a0H hsm
         have hgt':cap<len+n:=by
          rcases Nat.lt_or_ge cap (len+n)with h1|h1
          ·exact h1
          ·have:=Nat.ble_eq_true_of_le h1;rw[this]at hgt;cases hgt
         obtain⟨z',hz1,hz2⟩: ∃z',i.zero=some z'∧emb z'=some z:=by
          have hz0:=hz
          unfold a1m at hz0
          rw[hi]at hz0
          simp only at hz0
          cases hiz:i.zero with
          |none=>rw[hiz]at hz0;cases hz0
          |some z'=>rw[hiz]at hz0;exact⟨z',rfl,hz0⟩
         have hzl:=a0M _ _ (a2F (a2z z' z hz2) (a6M φ z' z hz2))
         simp only[Array.length_toList]at hzl
         cases hbz:Nat.beq z.cells.length i.size with
         |false=>trivial
         |true=>cases hnx:Nat.blt H.next top with
          |false=>trivial
          |true=>
           have hbz':z'.cells.size=i.size:=by rw[←hzl];exact Nat.eq_of_beq_eq_true hbz
           have hnx':=a0H hnx
           simp only
           cases hso:a0Q H i.size len (.slice base len cap)with
           |none=>trivial
           |some old=>cases hsn:a0Q H i.size n x with
            |none=>trivial
            |some new=>
             simp only
             obtain⟨old',o1,o2⟩:=a0U (P:=P) (a2k h) hs hso
             obtain⟨new',n1,n2⟩:=a0U (P:=P) (a2k h) hx hsn
             have hln':(Builtin.lenOf x').run P w= .ok n w:=hln
             have re: ∀(b':Option Addr) (c':Nat) (H':VH) (ro:Nat) (et:Option TypeId),(∀t,et=some t→e=t)→s'= .slice b' len c'→c'<len+n→HSim w0 φ H' w→H'.next=H.next→H'.base=H.base→
               (Builtin.firstCells i.size len (.slice b' len c')).run P w.drew= .ok ⟨old'⟩ w.drew→
               a5g w0 φ H w ((do pure (Next.value (←Builtin.append_ ⟨t::ts⟩ ty #[s',x'])):Sem Next).run P w) (.val (.slice (some ⟨.loc H.next,0⟩) (len+n) (len+n)) (H'.alloc (.cells (old++new) (some i.size) ro et))):=by
              intro b' c' H' ro et het hs1 hc1 hH' hN hB ho
              subst hs1
              exact a8u h hnx' hu hi hz1 hbz' hp hln hc1 hb' hsm' ho n1 o2 n2 hH' hN hB ro et het
             cases base with
             |none=>
              simp only[VR]at hs
              exact re none cap H 0 (some e) (fun _ h=>by cases h;rfl) hs hgt' h rfl rfl (by rw[hs]at o1;exact o1)
             |some a=>
              have hs0:=hs
              simp only[VR]at hs0
              obtain⟨a',sl,ha,hs1⟩:=hs0
              obtain⟨ab,ao⟩:=a
              rw[hs1]at o1
              simp only
              cases ab with
              |base r=>
               have hsl:sl=0:=by unfold AR at ha;exact ha.2
               subst hsl
               exact re (some a') cap H 0 (some e) (fun _ h=>by cases h;rfl) hs1 hgt' h rfl rfl o1
              |sym r=>trivial
              |loc b=>
               simp only
               cases hg:H.locs.get b with
               |none=>trivial
               |some ob=>cases ob with
                |cells c g ro et=>cases g with
                 |none=>
                  have hsl:sl=0:=a2j h ha (by simp[a4Q,hg])
                  subst hsl
                  exact re (some a') cap H 0 (some e) (fun _ h=>by cases h;rfl) hs1 hgt' h rfl rfl o1
                 |some sz=>
                  simp only
                  cases hq1:Nat.beq sz i.size with
                  |false=>trivial
                  |true=>cases hq2:Nat.beq (ao+cap*i.size) c.length with
                   |false=>trivial
                   |true=>cases hq3:Nat.ble ro (ao+len*i.size)with
                    |false=>trivial
                    |true=>cases hq4:flat new with
                     |false=>trivial
                     |true=>
                      have hsz:sz=i.size:=Nat.eq_of_beq_eq_true hq1
                      subst hsz
                      unfold AR at ha
                      simp only at ha
                      obtain⟨inf,hφ,rfl,rfl⟩:=ha
                      by_cases hin:len+n≤cap+inf.slack
                      ·rw[hs1]
                       obtain⟨new2,m1,m2⟩:=a0U (P:=P) h hx hsn
                       exact b2n h hnx' hu hi hp hφ (fun t ht=>(a2d ht).2) hg hln hin hgt' (Nat.eq_of_beq_eq_true hq2) (Nat.le_of_ble_eq_true hq3) (by simpa[a0Q]using hso) m1 m2 (a2h h hx hn hsn) hq4
                      ·have hlt2:b<top:=Nat.lt_trans (h.lt hφ) hnx'
                       exact re (some ⟨inf.blk,inf.off+ao,none⟩) (cap+inf.slack) {H with locs:=H.locs.del b} (ro-ao) (a2q et e) (fun t ht=>(a2d ht).1.symm) hs1 (by omega) (h.del hlt2) rfl rfl o1
                |_=>trivial
       |sliceE=>
        simp only[VR]at hs
        obtain⟨a',c,rfl⟩:=hs
        cases n with
        |succ n=>trivial
        |zero=>
         have hfc:=a9F (P:=P) (w:=w) hx hn i.size
         have hr:=a2A (P:=P) (ty:=ty) hu hi hp (base:=some a') (len:=0) (cap:=c) (n:=0) hln (by omega) (new:=[]) hfc (w₁:=w) rfl
         exact⟨.slice (some a') 0 c,w,φ,by simp only[Sem.run_bind,hr,Result.andThen_ok,Sem.run_pure,Nat.add_zero],.refl φ w,by simp only[VR];exact⟨_,_,rfl⟩,h,rfl⟩
       |_=>trivial
  |_=>trivial
theorem b1f{P:Program}{w:World}{t e ty:TypeId}{ts:List TypeId}{i:TypeInfo}{z':Value}(hu:P.underlying t=some (.slice e))(hi:P.info? e=some i)(hz':i.zero=some z'){t2:TypeId}{k:IntKind}(ht:ts.head? =some t2)(hk:P.underlying t2=some (.int k)){kk:IntKind}{n:Nat}(hn:0<n)(hb:n*i.bytes≤140737488355328)(hs:n<1099511627776)(hsz:n*i.size≠0):
  (Builtin.append_ ⟨t::ts⟩ ty #[.slice none 0 0,.int kk n]).run P w= .ok (.slice (some ⟨w.heap.size,0,none⟩) n (grownCap w n 0 e)) (w.drew.alloc (.cells ⟨(Builtin.zeroCells z'.cells n).toList++(Builtin.zeroCells z'.cells (grownCap w n 0 e-n)).toList⟩ e)):=by
 have h0:(⟨t::ts⟩:Array TypeId)[0]? =some t:=by simp
 have hget:(⟨t::ts⟩:Array TypeId)[1]? =some t2:=by cases ts<;>simp_all
 have hfit:=growslice_fits (need:=n) (old:=0) (bytes:=i.bytes) (by omega) hb
 have hti: ∀w,(typeInfo e).run P w= .ok i w:=fun w=>by simp[typeInfo,hi]
 have hzv: ∀w,(zeroValue e).run P w= .ok z' w:=fun w=>by simp[zeroValue,typeInfo,hi,hz']
 have wn:IntKind.i64.wrap (n:Int)=n:=wrap_small (by omega) (by omega)
 have n0: ¬((n:Int)<0):=by omega
 have nb: ¬(281474976710656<(n:Int)*(i.bytes:Int)):=by
  have h3:((n*i.bytes:Nat):Int)≤((140737488355328:Nat):Int):=Int.ofNat_le.2 hb
  rw[Int.natCast_mul]at h3
  have e47:((140737488355328:Nat):Int)=140737488355328:=rfl
  rw[e47]at h3
  omega
 have n1:n≠0:=by omega
 have n2: ¬(9223372036854775807<(n:Int)):=by omega
 have n3: ¬(281474976710656<Builtin.nextslicecap n 0*i.bytes):=by omega
 have nf:(Question.appendCap n 0 e).forced=false:=rfl
 have arr: ∀(b:List Value) (c:Array Value),((⟨b⟩:Array Value)++c)=⟨b++c.toList⟩:=fun b c=>by apply Array.ext';simp
 have zc: ∀m,Builtin.zeroCells z'.cells m=⟨(Builtin.zeroCells z'.cells m).toList⟩:=fun m=>by simp
 simp[Builtin.append_,hget,run_underlying hu,run_underlying hk,a0J hi,a1N hi,asInt,asIntOf,wn,n0,nb,n1,n2,n3,nf,hti,hzv,hsz,newRow,grownCap,Builtin.firstCells]
 congr 2
 apply Array.ext'
 simp
def b2V(P:Program)(H:VH)(t:TypeId)(xt:Option TypeId)(s x:VV):Out:=
 match P.underlying t,xt with
 |some (.slice e),some t2=>match P.underlying t2,P.info? e,a1m P e with
  |some (.int _),some i,some z=>match s,x with
   |.slice none 0 0,.int _ (.ofNat n)=>match Nat.blt 0 n,Nat.ble (n*i.bytes) 140737488355328,Nat.blt n 1099511627776,Nat.beq (n*i.size) 0,Nat.beq z.cells.length i.size,Nat.blt H.next top with
    |true,true,true,false,true,true=>.val (.slice (some ⟨.loc H.next,0⟩) n n) (H.alloc (.cells (rep n z.cells) (some i.size) 0 (some e)))
    |_,_,_,_,_,_=>.bad
   |_,_=>.bad
  |_,_,_=>.bad
 |_,_=>.bad
theorem b2U[Ext]{P:Program}{w0:World}{φ:Phi}{H:VH}{w:World}(h:HSim w0 φ H w){t:TypeId}{ts:List TypeId}{ty:TypeId}{s x:VV}{s' x':Value}(hs:VR φ s s')(hx:VR φ x x'):
  a5g w0 φ H w ((do pure (Next.value (←Builtin.append_ ⟨t::ts⟩ ty #[s',x'])):Sem Next).run P w) (b2V P H t ts.head? s x):=by
 unfold b2V
 split
 ·rename_i e t2 hu ht
  split
  ·rename_i k i z hk hi hz
   split
   ·rename_i kk n
    split
    ·rename_i g1 g2 g3 g4 g5 g6
     simp only[VR]at hs hx
     subst hs hx
     obtain⟨z',hz1,hz2⟩: ∃z',i.zero=some z'∧VR φ z z':=by
      have hz0:=hz
      unfold a1m at hz0
      rw[hi]at hz0
      simp only at hz0
      cases hiz:i.zero with
      |none=>rw[hiz]at hz0;simp at hz0
      |some z'=>rw[hiz]at hz0;exact⟨z',rfl,a6M φ z' z hz0⟩
     have zc:=a2F (a3F hz) hz2
     have g5':z.cells.length=i.size:=Nat.eq_of_beq_eq_true g5
     have hl:=a0M _ _ zc
     simp only[Array.length_toList]at hl
     have hr:=b1f (P:=P) (w:=w) (ty:=ty) (ts:=ts) hu hi hz1 ht hk (kk:=kk) (a0H g1) (Nat.le_of_ble_eq_true g2) (a0H g3) (by intro e0;rw[e0]at g4;simp at g4)
     have hge:n≤grownCap w n 0 e:=grownCap_ge w n 0 e
     have hrep:=a8J zc n
     have hcells:VRs φ (rep n z.cells) (Builtin.zeroCells z'.cells n).toList:=by
      have:Builtin.zeroCells z'.cells n=(Array.range (n*z.cells.length)).map (fun i=>z'.cells[i%z'.cells.size]!):=by rw[hl];rfl
      rw[this];exact hrep
     have hc:=(a2k h).cells (a0H g6) hcells e (some i.size) (grownCap w n 0 e-n) 0 (some e) (Builtin.zeroCells z'.cells (grownCap w n 0 e-n)).toList (0,0) (by simp) (by simpa[a9G]using b3w (w:=w) (need:=n) (cap:=0) (e:=e) (by omega:z'.cells.size=i.size)) (Nat.zero_le _) (fun t ht=>by cases ht;exact⟨rfl,fun h=>by cases h⟩)
     have hst:St φ w (φ.ext H.next ⟨w.heap.size,0,grownCap w n 0 e-n⟩) (w.drew.alloc (.cells ⟨(Builtin.zeroCells z'.cells n).toList++(Builtin.zeroCells z'.cells (grownCap w n 0 e-n)).toList⟩ e)):=
      (St.drew (φ:=φ) (w:=w) (w₁:=w.drew) rfl rfl rfl rfl).trans (St.alloc (a2k h) _ _)
     refine⟨.slice (some ⟨w.heap.size,0,none⟩) n (grownCap w n 0 e),_,_,by simp only[Sem.run_bind,Int.ofNat_eq_natCast,hr,Result.andThen_ok,Sem.run_pure],hst, ?_,hc,rfl⟩
     have:=a7o (φ:=φ) (n:=H.next) (b:=w.heap.size) (s:=grownCap w n 0 e-n) (l:=n) (c:=n)
     rwa [show n+(grownCap w n 0 e-n)=grownCap w n 0 e by omega]at this
    ·trivial
   ·trivial
  ·trivial
 ·trivial
theorem a8C{α:Type}: ∀(l:List α),takeN l.length l=some l
 | []=>rfl
 |x::l=>by
  show takeN (l.length+1) (x::l)=_
  simp only[takeN,a8C l]
theorem HSim.see[Ext]{w0:World}{φ:Phi}{K H:VH}{w:World}(h:HSim w0 φ K w){q:Nat}{o o₁:VO}(hq:K.locs.get q=some o)(hb:H.base=K.base)(hn:H.next=K.next)(hl: ∀i x,H.locs.get i=some x→i≠q→K.locs.get i=some x)(ho:H.locs.get q=some o₁)
  (hor: ∀inf o',φ q=some inf→OR φ inf o o'→OR φ inf o₁ o'):HSim w0 φ H w:=by
 have was: ∀i x,H.locs.get i=some x→ ∃y,K.locs.get i=some y:=fun i x hx=>by
  by_cases e:i=q
  ·subst e;exact⟨_,hq⟩
  ·exact⟨_,hl i x hx e⟩
 refine⟨by rw[hb];exact h.env,by rw[hb];exact h.base,h.old,h.own,by rw[hn];exact h.small,fun i x hx=> ?_,fun i j oi oj inf jnf h1 h2 h3 h4 h5=> ?_,by rw[hn];exact h.fresh,h.bound⟩
 ·by_cases e:i=q
  ·subst e
   rw[ho]at hx
   cases hx
   obtain⟨inf,o',k1,k2,k3,k4⟩:=h.live i o hq
   exact⟨inf,o',k1,k2,hor inf o' k1 k3,by rw[hb];exact k4⟩
  ·obtain⟨inf,o',k1,k2,k3,k4⟩:=h.live i x (hl i x hx e)
   exact⟨inf,o',k1,k2,k3,by rw[hb];exact k4⟩
 ·obtain⟨y,hy⟩:=was i oi h1
  obtain⟨z,hz⟩:=was j oj h2
  exact h.inj i j y z inf jnf hy hz h3 h4 h5
def b2Z(P:Program)(H:VH)(t:TypeId)(xt:Option TypeId)(b n m:Nat)(x:VV):Out:=
 match P.underlying t with
 |some (.slice e)=>match a1o P xt,P.info? e,a1m P e,a2P x with
  |true,some i,some z,some (k+1)=>match H.locs.get b with
   |some (.list j n' sz tail et)=>match Nat.beq n n',Nat.beq sz i.size,Nat.beq tail.length (m*i.size),Nat.beq z.cells.length i.size,Nat.blt H.next top with
    |true,true,true,true,true=>match a0Q H i.size (k+1) x with
     |some new=>match flat new,decide (((H.base.ivl n).2+((m+(k+1):Nat):Int))*(i.bytes:Int)≤140737488355328),decide ((H.base.ivl n).2+((m+(k+1):Nat):Int)<1099511627776)with
      |true,true,true=>.val (.lsl H.next n (m+(k+1))) {H with locs:=(H.locs.del b).put H.next (.list j n sz (tail++new) (a2q et e)),next:=H.next+1}
      |_,_,_=>.bad
     |none=>.bad
    |_,_,_,_,_=>.bad
   |_=>.bad
  |true,some _,some _,some 0=>.val (.lsl b n m) H
  |_,_,_,_=>.bad
 |_=>.bad
theorem b2Y[Ext]{P:Program}{w0:World}{φ:Phi}{H:VH}{w:World}(h:HSim w0 φ H w){t:TypeId}{ts:List TypeId}{ty:TypeId}{b n m:Nat}{x:VV}{s' x':Value}(hs:VR φ (.lsl b n m) s')(hx:VR φ x x'):
  a5g w0 φ H w ((do pure (Next.value (←Builtin.append_ ⟨t::ts⟩ ty #[s',x'])):Sem Next).run P w) (b2Z P H t ts.head? b n m x):=by
 unfold b2Z
 split
 ·rename_i e hu
  split
  ·rename_i i z k hp hi hz hn
   split
   ·rename_i j n' sz tail et hg
    split
    ·rename_i g1 g2 g3 g4 g5
     split
     ·rename_i new hsn
      split
      ·rename_i g6 g7 g8
       have g1:=Nat.eq_of_beq_eq_true g1
       have g2:=Nat.eq_of_beq_eq_true g2
       have g3:=Nat.eq_of_beq_eq_true g3
       have g4:=Nat.eq_of_beq_eq_true g4
       have hnx:=a0H g5
       have g7:=of_decide_eq_true g7
       have g8:=of_decide_eq_true g8
       subst g1 g2
       simp only[VR]at hs
       obtain⟨inf,hφ,rfl⟩:=hs
       obtain⟨inf',o',hφ',hw,⟨q0,q1,c',e0,fr,rfl,hc⟩,q4⟩:=h.live b _ hg
       rw[hφ]at hφ'
       cases hφ'
       have hi2:=(h.env.ivl n).2
       have hblt:b<top:=Nat.lt_trans (h.lt hφ) hnx
       have hbn:b≠H.next:=Nat.ne_of_lt (h.lt hφ)
       generalize hL:(φ.ρ.int n).toNat+m=L
       have hll:(φ.ρ.lst j++tail).length=L*i.size:=by rw[List.length_append,q1,g3,←hL,Nat.add_mul]
       have hS:HSim w0 φ {H with locs:=H.locs.put b (.cells (φ.ρ.lst j++tail) (some i.size) 0 et)} w:=h.put hg hφ ⟨rfl,rfl,rfl,rfl,hw,fun _ _=>rfl⟩ ⟨c',e0,fr,rfl,hc⟩
       have hgS:(H.locs.put b (.cells (φ.ρ.lst j++tail) (some i.size) 0 et)).get b=some (.cells (φ.ρ.lst j++tail) (some i.size) 0 et):=TT.get_put_same _ _ _ hblt
       have hold:a4k {H with locs:=H.locs.put b (.cells (φ.ρ.lst j++tail) (some i.size) 0 et)} ⟨.loc b,0⟩ (L*i.size)=some (φ.ρ.lst j++tail):=by
        unfold a4k
        simp only[hgS]
        rw[←hll]
        exact a8C _
       have hln:=a3G (P:=P) (w:=w) hx hn
       obtain⟨z',hz1,hz2⟩: ∃z',i.zero=some z'∧emb z'=some z:=by
        have hz0:=hz
        unfold a1m at hz0
        rw[hi]at hz0
        simp only at hz0
        cases hiz:i.zero with
        |none=>rw[hiz]at hz0;cases hz0
        |some z'=>rw[hiz]at hz0;exact⟨z',rfl,hz0⟩
       have hzl:=a0M _ _ (a2F (a2z z' z hz2) (a6M φ z' z hz2))
       simp only[Array.length_toList]at hzl
       have hzs:z'.cells.size=i.size:=by rw[←hzl];exact g4
       obtain⟨new2,m1,m2⟩:=a0U (P:=P) h hx hsn
       have back: ∀(X:Out) (v:VV) (K:VH),X= .val v K→v= .slice (some ⟨.loc H.next,0⟩) (L+(k+1)) (L+(k+1))→K.base=H.base→K.next=H.next+1→K.locs.get H.next=some (.cells ((φ.ρ.lst j++tail)++new) (some i.size) 0 (a2q et e))→
         (∀q y,((H.locs.del b).put H.next (.list j n i.size (tail++new) (a2q et e))).get q=some y→q≠H.next→K.locs.get q=some y)→
         a5g w0 φ {H with locs:=H.locs.put b (.cells (φ.ρ.lst j++tail) (some i.size) 0 et)} w ((do pure (Next.value (←Builtin.append_ ⟨t::ts⟩ ty #[.slice (some ⟨inf.blk,inf.off,none⟩) L (L+inf.slack),x'])):Sem Next).run P w) X→
         a5g w0 φ H w ((do pure (Next.value (←Builtin.append_ ⟨t::ts⟩ ty #[.slice (some ⟨inf.blk,inf.off,none⟩) L (L+inf.slack),x'])):Sem Next).run P w) (.val (.lsl H.next n (m+(k+1))) {H with locs:=(H.locs.del b).put H.next (.list j n i.size (tail++new) (a2q et e)),next:=H.next+1}):=by
        rintro X v K rfl rfl hKb hKn hKq hKl ⟨v',w₁,φ₁,r1,r2,r3,r4,r5⟩
        have hρ:φ₁.ρ=φ.ρ:=r2.le.2
        refine⟨v',w₁,φ₁,r1,r2, ?_, ?_,rfl⟩
        ·simp only[VR]at r3 ⊢
         obtain⟨a',sl,ha,rfl⟩:=r3
         simp only[AR]at ha
         obtain⟨jnf,ja,rfl,rfl⟩:=ha
         refine⟨jnf,ja, ?_⟩
         rw[hρ,show(φ.ρ.int n).toNat+(m+(k+1))=L+(k+1)by omega]
         rfl
        ·refine r4.see hKq hKb.symm hKn.symm hKl (TT.get_put_same _ _ _ hnx) fun jnf o'' _ ho=> ?_
         obtain⟨d',e1,fr1,rfl,hc1⟩:=ho
         refine⟨by rw[hρ];exact q0,by rw[hρ];exact q1,d',e1,fr1,rfl, ?_⟩
         rw[hρ,←List.append_assoc]
         exact hc1
       have hget: ∀(T:TT VO),(∀q y,q≠b→T.get q=some y→(H.locs.put b (.cells (φ.ρ.lst j++tail) (some i.size) 0 et)).get q=some y)→True:=fun _ _=>trivial
       have hother: ∀q y,((H.locs.del b).put H.next (.list j n i.size (tail++new) (a2q et e))).get q=some y→q≠H.next→q≠b∧H.locs.get q=some y:=by
        intro q y hy hq
        rw[TT.get_put_other _ _ _ _ hq]at hy
        by_cases e:q=b
        ·subst e;rw[TT.get_del_same _ _ hblt]at hy;cases hy
        ·exact⟨e,by rwa [TT.get_del_other _ _ _ e]at hy⟩
       by_cases hin:L+(k+1)≤L+inf.slack
       ·refine back _ _ {H with locs:=((H.locs.put b (.cells (φ.ρ.lst j++tail) (some i.size) 0 et)).del b).put H.next (.cells ((φ.ρ.lst j++tail)++new) (some i.size) 0 (a2q et e)),next:=H.next+1} rfl rfl rfl rfl (TT.get_put_same _ _ _ hnx) (fun q y hy hq=> ?_) (b2n hS hnx hu hi hp (b:=b) (o:=0) hφ (fun t ht=>(a2d ht).2) hgS (len:=L) (cap:=L) (n:=k+1) hln hin (by omega) (by rw[Nat.zero_add];exact hll.symm) (Nat.zero_le _) hold m1 m2 (a2h h hx hn hsn) g6)
        obtain⟨h1,h2⟩:=hother q y hy hq
        rw[TT.get_put_other _ _ _ _ hq,TT.get_del_other _ _ _ h1,TT.get_put_other _ _ _ _ h1]
        exact h2
       ·have hb:(L+(k+1))*i.bytes≤140737488355328:=by
         have e1:((L+(k+1):Nat):Int)≤(H.base.ivl n).2+((m+(k+1):Nat):Int):=by omega
         have e2:((L+(k+1):Nat):Int)*(i.bytes:Int)≤((H.base.ivl n).2+((m+(k+1):Nat):Int))*(i.bytes:Int):=Int.mul_le_mul_of_nonneg_right e1 (Int.natCast_nonneg _)
         have e3:(((L+(k+1))*i.bytes:Nat):Int)≤140737488355328:=by rw[Int.natCast_mul];omega
         omega
        have hsm:L+(k+1)<1099511627776:=by omega
        have hof:(Builtin.firstCells i.size L (.slice (some ⟨inf.blk,inf.off,none⟩) L (L+inf.slack))).run P w.drew= .ok ⟨(c'.toList.drop inf.off).take (L*i.size)⟩ w.drew∧VRs φ (φ.ρ.lst j++tail) ((c'.toList.drop inf.off).take (L*i.size)):=by
         obtain⟨vs,f1,f2⟩:=a0U (P:=P) (a2k hS) (x:=.slice (some ⟨.loc b,0⟩) L L) (x':=.slice (some ⟨inf.blk,inf.off,none⟩) L (L+inf.slack)) (by simp only[VR];exact⟨_,inf.slack,⟨inf,hφ,rfl,rfl⟩,rfl⟩) (size:=i.size) (n:=L) (l:=φ.ρ.lst j++tail) hold
         have hsz:=hc.size
         rw[hll]at hsz
         have e1:vs=(c'.toList.drop inf.off).take (L*i.size):=by
          have h2:(Builtin.firstCells i.size L (.slice (some ⟨inf.blk,inf.off,none⟩) L (L+inf.slack))).run P w.drew= .ok ⟨(c'.toList.drop inf.off).take (L*i.size)⟩ w.drew:=by
           have hrun:=run_loadCells_list (P:=P) w.drew ⟨inf.blk,inf.off,none⟩ ((c'.toList.drop inf.off).take (L*i.size)) (fun q v hv=>by
            rw[List.getElem?_take]at hv
            split at hv
            ·rw[List.getElem?_drop,Array.getElem?_toList]at hv
             rw[Addr.add_lit]
             have:w.drew.heap[inf.blk]? =some (.cells c' e0 fr):=hw
             rw[cell?_at this]
             exact hv
            ·cases hv)
           have hlen:((c'.toList.drop inf.off).take (L*i.size)).length=L*i.size:=by simp;omega
           rw[hlen]at hrun
           exact hrun
          rw[f1]at h2
          simpa using h2
         rw[←e1]
         exact⟨f1,f2⟩
        obtain⟨n1,n2,n3⟩:=a0U (P:=P) (a2k h) hx hsn
        refine back _ _ (VH.alloc {H with locs:=H.locs.del b} (.cells ((φ.ρ.lst j++tail)++new) (some i.size) 0 (a2q et e))) rfl rfl ?_ ?_ ?_ (fun q y hy hq=> ?_) (a8u hS hnx hu hi hz1 hzs hp hln (base:=some ⟨inf.blk,inf.off,none⟩) (len:=L) (cap:=L+inf.slack) (n:=k+1) (by omega) hb hsm hof.1 n2 hof.2 n3 (H':={H with locs:=H.locs.del b}) (h.del hblt) rfl rfl 0 (a2q et e) (fun t ht=>(a2d ht).1.symm))
        ·rfl
        ·rfl
        ·exact TT.get_put_same _ _ _ hnx
        ·obtain⟨h1,h2⟩:=hother q y hy hq
         show((H.locs.del b).put H.next _).get q=some y
         rw[TT.get_put_other _ _ _ _ hq,TT.get_del_other _ _ _ h1]
         exact h2
      ·trivial
     ·trivial
    ·trivial
   ·trivial
  ·rename_i i z hp hi hz hn
   have hln:=a3G (P:=P) (w:=w) hx hn
   have hfc:=a9F (P:=P) (w:=w) hx hn i.size
   have hs':=hs
   simp only[VR]at hs'
   obtain⟨inf,hφ,rfl⟩:=hs'
   have hr:=a2A (P:=P) (ty:=ty) hu hi hp (base:=some ⟨inf.blk,inf.off,none⟩) (len:=(φ.ρ.int n).toNat+m) (cap:=(φ.ρ.int n).toNat+m+inf.slack) (n:=0) hln (by omega) (new:=[]) hfc (w₁:=w) rfl
   exact⟨_,w,φ,by simp only[Sem.run_bind,hr,Result.andThen_ok,Sem.run_pure,Nat.add_zero],.refl φ w,hs,h,rfl⟩
  ·trivial
 ·trivial
theorem b9q[Ext]{P:Program}{w0:World}{φ:Phi}{H:VH}{w:World}(h:HSim w0 φ H w){t e:TypeId}{ts:List TypeId}{ty:TypeId}{i:TypeInfo}{z:VV}(hu:P.underlying t=some (.slice e))(hp:a1o P ts.head? =true)(hi:P.info? e=some i)(hz:a1m P e=some z)(g4:z.cells.length=i.size)(hnx:H.next<top)
  {b:Nat} {o o₁:VO} {inf:Inf} {C new:List VV} {et:Option TypeId} {c':Array Value} {e0:TypeId} {fr:Nat×Nat} {L k:Nat} (hφ:φ b=some inf) (hg:H.locs.get b=some o) (hw:w.heap[inf.blk]? =some (.cells c' e0 fr)) (hc:CR φ inf C (some i.size) 0 et c' e0 fr) (hll:C.length=L*i.size)
  {x:VV} {x':Value} (hx:VR φ x x') (hn:a2P x=some (k+1)) (hsn:a0Q H i.size (k+1) x=some new) (g6:flat new=true) (hbb:(L+(k+1))*i.bytes≤140737488355328) (hsm:L+(k+1)<1099511627776) {v:VV}
  (hv: ∀φ₁:Phi,φ.le φ₁→ ∀jnf,φ₁ H.next=some jnf→VR φ₁ v (.slice (some ⟨jnf.blk,jnf.off,none⟩) (L+(k+1)) (L+(k+1)+jnf.slack)))
  (ho: ∀φ₁:Phi,φ.le φ₁→ ∀jnf o'',OR φ₁ jnf (.cells (C++new) (some i.size) 0 (a2q et e)) o''→OR φ₁ jnf o₁ o''):
  a5g w0 φ H w ((do pure (Next.value (←Builtin.append_ ⟨t::ts⟩ ty #[.slice (some ⟨inf.blk,inf.off,none⟩) L (L+inf.slack),x'])):Sem Next).run P w) (.val v {H with locs:=(H.locs.del b).put H.next o₁,next:=H.next+1}):=by
 have hblt:b<top:=Nat.lt_trans (h.lt hφ) hnx
 have hbn:b≠H.next:=Nat.ne_of_lt (h.lt hφ)
 have hS:HSim w0 φ {H with locs:=H.locs.put b (.cells C (some i.size) 0 et)} w:=h.put hg hφ ⟨rfl,rfl,rfl,rfl,hw,fun _ _=>rfl⟩ ⟨c',e0,fr,rfl,hc⟩
 have hgS:(H.locs.put b (.cells C (some i.size) 0 et)).get b=some (.cells C (some i.size) 0 et):=TT.get_put_same _ _ _ hblt
 have hold:a4k {H with locs:=H.locs.put b (.cells C (some i.size) 0 et)} ⟨.loc b,0⟩ (L*i.size)=some C:=by
  unfold a4k
  simp only[hgS]
  rw[←hll]
  exact a8C _
 have hln:=a3G (P:=P) (w:=w) hx hn
 obtain⟨z',hz1,hz2⟩: ∃z',i.zero=some z'∧emb z'=some z:=by
  have hz0:=hz
  unfold a1m at hz0
  rw[hi]at hz0
  simp only at hz0
  cases hiz:i.zero with
  |none=>rw[hiz]at hz0;cases hz0
  |some z'=>rw[hiz]at hz0;exact⟨z',rfl,hz0⟩
 have hzl:=a0M _ _ (a2F (a2z z' z hz2) (a6M φ z' z hz2))
 simp only[Array.length_toList]at hzl
 have hzs:z'.cells.size=i.size:=by rw[←hzl];exact g4
 obtain⟨new2,m1,m2⟩:=a0U (P:=P) h hx hsn
 have back: ∀(X:Out) (u:VV) (K:VH),X= .val u K→u= .slice (some ⟨.loc H.next,0⟩) (L+(k+1)) (L+(k+1))→K.base=H.base→K.next=H.next+1→K.locs.get H.next=some (.cells (C++new) (some i.size) 0 (a2q et e))→
   (∀q y,((H.locs.del b).put H.next o₁).get q=some y→q≠H.next→K.locs.get q=some y)→
   a5g w0 φ {H with locs:=H.locs.put b (.cells C (some i.size) 0 et)} w ((do pure (Next.value (←Builtin.append_ ⟨t::ts⟩ ty #[.slice (some ⟨inf.blk,inf.off,none⟩) L (L+inf.slack),x'])):Sem Next).run P w) X→
   a5g w0 φ H w ((do pure (Next.value (←Builtin.append_ ⟨t::ts⟩ ty #[.slice (some ⟨inf.blk,inf.off,none⟩) L (L+inf.slack),x'])):Sem Next).run P w) (.val v {H with locs:=(H.locs.del b).put H.next o₁,next:=H.next+1}):=by
  rintro X u K rfl rfl hKb hKn hKq hKl ⟨v',w₁,φ₁,r1,r2,r3,r4,r5⟩
  refine⟨v',w₁,φ₁,r1,r2, ?_, ?_,rfl⟩
  ·simp only[VR]at r3
   obtain⟨a',sl,ha,rfl⟩:=r3
   simp only[AR]at ha
   obtain⟨jnf,ja,rfl,rfl⟩:=ha
   exact hv φ₁ r2.le jnf ja
  ·exact r4.see hKq hKb.symm hKn.symm hKl (TT.get_put_same _ _ _ hnx) fun jnf o'' _ hoo=>ho φ₁ r2.le jnf o'' hoo
 have hother: ∀q y,((H.locs.del b).put H.next o₁).get q=some y→q≠H.next→q≠b∧H.locs.get q=some y:=by
  intro q y hy hq
  rw[TT.get_put_other _ _ _ _ hq]at hy
  by_cases e:q=b
  ·subst e;rw[TT.get_del_same _ _ hblt]at hy;cases hy
  ·exact⟨e,by rwa [TT.get_del_other _ _ _ e]at hy⟩
 by_cases hin:L+(k+1)≤L+inf.slack
 ·refine back _ _ {H with locs:=((H.locs.put b (.cells C (some i.size) 0 et)).del b).put H.next (.cells (C++new) (some i.size) 0 (a2q et e)),next:=H.next+1} rfl rfl rfl rfl (TT.get_put_same _ _ _ hnx) (fun q y hy hq=> ?_) (b2n hS hnx hu hi hp (b:=b) (o:=0) hφ (fun t ht=>(a2d ht).2) hgS (len:=L) (cap:=L) (n:=k+1) hln hin (by omega) (by rw[Nat.zero_add];exact hll.symm) (Nat.zero_le _) hold m1 m2 (a2h h hx hn hsn) g6)
  obtain⟨h1,h2⟩:=hother q y hy hq
  rw[TT.get_put_other _ _ _ _ hq,TT.get_del_other _ _ _ h1,TT.get_put_other _ _ _ _ h1]
  exact h2
 ·have hof:(Builtin.firstCells i.size L (.slice (some ⟨inf.blk,inf.off,none⟩) L (L+inf.slack))).run P w.drew= .ok ⟨(c'.toList.drop inf.off).take (L*i.size)⟩ w.drew∧VRs φ C ((c'.toList.drop inf.off).take (L*i.size)):=by
   obtain⟨vs,f1,f2⟩:=a0U (P:=P) (a2k hS) (x:=.slice (some ⟨.loc b,0⟩) L L) (x':=.slice (some ⟨inf.blk,inf.off,none⟩) L (L+inf.slack)) (by simp only[VR];exact⟨_,inf.slack,⟨inf,hφ,rfl,rfl⟩,rfl⟩) (size:=i.size) (n:=L) (l:=C) hold
   have hsz:=hc.size
   rw[hll]at hsz
   have e1:vs=(c'.toList.drop inf.off).take (L*i.size):=by
    have h2:(Builtin.firstCells i.size L (.slice (some ⟨inf.blk,inf.off,none⟩) L (L+inf.slack))).run P w.drew= .ok ⟨(c'.toList.drop inf.off).take (L*i.size)⟩ w.drew:=by
     have hrun:=run_loadCells_list (P:=P) w.drew ⟨inf.blk,inf.off,none⟩ ((c'.toList.drop inf.off).take (L*i.size)) (fun q v hv=>by
      rw[List.getElem?_take]at hv
      split at hv
      ·rw[List.getElem?_drop,Array.getElem?_toList]at hv
       rw[Addr.add_lit]
       have:w.drew.heap[inf.blk]? =some (.cells c' e0 fr):=hw
       rw[cell?_at this]
       exact hv
      ·cases hv)
     have hlen:((c'.toList.drop inf.off).take (L*i.size)).length=L*i.size:=by simp;omega
     rw[hlen]at hrun
     exact hrun
    rw[f1]at h2
    simpa using h2
   rw[←e1]
   exact⟨f1,f2⟩
  obtain⟨n1,n2,n3⟩:=a0U (P:=P) (a2k h) hx hsn
  refine back _ _ (VH.alloc {H with locs:=H.locs.del b} (.cells (C++new) (some i.size) 0 (a2q et e))) rfl rfl ?_ ?_ ?_ (fun q y hy hq=> ?_) (a8u hS hnx hu hi hz1 hzs hp hln (base:=some ⟨inf.blk,inf.off,none⟩) (len:=L) (cap:=L+inf.slack) (n:=k+1) (by omega) hbb hsm hof.1 n2 hof.2 n3 (H':={H with locs:=H.locs.del b}) (h.del hblt) rfl rfl 0 (a2q et e) (fun t ht=>(a2d ht).1.symm))
  ·rfl
  ·rfl
  ·exact TT.get_put_same _ _ _ hnx
  ·obtain⟨h1,h2⟩:=hother q y hy hq
   show((H.locs.del b).put H.next _).get q=some y
   rw[TT.get_put_other _ _ _ _ hq,TT.get_del_other _ _ _ h1]
   exact h2
def b9E:List VV→Option (List UInt8)
 | []=>some []
 |.int .u8 (.ofNat n)::l=>match Nat.blt n 256,b9E l with
  |true,some r=>some (UInt8.ofNat n::r)
  |_,_=>none
 |_::_=>none
theorem b0v: ∀{l:List VV} {bs:List UInt8},b9E l=some bs→l=bs.map fun b=>VV.int .u8 b.toNat
 | [],bs,h=>by simp only[b9E,Option.some.injEq]at h;subst h;rfl
 |x::l,bs,h=>by
  unfold b9E at h
  split at h
  ·rename_i heq
   cases heq
  ·rename_i n l' heq
   simp only[List.cons.injEq]at heq
   obtain⟨rfl,rfl⟩:=heq
   split at h
   ·rename_i r h1 h2
    simp only[Option.some.injEq]at h
    subst h
    have hn:n<256:=a0H h1
    rw[List.map_cons,←b0v h2]
    congr 2
    show Int.ofNat n=((UInt8.ofNat n).toNat:Int)
    rw[UInt8.toNat_ofNat']
    rw[Nat.mod_eq_of_lt hn]
    rfl
   ·cases h
  ·cases h
theorem strCells_eq: ∀(l:List UInt8),strCells l=l.map fun b=>VV.int .u8 b.toNat
 | []=>rfl
 |b::l=>by simp only[strCells,List.map_cons,strCells_eq l]
theorem a8Z: ∀(l:List UInt8),flat (strCells l)=true
 | []=>rfl
 |b::l=>by simp only[strCells,flat,b0c,a8Z l]
theorem b6X(s t:ByteArray):a0l (s++t)=a0l s++strCells t.data.toList:=by
 simp only[a0l,strCells_eq,ByteArray.data_append,Array.toList_append,List.map_append]
theorem a9y(s:ByteArray):(a0l s).length=s.size:=by
 simp only[a0l,List.length_map,Array.length_toList]
 rfl
def textOf(H:VH)(s:VV):Option (Nat×List VV×Option TypeId):=match s with
 |.tsl b ps=>match H.locs.get b with
  |some (.txt ps' et)=>match c2K ps ps' with
   |true=>some (b,ps,et)
   |false=>none
  |_=>none
 |.slice (some ⟨.loc b,0⟩) len cap=>match H.locs.get b with
  |some (.cells c (some 1) 0 et)=>match Nat.beq len cap,Nat.beq c.length len,b9E c with
   |true,true,some l=>some (b,[.string ⟨⟨l⟩⟩],et)
   |_,_,_=>none
  |_=>none
 |_=>none
theorem b6a[Ext]{w0:World}{φ:Phi}{H:VH}{w:World}(h:HSim w0 φ H w){s:VV}{s':Value}(hs:VR φ s s'){b:Nat}{ps:List VV}{et:Option TypeId}(ht:textOf H s=some (b,ps,et)):
  ∃inf u o c' e fr,φ b=some inf∧H.locs.get b=some o∧a1V φ.ρ ps=some u∧s'= .slice (some ⟨inf.blk,inf.off,none⟩) u.size (u.size+inf.slack)∧w.heap[inf.blk]? =some (.cells c' e fr)∧CR φ inf (a0l u) (some 1) 0 et c' e fr:=by
 unfold textOf at ht
 split at ht
 ·rename_i b' ps0
  split at ht
  ·rename_i ps' et' hg
   split at ht
   ·rename_i he
    simp only[Option.some.injEq,Prod.mk.injEq]at ht
    obtain⟨rfl,rfl,rfl⟩:=ht
    have:=a4x he
    subst this
    simp only[VR]at hs
    obtain⟨inf,u,h1,h2,_,rfl⟩:=hs
    obtain⟨inf',o',h3,h4,⟨u',h5,c',e,fr,rfl,h6⟩,_⟩:=h.live _ _ hg
    rw[h1]at h3
    cases h3
    rw[h2]at h5
    cases h5
    exact⟨inf,u,_,c',e,fr,h1,hg,h2,rfl,h4,h6⟩
   ·cases ht
  ·cases ht
 ·rename_i b' len cap
  split at ht
  ·rename_i c et' hg
   split at ht
   ·rename_i l e1 e2 e3
    simp only[Option.some.injEq,Prod.mk.injEq]at ht
    obtain⟨rfl,rfl,rfl⟩:=ht
    have e1:=Nat.eq_of_beq_eq_true e1
    have e2:=Nat.eq_of_beq_eq_true e2
    subst e1
    simp only[VR]at hs
    obtain⟨a',sl,⟨inf,h1,rfl,rfl⟩,rfl⟩:=hs
    obtain⟨inf',o',h3,h4,⟨c',e,fr,rfl,h6⟩,_⟩:=h.live _ _ hg
    rw[h1]at h3
    cases h3
    have hc:=b0v e3
    have hl:len=l.length:=by rw[←e2,hc,List.length_map]
    have hz:(⟨⟨l⟩⟩:ByteArray).size=len:=by rw[hl];rfl
    refine⟨inf,⟨⟨l⟩⟩,_,c',e,fr,h1,hg,a4X rfl, ?_,h4, ?_⟩
    ·rw[hz];rfl
    ·have:a0l ⟨⟨l⟩⟩=c:=hc.symm
     rw[this]
     exact h6
   ·cases ht
  ·cases ht
 ·cases ht
def b8X(H:VH)(x:VV):Option (List VV):=match pcs H.base x with
 |some ps=>some ps
 |none=>match a2P x with
  |some n=>match a0Q H 1 n x with
   |some l=>match b9E l with
    |some bs=>some [.string ⟨⟨bs⟩⟩]
    |none=>none
   |none=>none
  |none=>none
theorem b4b[Ext]{w0:World}{φ:Phi}{H:VH}{w:World}(h:HSim w0 φ H w){x:VV}{x':Value}(hx:VR φ x x'){ps:List VV}(ht:b8X H x=some ps):
  ∃u y,a1V φ.ρ ps=some u∧VR φ y x'∧a2P y=some u.size∧a0Q H 1 u.size y=some (strCells u.data.toList):=by
 unfold b8X at ht
 split at ht
 ·rename_i qs hq
  simp only[Option.some.injEq]at ht
  subst ht
  obtain⟨u,h1,rfl⟩:=b1p h.env hq hx
  exact⟨u,.string u,h1,by simp only[VR],rfl,by simp[a0Q]⟩
 ·split at ht
  ·rename_i n hn
   split at ht
   ·rename_i l hl
    split at ht
    ·rename_i bs hb
     simp only[Option.some.injEq]at ht
     subst ht
     have e:=b0v hb
     have hlen:=a2h h hx hn hl
     rw[Nat.mul_one]at hlen
     have hz:(⟨⟨bs⟩⟩:ByteArray).size=n:=by
      rw[←hlen,e,List.length_map]
      rfl
     refine⟨⟨⟨bs⟩⟩,x,a4X rfl,hx,by rw[hz];exact hn, ?_⟩
     rw[hz,hl,strCells_eq,e]
    ·cases ht
   ·cases ht
  ·cases ht
def b4h(E:Env):List VV→Bool
 | []=>false
 |p::l=>match p with
  |.string s=>match Nat.blt 0 s.size with
   |true=>true
   |false=>b4h E l
  |.sym i=>match a1n true (.sym i) E.tab with
   |some (.sint _ n)=>match decide (0<(E.ivl n).1)with
    |true=>true
    |false=>b4h E l
   |_=>b4h E l
  |_=>b4h E l
theorem a7S[Ext]{E:Env}{φ:Phi}{w0:World}(he:EnvOK E φ w0): ∀{ps:List VV},b4h E ps=true→ ∀{s:ByteArray},a1V φ.ρ ps=some s→0<s.size
 | [],h,_,_=>by cases h
 |p::l,h,s,hs=>by
  simp only[a1V]at hs
  split at hs
  ·rename_i u v e1 e2
   simp only[Option.some.injEq]at hs
   subst hs
   rw[ByteArray.size_append]
   have rest:b4h E l=true→0<u.size+v.size:=fun g=>by
    have:=a7S he g e2
    omega
   unfold b4h at h
   split at h
   ·split at h
    ·rename_i hb
     simp only[a4b,Option.some.injEq]at e1
     subst e1
     have:=a0H hb
     omega
    ·exact rest h
   ·split at h
    ·rename_i i k n hr
     split at h
     ·rename_i hd
      obtain⟨u',q,h1,⟨t,rfl,h2⟩,h3⟩:=he.tab _ (a0e hr)
      simp only[a0k,Option.some.injEq]at h1 h3
      simp only[a4b,h1,Option.some.injEq]at e1
      subst e1
      have:=(he.ivl n).1
      have hd:=of_decide_eq_true hd
      simp only[Value.int.injEq]at h3
      have:0<(t.size:Int):=by rw[←h2,←h3.2];omega
      omega
     ·exact rest h
    ·exact rest h
   ·exact rest h
  ·cases hs
def a8j(P:Program)(H:VH)(t:TypeId)(xt:Option TypeId)(s x:VV):Out:=
 match P.underlying t with
 |some (.slice e)=>match a1o P xt,P.info? e,a1m P e,textOf H s,b8X H x with
  |true,some i,some z,some (b,ps,et),some qs=>match Nat.beq i.size 1,Nat.beq i.bytes 1,Nat.beq z.cells.length i.size,Nat.blt H.next top,b4h H.base qs with
   |true,true,true,true,true=>match szT H.base ps,szT H.base qs with
    |some m,some n=>match decide (m+n<1099511627776)with
     |true=>.val (.tsl H.next (c9v ps qs)) {H with locs:=(H.locs.del b).put H.next (.txt (c9v ps qs) (a2q et e)),next:=H.next+1}
     |false=>.bad
    |_,_=>.bad
   |_,_,_,_,_=>.bad
  |_,_,_,_,_=>.bad
 |_=>.bad
theorem a6D[Ext]{P:Program}{w0:World}{φ:Phi}{H:VH}{w:World}(h:HSim w0 φ H w){t:TypeId}{ts:List TypeId}{ty:TypeId}{s x:VV}{s' x':Value}(hs:VR φ s s')(hx:VR φ x x'):
  a5g w0 φ H w ((do pure (Next.value (←Builtin.append_ ⟨t::ts⟩ ty #[s',x'])):Sem Next).run P w) (a8j P H t ts.head? s x):=by
 unfold a8j
 split
 ·rename_i e hu
  split
  ·rename_i i z b ps et qs hp hi hz ht hq
   split
   ·rename_i g1 g2 g3 g4 g5
    split
    ·rename_i m n h3 h4
     split
     ·rename_i hd
      have g1:=Nat.eq_of_beq_eq_true g1
      have g2:=Nat.eq_of_beq_eq_true g2
      have g3:=Nat.eq_of_beq_eq_true g3
      have hd:=of_decide_eq_true hd
      obtain⟨inf,u,o,c',e0,fr,k1,k2,k3,rfl,k5,k6⟩:=b6a h hs ht
      obtain⟨v,y,q1,q2,q3,q4⟩:=b4b h hx hq
      have b1:=a4Y h.env h3 k3
      have b2:=a4Y h.env h4 q1
      have b3:=a7S h.env g5 q1
      obtain⟨k,hk⟩: ∃k,v.size=k+1:=⟨v.size-1,by omega⟩
      have hcat:=b2k k3 q1
      rw[hk]at q3 q4
      have q5:a0Q H i.size (k+1) y=some (strCells v.data.toList):=by rw[g1];exact q4
      have k7:CR φ inf (a0l u) (some i.size) 0 et c' e0 fr:=by rw[g1];exact k6
      refine b9q (ty:=ty) h hu hp hi hz g3 (a0H g4) k1 k2 k5 k7 (L:=u.size) (k:=k) ?_ q2 q3 q5 (a8Z _) ?_ ?_ ?_ ?_
      ·rw[a9y,g1,Nat.mul_one]
      ·rw[g2,Nat.mul_one];omega
      ·omega
      ·intro φ₁ hle jnf hj
       simp only[VR]
       refine⟨jnf,u++v,hj,by rw[hle.2];exact hcat,by rw[ByteArray.size_append];omega, ?_⟩
       rw[ByteArray.size_append,hk]
      ·rintro φ₁ hle jnf o'' ⟨d',e1,fr1,rfl,hc1⟩
       refine⟨u++v,by rw[hle.2];exact hcat,d',e1,fr1,rfl, ?_⟩
       rw[b6X]
       rw[g1]at hc1
       exact hc1
     ·trivial
    ·trivial
   ·trivial
  ·trivial
 ·trivial
def c5L(H:VH):VV→Bool
 |.slice none 0 0=>true
 |.slice (some a) 0 0=>a4Q H a.b
 |_=>false
theorem b7J[Ext]{w0:World}{φ:Phi}{H:VH}{w:World}(h:HSim w0 φ H w){s:VV}{s':Value}(hs:VR φ s s')(hf:c5L H s=true): ∃base,s'= .slice base 0 0:=by
 unfold c5L at hf
 split at hf
 ·simp only[VR]at hs
  exact⟨_,hs⟩
 ·simp only[VR]at hs
  obtain⟨a',sl,ha,rfl⟩:=hs
  have:=a2j h ha hf
  subst this
  exact⟨_,rfl⟩
 ·cases hf
def b2X(P:Program)(H:VH)(t:TypeId)(xt:Option TypeId)(s x:VV):Out:=
 match P.underlying t with
 |some (.slice e)=>match a1o P xt,P.info? e,a1m P e,a3S x H.base.tab with
  |true,some i,some z,some (j,n,sz)=>match c5L H s,Nat.beq sz i.size,Nat.beq z.cells.length i.size,Nat.blt H.next top with
   |true,true,true,true=>match decide ((H.base.ivl n).2≤0)with
    |true=>.val s H
    |false=>match decide (1≤(H.base.ivl n).1),decide ((H.base.ivl n).2*(i.bytes:Int)≤140737488355328),decide ((H.base.ivl n).2<1099511627776)with
     |true,true,true=>.val (.lsl H.next n 0) (H.alloc (.list j n sz [] (some e)))
     |_,_,_=>.bad
   |_,_,_,_=>.bad
  |_,_,_,_=>.bad
 |_=>.bad
theorem c0p{w0:World}{ρ:Rho}{ad:Addr}: ∀(l:List VV) (q:Nat),(∀k y,l[k]? =some y→ ∃v,w0.cell? (ad.add (q+k))=some v∧GV ρ y v)→ ∃vs,(∀f,VRs ⟨f,ρ⟩ l vs)∧vs.length=l.length∧ ∀k v,vs[k]? =some v→w0.cell? (ad.add (q+k))=some v
 | [],q,_=>⟨[],fun f=>by simp[VRs],rfl,fun k v h=>by simp at h⟩
 |y::l,q,h=>by
  obtain⟨v,h1,h2⟩:=h 0 y rfl
  obtain⟨vs,k1,k2,k3⟩:=c0p (ad:=ad) l (q+1) fun k z hz=>by
   obtain⟨u,u1,u2⟩:=h (k+1) z (by simpa using hz)
   exact⟨u,by rw[show q+1+k=q+(k+1)by omega];exact u1,u2⟩
  refine⟨v::vs,fun f=> ?_,by simp[k2],fun k u hu=> ?_⟩
  ·simp only[VRs]
   exact⟨v,vs,rfl,h2.2 f,k1 f⟩
  ·cases k with
   |zero=>
    simp only[List.getElem?_cons_zero,Option.some.injEq]at hu
    subst hu
    exact h1
   |succ k=>
    have:=k3 k u (by simpa using hu)
    rwa [show q+1+k=q+(k+1)by omega]at this
theorem b2W[Ext]{P:Program}{w0:World}{φ:Phi}{H:VH}{w:World}(h:HSim w0 φ H w){t:TypeId}{ts:List TypeId}{ty:TypeId}{s x:VV}{s' x':Value}(hs:VR φ s s')(hx:VR φ x x'):
  a5g w0 φ H w ((do pure (Next.value (←Builtin.append_ ⟨t::ts⟩ ty #[s',x'])):Sem Next).run P w) (b2X P H t ts.head? s x):=by
 unfold b2X
 split
 ·rename_i e hu
  split
  ·rename_i i z j n sz hp hi hz hf
   split
   ·rename_i f1 f2 f3 f4
    obtain⟨base,rfl⟩:=b7J h hs f1
    have f2:=Nat.eq_of_beq_eq_true f2
    subst f2
    have f4:=a0H f4
    obtain⟨a,l,c,m1,m2,m3,m4⟩:=h.env.tab _ (a1f hf)
    have ex:=a0r m1 hx
    subst ex
    have hv:=h.env.ivl n
    have hln:(Builtin.lenOf (.slice a l c)).run P w= .ok l w:=rfl
    cases hd:decide ((H.base.ivl n).2≤0)with
    |true=>
     have hd:=of_decide_eq_true hd
     have l0:l=0:=by omega
     subst l0
     have hfc:(Builtin.firstCells i.size 0 (.slice a 0 c)).run P w= .ok ⟨[]⟩ w:=by
      cases a with
      |none=>rfl
      |some ad=>simp[Builtin.firstCells,loadCells,loadCellsFrom]
     have hr:=a2A (P:=P) (ty:=ty) hu hi hp (base:=base) (len:=0) (cap:=0) (n:=0) hln (by omega) (new:=[]) hfc (w₁:=w) (by cases base<;>rfl)
     exact⟨.slice base 0 0,w,φ,by simp only[Sem.run_bind,hr,Result.andThen_ok,Sem.run_pure,Nat.add_zero],.refl φ w,hs,h,rfl⟩
    |false=>
     simp only
     split
     ·rename_i g1 g2 g3
      have g1:=of_decide_eq_true g1
      have g2:=of_decide_eq_true g2
      have g3:=of_decide_eq_true g3
      have hl1:0<l:=by omega
      obtain⟨ad,rfl,sp,hb,hc⟩:=m4 hl1
      obtain⟨z',hz1,hz2⟩: ∃z',i.zero=some z'∧emb z'=some z:=by
       have hz0:=hz
       unfold a1m at hz0
       rw[hi]at hz0
       simp only at hz0
       cases hiz:i.zero with
       |none=>rw[hiz]at hz0;cases hz0
       |some z'=>rw[hiz]at hz0;exact⟨z',rfl,hz0⟩
      have hzl:=a0M _ _ (a2F (a2z z' z hz2) (a6M φ z' z hz2))
      simp only[Array.length_toList]at hzl
      have hbz':z'.cells.size=i.size:=by rw[←hzl];exact Nat.eq_of_beq_eq_true f3
      obtain⟨vs,v1,v2,v3⟩:=c0p (ρ:=φ.ρ) (w0:=w0) (ad:=ad) (φ.ρ.lst j) 0 fun k y hy=>by
       obtain⟨v,q1,q2⟩:=hc k y hy
       exact⟨v,by rw[Nat.zero_add];exact q1,q2⟩
      have hcell: ∀k v,vs[k]? =some v→w.drew.cell? (ad.add k)=some v:=fun k v hk=>by
       have q:=v3 k v hk
       rw[Nat.zero_add]at q
       rw[c5v (a2k h) q (by obtain⟨b,o,spt⟩:=ad;simp only at sp;subst sp;rw[Addr.add_lit];exact hb)]
       exact q
      have hrun:=run_loadCells_list (P:=P) w.drew ad vs hcell
      rw[v2,m3]at hrun
      have hbb:(0+l)*i.bytes≤140737488355328:=by
       rw[Nat.zero_add]
       have q1:((l*i.bytes:Nat):Int)≤(H.base.ivl n).2*(i.bytes:Int):=by
        rw[Int.natCast_mul,←m2]
        exact Int.mul_le_mul_of_nonneg_right hv.2 (Int.natCast_nonneg _)
       omega
      have hold:(Builtin.firstCells i.size 0 (.slice base 0 0)).run P w.drew= .ok ⟨[]⟩ w.drew:=by
       cases base with
       |none=>rfl
       |some ad=>simp[Builtin.firstCells,loadCells,loadCellsFrom]
      have key:=a8u (ty:=ty) h f4 hu hi hz1 hbz' hp hln (cap:=0) (by omega) hbb (by omega) (old:=[]) (old':=[]) hold hrun (by simp[VRs]) (v1 φ.f) h rfl rfl 0 (some e) (fun t ht=>by cases ht;rfl)
      obtain⟨v',w₁,φ₁,k1,k2,k3,k4,k5⟩:=key
      have hρ:φ₁.ρ=φ.ρ:=k2.le.2
      refine⟨v',w₁,φ₁,k1,k2, ?_, ?_,rfl⟩
      ·simp only[VR]at k3 ⊢
       obtain⟨a',sl,ha,rfl⟩:=k3
       unfold AR at ha
       obtain⟨inf,q1,rfl,rfl⟩:=ha
       refine⟨inf,q1, ?_⟩
       rw[hρ,m2]
       simp
      ·have hnx:=f4
       refine k4.see (q:=H.next) (TT.get_put_same _ _ _ hnx) rfl rfl (fun q o hq hne=> ?_) (TT.get_put_same _ _ _ hnx) fun inf o' hφ' ho=> ?_
       ·show(H.locs.put H.next _).get q=_
        rw[TT.get_put_other _ _ _ _ hne]
        have hq':(H.locs.put H.next (.list j n i.size [] (some e))).get q=some o:=hq
        rwa [TT.get_put_other _ _ _ _ hne]at hq'
       ·obtain⟨c',e',fr,rfl,hcr⟩:=ho
        refine⟨by rw[hρ];omega,by rw[hρ,m2];simpa using m3,c',e',fr,rfl, ?_⟩
        rw[hρ,List.append_nil]
        exact hcr
     ·trivial
   ·trivial
  ·trivial
 ·trivial
end
end Go.Ev
namespace Go.Ev
noncomputable section
def c5j(P:Program)(H:VH)(t:TypeId)(d x:VV):Out:=
 match P.underlying t with
 |some (.slice e)=>match P.info? e,a2P x with
  |some i,some n=>match d with
   |.slice (some a) m _=>match a0Q H i.size (Nat.min n m) x with
    |some l=>match a8W H a l with
     |some H₁=>.val (.int .i64 (Nat.min n m)) H₁
     |none=>.bad
    |none=>.bad
   |.slice none 0 _=>match a0Q H i.size 0 x with
    |some _=>.val (.int .i64 (Nat.min n 0)) H
    |none=>.bad
   |.sliceE=>match a0Q H i.size 0 x with
    |some []=>.val (.int .i64 (Nat.min n 0)) H
    |_=>.bad
   |_=>.bad
  |_,_=>.bad
 |_=>.bad
theorem b7b[Ext]{P:Program}{w0:World}{φ:Phi}{H:VH}{w:World}(h:HSim w0 φ H w){t:TypeId}{ts:List TypeId}{ty:TypeId}{d x:VV}{d' x':Value}(hd:VR φ d d')(hx:VR φ x x'):
  a5g w0 φ H w ((do pure (Next.value (←Builtin.copy_ ⟨t::ts⟩ ty #[d',x'])):Sem Next).run P w) (c5j P H t d x):=by
 unfold c5j
 cases hu:P.underlying t with
 |none=>trivial
 |some dd=>cases dd with
  |slice e=>
   simp only
   cases hi:P.info? e with
   |none=>trivial
   |some i=>cases hn:a2P x with
    |none=>trivial
    |some n=>
     simp only
     have hln:=a3G (P:=P) (w:=w) hx hn
     have h0:(⟨t::ts⟩:Array TypeId)[0]? =some t:=by simp
     cases d with
     |slice p m c=>cases p with
      |none=>cases m with
       |zero=>
        simp only
        cases hs:a0Q H i.size 0 x with
        |none=>trivial
        |some l=>
         obtain⟨l',f1,f2⟩:=a0U (P:=P) h hx hs
         simp only[VR]at hd
         subst hd
         refine⟨.int .i64 (Nat.min n 0),w,φ, ?_,.refl φ w,by simp[VR],h,rfl⟩
         simp[Builtin.copy_,run_underlying hu,hln,a0J hi,a1N hi,f1,goInt]
       |succ m=>trivial
      |some a=>
       simp only
       cases hs:a0Q H i.size (Nat.min n m) x with
       |none=>trivial
       |some l=>
        simp only
        cases hst:a8W H a l with
        |none=>trivial
        |some H₁=>
         obtain⟨l',f1,f2⟩:=a0U (P:=P) h hx hs
         simp only[VR]at hd
         obtain⟨a',s,ha,rfl⟩:=hd
         obtain⟨w₁,g1,g2,⟨bi,binf,bo,hb1,hb2⟩,g4⟩:=a4I (P:=P) h ha hst f2
         refine⟨.int .i64 (Nat.min n m),w₁,φ, ?_,St.upd hb1 hb2,by simp[VR],g2,g4⟩
         simp[Builtin.copy_,run_underlying hu,hln,a0J hi,a1N hi,f1,goInt,g1]
     |sliceE=>
      simp only
      cases hs:a0Q H i.size 0 x with
      |none=>trivial
      |some l=>cases l with
       |cons y l=>trivial
       |nil=>
        obtain⟨l',f1,f2⟩:=a0U (P:=P) h hx hs
        simp only[VRs]at f2
        subst f2
        simp only[VR]at hd
        obtain⟨a',c,rfl⟩:=hd
        refine⟨.int .i64 (Nat.min n 0),w,φ, ?_,.refl φ w,by simp[VR],h,rfl⟩
        simp[Builtin.copy_,run_underlying hu,hln,a0J hi,a1N hi,f1,goInt,storeCells]
     |_=>trivial
  |_=>trivial
def b9c(P:Program)(H:VH)(t:TypeId)(x:VV):Out:=
 match x with
 |.slice _ 0 _|.sliceE|.map none=>.val (.tuple []) H
 |.slice (some a) n _=>match P.underlying t with
  |some (.slice e)=>match a1m P e with
   |some z=>match a8W H a (rep n z.cells)with
    |some H₁=>.val (.tuple []) H₁
    |none=>.bad
   |none=>.bad
  |_=>.bad
 |_=>.bad
theorem b6C(φ:Phi):VR φ (.tuple []) (.tuple #[]):=by simp only[VR];exact⟨[],by simp[VRs],rfl⟩
theorem b5j[Ext]{P:Program}{w0:World}{φ:Phi}{H:VH}{w:World}(h:HSim w0 φ H w){t:TypeId}{d:TypeDesc}(hud:P.underlying t=some d){ts:List TypeId}{ty:TypeId}{x:VV}{x':Value}(hx:VR φ x x'):
  a5g w0 φ H w ((do pure (Next.value (←Builtin.clear_ ⟨t::ts⟩ ty #[x'])):Sem Next).run P w) (b9c P H t x):=by
 unfold b9c
 have triv:(∃a c,x'= .slice a 0 c)∨x'= .map none→a5g w0 φ H w ((do pure (Next.value (←Builtin.clear_ ⟨t::ts⟩ ty #[x'])):Sem Next).run P w) (.val (.tuple []) H):=by
  intro hh
  refine⟨.tuple #[],w,φ, ?_,.refl φ w,b6C φ,h,rfl⟩
  rcases hh with⟨a,c,rfl⟩|rfl
  ·cases a<;>simp[Builtin.clear_,run_underlying hud]
  ·simp[Builtin.clear_,run_underlying hud]
 cases x with
 |slice p n c=>
  cases n with
  |zero=>
   refine triv (.inl ?_)
   cases p<;>simp only[VR]at hx<;>(first|exact⟨_,_,hx⟩|(obtain⟨_,_,_,rfl⟩:=hx;exact⟨_,_,rfl⟩))
  |succ n=>cases p with
   |none=>trivial
   |some a=>
    simp only
    cases hu:P.underlying t with
    |none=>trivial
    |some dd=>cases dd with
     |slice e=>
      simp only
      cases hz:a1m P e with
      |none=>trivial
      |some z=>
       simp only
       cases hst:a8W H a (rep (n+1) z.cells)with
       |none=>trivial
       |some H₁=>
        simp only[VR]at hx
        obtain⟨a',s,ha,rfl⟩:=hx
        obtain⟨z',z1,z2⟩:=a5q (P:=P) (w:=w) hz φ
        have zc:=a2F (a3F hz) z2
        have hl:=a0M _ _ zc
        simp only[Array.length_toList]at hl
        have hr:=a8J zc (n+1)
        obtain⟨w₁,g1,g2,⟨bi,binf,bo,hb1,hb2⟩,g4⟩:=a4I (P:=P) h ha hst hr
        refine⟨.tuple #[],w₁,φ, ?_,St.upd hb1 hb2,b6C φ,g2,g4⟩
        rw[hl]at g1
        have hzc:Builtin.zeroCells z'.cells (n+1)=(Array.range ((n+1)*z'.cells.size)).map (fun i=>z'.cells[i%z'.cells.size]!):=rfl
        rw[←hzc]at g1
        simp[Builtin.clear_,run_underlying hu,z1,g1]
     |_=>trivial
 |sliceE=>refine triv (.inl ?_);simp only[VR]at hx;obtain⟨_,_,rfl⟩:=hx;exact⟨_,_,rfl⟩
 |map b=>cases b with
  |none=>simp only[VR]at hx;exact triv (.inr hx)
  |some b=>trivial
 |_=>trivial
def d3K(a b:Nat):Nat:=match Nat.ble a b with|true=>b|false=>a
theorem c4t(a b:Nat):a≤d3K a b:=by
 unfold d3K;split
 ·exact Nat.le_of_ble_eq_true (by assumption)
 ·exact Nat.le_refl _
theorem c2a(a b:Nat):b≤d3K a b:=by
 unfold d3K;split
 ·exact Nat.le_refl _
 ·rename_i h
  rcases Nat.lt_or_ge b a with h1|h1
  ·omega
  ·rw[Nat.ble_eq_true_of_le h1]at h;cases h
def b7U(P:Program)(H:VH)(t:TypeId)(p n:VV):Out:=
 match n with
 |.int .i64 (.ofNat 0)=>match p with
  |.ptr _=>.val (.string .empty) H
  |_=>.bad
 |.int .i64 (.ofNat (.succ m))=>match P.underlying t,p with
  |some (.pointer e),.ptr (some ⟨.loc i,o⟩)=>match P.info? e,H.locs.get i with
   |some j,some (.cells c g ro (some e'))=>match Nat.beq e e',Nat.beq j.size 1,Nat.blt (.succ m) 9223372036854775807,a4k H ⟨.loc i,o⟩ (.succ m)with
    |true,true,true,some l=>match bytesOf l with
     |some b=>.val (.string ⟨⟨a1r b⟩⟩) {H with locs:=H.locs.put i (.cells c g (d3K ro (o+ .succ m)) (some e'))}
     |none=>.bad
    |_,_,_,_=>.bad
   |_,_=>.bad
  |_,_=>.bad
 |_=>.bad
theorem b9F{P:Program}{e:TypeId}(hc:P.cellsOf e=1)(count off n:Nat)(hn:off+n≤count):liesAt P P.depth e count off e n=true:=by
 have hd:P.depth=(2*(P.types.size+Made.depth)+1)+1:=rfl
 rw[hd]
 simp only[liesAt,Bool.or_eq_true]
 left
 rw[hd]
 simp[rowAt,hc,hn,sameLayout,Nat.mod_one]
theorem b6i{P:Program}{w:World}: ∀(l:List Int) (a:Addr) (acc:ByteArray),a.spot=none→(∀j x,l[j]? =some x→w.cell? (a.add j)=some (.int .u8 x))→(loadBytes a acc l.length).run P w= .ok ⟨⟨acc.data.toList++a1r l⟩⟩ w
 | [],a,acc,_,_=>by simp[loadBytes,a1r]
 |x::l,a,acc,hs,h=>by
  have h0:w.cell? a=some (.int .u8 x):=by
   have:=h 0 x rfl
   rwa [Addr.add_none a hs,Nat.add_zero,show(⟨a.block,a.off,none⟩:Addr)=a by cases a;simp_all]at this
  have ih:=b6i (P:=P) l (a.add 1) (acc.push x.toNat.toUInt8) (by rw[Addr.add_none a hs]) (fun j y hy=>by
   have:=h (j+1) y (by simpa using hy)
   rw[Addr.add_none a hs]at this
   rw[Addr.add_none a hs,Addr.add_none _ rfl]
   simpa[Nat.add_comm,Nat.add_left_comm,Nat.add_assoc]using this)
  simp only[List.length_cons,loadBytes,Sem.run_bind,run_load,h0,Result.andThen]
  rw[ih]
  congr 1
  simp[ByteArray.push,a1r,UInt8.ofNat]
theorem c2h{w:World}{b off n:Nat}{c:Array Value}{e:TypeId}{fr:Nat×Nat}(hw:w.heap[b]? =some (.cells c e fr))(hn:n≠0):
  ∃fr',Upd w (w.freeze ⟨b,off,none⟩ n) b (.cells c e fr')∧(∀m,fr.2≤m→off+n≤m→fr'.2≤m):=by
 obtain⟨lo,hi⟩:=fr
 have hlt:=(Array.getElem?_eq_some_iff.1 hw).1
 refine⟨if lo==hi then(off,off+n)else(min lo off,max hi (off+n)),⟨?_, ?_, ?_, ?_, ?_, ?_⟩, ?_⟩
 ·simp[World.freeze,hn]
 ·simp[World.freeze,hn]
 ·simp[World.freeze,hn]
 ·simp[World.freeze,hn]
 ·simp[World.freeze,hn,Array.getElem?_modify,hw]
 ·intro k hk
  simp only[World.freeze,hn,if_false,Array.getElem?_modify]
  rw[if_neg (fun e=>hk e.symm)]
 ·intro m h1 h2
  simp only at h1
  split
  ·exact h2
  ·simp only;omega
theorem b0O[Ext]{P:Program}{w0:World}{φ:Phi}{H:VH}{w:World}(h:HSim w0 φ H w){t t2 ty:TypeId}{x y:VV}{x' y':Value}(hx:VR φ x x')(hy:VR φ y y'):
  a5g w0 φ H w ((do pure (Next.value (←Builtin.unsafeString_ #[t,t2] ty #[x',y'])):Sem Next).run P w) (b7U P H t x y):=by
 unfold b7U
 split
 ·split
  ·rename_i q
   simp only[VR]at hy
   subst hy
   have hp: ∃q',x'= .pointer q':=by
    cases q with
    |none=>simp only[VR]at hx;exact⟨_,hx⟩
    |some a=>simp only[VR]at hx;obtain⟨_,_,_,rfl⟩:=hx;exact⟨_,rfl⟩
   obtain⟨q',rfl⟩:=hp
   have hr:=Lib.run_unsafeString_none (P:=P) w t t2 ty q'
   exact⟨.string .empty,w,φ,by simp only[Sem.run_bind,Int.ofNat_eq_natCast,Int.natCast_zero,hr,Result.andThen_ok,Sem.run_pure],.refl φ w,by simp[VR],h,rfl⟩
  ·trivial
 ·rename_i m
  split
  ·rename_i e i o hu
   split
   ·rename_i j c g ro e' hj hg
    split
    ·rename_i l b1 b2 b3 hl
     split
     ·rename_i b hb
      have he:e=e':=Nat.eq_of_beq_eq_true b1
      subst he
      have hsz1:j.size=1:=Nat.eq_of_beq_eq_true b2
      have hmax:=a0H b3
      simp only[VR]at hx hy
      subst hy
      obtain⟨a',s,ha,rfl⟩:=hx
      obtain⟨vs,v1,v2,_,v4⟩:=a2w h ha hl
      have hvs:=a5O _ _ _ v1 hb
      simp only[AR]at ha
      obtain⟨inf,hφ,rfl,_⟩:=ha
      obtain⟨inf',o',hφ',hw,⟨c',e2,fr,rfl,hc⟩,hbase⟩:=h.live i _ hg
      rw[hφ]at hφ';cases hφ'
      obtain⟨rfl,_⟩:=hc.typ e rfl
      have hbl:b.length=m.succ:=by rw[←v2,hvs];simp
      have hcl:P.cellsOf e2=1:=by simp[Program.cellsOf,hj,hsz1]
      have hcs:=hc.size
      have hlen:o+m.succ≤c.length:=by
       unfold a4k at hl
       simp only[hg]at hl
       obtain⟨k1,_⟩:=a4u _ _ _ hl
       rw[a1q]at k1
       simp only[List.length_drop]at k1
       omega
      have hlies:=b9F (P:=P) hcl (c'.size/P.cellsOf e2) (inf.off+o) m.succ (by rw[hcl,Nat.div_one];omega)
      have hlb:=b6i (P:=P) (w:=w) b ⟨inf.blk,inf.off+o,none⟩ .empty rfl (fun k z hz=>v4 k _ (by rw[hvs];simp[hz]))
      rw[hbl]at hlb
      obtain⟨fr',u1,u2⟩:=c2h (off:=inf.off+o) (n:=m.succ) hw (by omega)
      have hrun:(Builtin.unsafeString_ #[t,t2] ty #[.pointer (some ⟨inf.blk,inf.off+o,none⟩),.int .i64 (Int.ofNat m.succ)]).run P w= .ok (.string ⟨⟨a1r b⟩⟩) (w.freeze ⟨inf.blk,inf.off+o,none⟩ m.succ):=by
       obtain⟨m1,m2,m3,hdef⟩: ∃(m1 m2:Sem PUnit) (m3:Sem Value),Builtin.unsafeString_ #[t,t2] ty #[.pointer (some ⟨inf.blk,inf.off+o,none⟩),.int .i64 (Int.ofNat m.succ)]=
         (do
          let n←asInt (.int .i64 (Int.ofNat m.succ))
          if n<0 then m1
          if n>IntKind.i64.max then m2
          if n=0 then pure (.string .empty)
          else if←variablesAt ⟨inf.blk,inf.off+o,none⟩ (←elemOf t) n.toNat then do
           let s←loadBytes ⟨inf.blk,inf.off+o,none⟩ .empty n.toNat
           freeze ⟨inf.blk,inf.off+o,none⟩ n.toNat
           pure (.string s)
          else m3):=⟨_,_,_,rfl⟩
       rw[hdef]
       have hmx:IntKind.i64.max=9223372036854775807:=rfl
       have hneg: ¬((m.succ:Nat):Int)<0:=by omega
       have h63: ¬(9223372036854775807:Int)<((m.succ:Nat):Int):=by omega
       have hn0: ¬((m.succ:Nat):Int)=0:=by omega
       have hsh:w.shape? inf.blk=some (e2,c'.size):=by simp[World.shape?,hw]
       have hel:(elemOf t).run P w= .ok e2 w:=by simp[elemOf,run_underlying hu]
       have hva:(variablesAt ⟨inf.blk,inf.off+o,none⟩ e2 m.succ).run P w= .ok true w:=by simp[variablesAt,hsh,hlies]
       have htn:(Int.ofNat m.succ).toNat=m.succ:=rfl
       simp only[asInt,asIntOf,Sem.run_bind,Sem.run_pure,Result.andThen_ok,Int.ofNat_eq_natCast,hneg,hmx,h63,hn0,if_false,gt_iff_lt,hel,Int.toNat_natCast,hva,if_true,hlb]
       rfl
      refine⟨.string ⟨⟨a1r b⟩⟩,_,φ,by simp only[Sem.run_bind,hrun,Result.andThen_ok,Sem.run_pure],St.upd hφ u1,by simp[VR],h.put hg hφ u1 ⟨c',e2,fr',rfl,⟨hc.size,hc.fixed,hc.cell, ?_,hc.typ⟩⟩,rfl⟩
      refine u2 _ ?_ ?_
      ·have:=hc.low;have:=c4t ro (o+m.succ);omega
      ·have:=c2a ro (o+m.succ);omega
     ·trivial
    ·trivial
   ·trivial
  ·trivial
 ·trivial
def a4B(P:Program):Prop:= ∀(g:FuncId) (fn:Func),P.funcs[g]? =some fn→(fn.name== "runtime.NumGoroutine")=false
def c8R(H:VH)(fn:Func)(args:List VV):Out:=
 match fn.name== "internal/abi.NoEscape",fn.origin== "",args with
 |true,true,[v]=>.val v H
 |_,_,_=>.bad
def a7f(P:Program)(H:VH)(g:FuncId)(args:List VV):Out:=
 match P.funcs[g]? with
 |some fn=>match fn.body with
  |some _=>.enter g args
  |none=>c8R H fn args
 |none=>.bad
theorem b5T{fn:Func}(hn:fn.name= "internal/abi.NoEscape") (ho:fn.origin= ""):Extern.findNext fn=none∧Extern.find fn=some Extern.AbiNoEscape.same:=by
 have h1:Extern.allNextRows.lookup "internal/abi.NoEscape" =none:=by kernel_rfl
 have h2:Extern.allNextRows.lookup "" =none:=by kernel_rfl
 have h3:Extern.allGenericRows.lookup "internal/abi.NoEscape" =none:=by kernel_rfl
 have h4:Extern.allTypedRows.lookup "internal/abi.NoEscape" =none:=by kernel_rfl
 have h5:Extern.allRows.lookup "internal/abi.NoEscape" =some Extern.AbiNoEscape.same:=by kernel_rfl
 constructor
 ·simp only[Extern.findNext,hn,ho,h1,h2];rfl
 ·simp only[Extern.find,hn,h3,h4,h5];rfl
theorem b9Z[Ext]{P:Program}(hng:a4B P){w0:World}{φ:Phi}{H:VH}{w:World}(hs:HSim w0 φ H w){g:FuncId}{fn:Func}(hf:P.funcs[g]? =some fn)(hb:fn.body=none){args:List VV}{args':List Value}(ha:VRs φ args args'):
  a5g w0 φ H w ((callFunc g ⟨args'⟩).run P w) (c8R H fn args):=by
 unfold c8R
 split
 ·rename_i v h1 h2
  obtain⟨e1,e2⟩:=b5T (eq_of_beq h1) (eq_of_beq h2)
  simp only[VRs]at ha
  obtain⟨v',l,rfl,hv,rfl⟩:=ha
  rw[run_callFunc_extern hf (hng g fn hf) (by simp[hb]) e1 e2]
  exact⟨v',w,φ,rfl,.refl φ w,hv,hs,rfl⟩
 ·trivial
theorem a5J[Ext]{P:Program}(hng:a4B P){w0:World}{φ:Phi}{H:VH}{w:World}(hs:HSim w0 φ H w){g:FuncId}{args:List VV}{args':List Value}(ha:VRs φ args args'):
  a5g w0 φ H w ((callFunc g ⟨args'⟩).run P w) (a7f P H g args):=by
 unfold a7f
 cases hf:P.funcs[g]? with
 |none=>trivial
 |some fn=>
  simp only
  cases hb:fn.body with
  |none=>exact b9Z hng hs hf hb ha
  |some c=>
   simp only
   refine⟨args', ?_,ha⟩
   have hn:=hng g fn hf
   simp only[callFunc,Sem.run_bind,run_program,Result.andThen_ok,hf,hn,hb]
   simp
def c5l(P:Program)(H:VH)(f:VV)(args:List VV):Out:=
 match f with
 |.func (.func g) first cap=>a7f P H g (first++(args++cap))
 |.yield i=>match H.locs.get i with
  |some (.loop _ _ _ _ params _ _)=>match Nat.beq args.length params.length with
   |true=>.round i args
   |false=>.bad
  |_=>.bad
 |_=>.bad
def b0y(P:Program)(t:TypeId)(name:String):Option FuncId:=match P.info? t with
 |some i=>match i.methods.find? (·.name==name)with
  |some m=>match m.path.toList,m.func,P.underlying t with
   | [],some (f,true),some (.pointer _)=>some f
   | [],some (f,false),some d=>match d with
    |.pointer _=>none
    |_=>some f
   |_,_,_=>none
  |none=>none
 |none=>none
theorem b3N{P:Program}{t:TypeId}{name:String}{f:FuncId}(h:b0y P t name=some f)(v:Value)(args:Array Value)(w:World):(callMethod (.iface t v) name args).run P w=(callFunc f (#[v]++args)).run P w:=by
 unfold b0y at h
 split at h
 ·rename_i i hi
  split at h
  ·rename_i m hm
   have hd:P.types.size+Made.depth=(P.types.size+(Made.depth-1))+1:=rfl
   have hti:(typeInfo t).run P w= .ok i w:=by simp[typeInfo,hi]
   have hmm: ∀r:Value,(do let (xt,x)←follow m.path.toList t (.val v);receiverAt xt x (match m.func with|some (_,b)=>b|none=>false) (if m.path.isEmpty then some ((name.splitOn ".").getLastD name)else none):Sem Value).run P w= .ok r w→(∃b,m.func=some (f,b))→(method (P.types.size+Made.depth) t v name).run P w= .ok (f,r) w:=by
    intro r hr ⟨b,hb⟩
    rw[hd]
    simp only[method,Sem.run_bind,hti,Result.andThen_ok,hm]
    simp only[Sem.run_bind,hb]at hr ⊢
    cases hf:(follow m.path.toList t (.val v)).run P w with
    |ok xx w'=>
     rw[hf]at hr
     simp only[Result.andThen_ok]at hr ⊢
     rw[hr]
     rfl
    |halt hh w'=>rw[hf]at hr;cases hr
   split at h
   ·rename_i f' e hp hfn hu
    cases h
    have:=hmm v (by simp[hp,hfn,follow,receiverAt,run_underlying hu,Place.get]) ⟨true,hfn⟩
    simp only[callMethod,Sem.run_bind,run_program,Result.andThen_ok,this]
   ·rename_i f' d hp hfn hu
    split at h
    ·cases h
    ·rename_i hnp
     cases h
     have:=hmm v (by
      simp only[hp,hfn,follow,receiverAt,Sem.run_bind,Sem.run_pure,Result.andThen_ok,run_underlying hu]
      cases d<;>first|exact absurd rfl (hnp _)|rfl) ⟨false,hfn⟩
     simp only[callMethod,Sem.run_bind,run_program,Result.andThen_ok,this]
   ·cases h
  ·cases h
 ·cases h
theorem HSim.sub[Ext]{w0:World}{φ:Phi}{K H:VH}{w:World}(h:HSim w0 φ K w)(hb:H.base=K.base)(hn:H.next=K.next)(hl: ∀i x,H.locs.get i=some x→K.locs.get i=some x):HSim w0 φ H w:=
 ⟨by rw[hb];exact h.env,by rw[hb];exact h.base,h.old,h.own,by rw[hn];exact h.small,fun i x hx=>by rw[hb];exact h.live i x (hl i x hx),fun i j oi oj inf jnf h1 h2 h3 h4 h5=>h.inj i j oi oj inf jnf (hl _ _ h1) (hl _ _ h2) h3 h4 h5,by rw[hn];exact h.fresh,h.bound⟩
theorem bytesOf_map: ∀(l:List UInt8),bytesOf (l.map fun b=>VV.int .u8 b.toNat)=some (l.map fun b=>(b.toNat:Int))
 | []=>rfl
 |b::l=>by simp only[List.map_cons,bytesOf,bytesOf_map l]
theorem b0T: ∀(l:List UInt8),a1r (l.map fun b=>(b.toNat:Int))=l
 | []=>rfl
 |b::l=>by simp only[List.map_cons,a1r,b0T l,Int.toNat_natCast,UInt8.ofNat_toNat]
def c5c(P:Program)(H:VH)(t:TypeId)(p:VV)(ps:List VV):Out:=match P.underlying t,p with
 |some (.pointer e),.ptr (some ⟨.loc i,0⟩)=>match P.info? e,H.locs.get i with
  |some j,some (.txt ps' (some e'))=>match Nat.beq e e',Nat.beq j.size 1,c2K ps ps',b4h H.base ps,szT H.base ps with
   |true,true,true,true,some m=>match decide (m<9223372036854775807),Nat.blt H.next top with
    |true,true=>.val (.cat ps) {H with locs:=H.locs.del i}
    |_,_=>.bad
   |_,_,_,_,_=>.bad
  |_,_=>.bad
 |_,_=>.bad
theorem b7T[Ext]{P:Program}{w0:World}{φ:Phi}{H:VH}{w:World}(h:HSim w0 φ H w){t t2 ty:TypeId}{x:VV}{ps:List VV}{x' y':Value}(hx:VR φ x x')(hy:VR φ (.tlen ps) y'):
  a5g w0 φ H w ((do pure (Next.value (←Builtin.unsafeString_ #[t,t2] ty #[x',y'])):Sem Next).run P w) (c5c P H t x ps):=by
 unfold c5c
 split
 ·rename_i e i hu
  split
  ·rename_i j ps' e' hj hg
   split
   ·rename_i m b1 b2 b3 b4 b5
    split
    ·rename_i b6 b7
     have:=Nat.eq_of_beq_eq_true b1
     subst this
     have:=a4x b3
     subst this
     simp only[VR]at hy
     obtain⟨u,u1,rfl⟩:=hy
     have hpos:=a7S h.env b4 u1
     have hsz:=a4Y h.env b5 u1
     have hm:=of_decide_eq_true b6
     obtain⟨inf,o',k1,k2,⟨u',k3,c',e2,fr,rfl,k4⟩,k5⟩:=h.live _ _ hg
     rw[u1]at k3
     cases k3
     have hi:i<top:=Nat.lt_trans (h.lt k1) (a0H b7)
     have hS:HSim w0 φ {H with locs:=H.locs.put i (.cells (a0l u) (some 1) 0 (some e))} w:=h.put hg k1 ⟨rfl,rfl,rfl,rfl,k2,fun _ _=>rfl⟩ ⟨c',e2,fr,rfl,k4⟩
     have hgS:(H.locs.put i (.cells (a0l u) (some 1) 0 (some e))).get i=some (.cells (a0l u) (some 1) 0 (some e)):=TT.get_put_same _ _ _ hi
     obtain⟨q,hq⟩: ∃q,u.size=q+1:=⟨u.size-1,by omega⟩
     have hld:a4k {H with locs:=H.locs.put i (.cells (a0l u) (some 1) 0 (some e))} ⟨.loc i,0⟩ (q+1)=some (a0l u):=by
      unfold a4k
      simp only[hgS]
      rw[←hq,←a9y]
      exact a8C _
     have key:=b0O (P:=P) (t2:=t2) (ty:=ty) (t:=t) hS hx (y:=.int .i64 (Int.ofNat (q+1))) (y':=.int .i64 u.size) (by simp only[VR,hq];rfl)
     have hev:b7U P {H with locs:=H.locs.put i (.cells (a0l u) (some 1) 0 (some e))} t (.ptr (some ⟨.loc i,0⟩)) (.int .i64 (Int.ofNat (q+1)))= .val (.string u) {H with locs:=(H.locs.put i (.cells (a0l u) (some 1) 0 (some e))).put i (.cells (a0l u) (some 1) (d3K 0 (0+(q+1))) (some e))}:=by
      have hb:bytesOf (a0l u)=some (u.data.toList.map fun b=>(b.toNat:Int)):=bytesOf_map _
      have hlt:Nat.blt (q+1) 9223372036854775807=true:=Nat.ble_eq_true_of_le (by omega)
      have hee:Nat.beq e e=true:=by simp
      unfold b7U
      simp only[hu,hj,hgS,hee,b2,hlt,hld,hb,b0T]
     rw[hev]at key
     obtain⟨v',w₁,φ₁,r1,r2,r3,r4,r5⟩:=key
     refine⟨v',w₁,φ₁,r1,r2, ?_,r4.sub rfl rfl fun j x hx=> ?_,rfl⟩
     ·simp only[VR]at r3 ⊢
      exact⟨u,by rw[r2.le.2];exact u1,r3⟩
     ·have hx':(H.locs.del i).get j=some x:=hx
      by_cases e:j=i
      ·subst e
       rw[TT.get_del_same _ _ hi]at hx'
       cases hx'
      ·rw[TT.get_del_other _ _ _ e]at hx'
       show((H.locs.put i _).put i _).get j=some x
       rw[TT.get_put_other _ _ _ _ e,TT.get_put_other _ _ _ _ e]
       exact hx'
    ·trivial
   ·trivial
  ·trivial
 ·trivial
def c1Z(b:Nat):List (VV×VV×Nat)→Option (VV×VV)
 | []=>none
 |e::l=>match Nat.beq e.2.2 b with
  |true=>some (e.1,e.2.1)
  |false=>c1Z b l
def d1w:List Nat→Option Nat
 | []=>none
 |x::l=>match l with
  | []=>some x
  |y::l=>d1w (y::l)
theorem c0v: ∀(l:List Nat),d1w l=l.getLast?
 | []=>rfl
 | [x]=>rfl
 |x::y::l=>by rw[List.getLast?_cons_cons];exact c0v (y::l)
theorem b0U{φ:Phi}{b:Nat}{k v:VV}: ∀(xs:List (VV×VV×Nat)) (es:List MapEntry),ERs φ xs es→c1Z b xs=some (k,v)→ ∃e,es.find? (·.born==b)=some e∧VR φ k e.key∧VR φ v e.val
 | [],_,_,h=>by cases h
 |x::xs,es,hr,h=>by
  obtain⟨z,zs,rfl,k1,k2,k3,k4⟩:=hr
  simp only[c1Z]at h
  rw[k3]at h
  cases hb:Nat.beq z.born b with
  |true=>
   rw[hb]at h
   simp only[Option.some.injEq,Prod.mk.injEq]at h
   obtain⟨rfl,rfl⟩:=h
   refine⟨z, ?_,k1,k2⟩
   rw[List.find?_cons,show(z.born==b)=true from beq_iff_eq.2 (Nat.eq_of_beq_eq_true hb)]
  |false=>
   rw[hb]at h
   obtain⟨e,e1,e2⟩:=b0U xs zs k4 h
   refine⟨e, ?_,e2⟩
   rw[List.find?_cons,show(z.born==b)=false from beq_eq_false_iff_ne.2 (Nat.ne_of_beq_eq_false hb)]
   exact e1
def b9a(H:VH)(p:VV):Out:=match p with
 |.ptr (some ⟨.loc j,0⟩)=>match H.locs.get j with
  |some (.miter i _ seen last)=>match H.locs.get i,d1w seen with
   |some (.map es c),some b=>match Nat.beq c last,c1Z b es with
    |true,some (k,v)=>.val (.tuple [k,v]) H
    |_,_=>.bad
   |_,_=>.bad
  |_=>.bad
 |_=>.bad
theorem b5g[Ext]{P:Program}{w0:World}{φ:Phi}{H:VH}{w:World}(hs:HSim w0 φ H w){p:VV}{p':Value}(hp:VR φ p p'):
  a5g w0 φ H w ((do pure (Next.value (←Instr.entry p')):Sem Next).run P w) (b9a H p):=by
 unfold b9a
 split
 ·rename_i j
  split
  ·rename_i i since seen last hj
   split
   ·rename_i es c b hi hl
    split
    ·rename_i k v hc hb
     simp only[VR]at hp
     obtain⟨a',s,ha,rfl⟩:=hp
     unfold AR at ha
     obtain⟨inf,hφ,h1,h2⟩:=ha
     obtain⟨inf1,o1,q1,q2,⟨q0,inf2,q3,rfl⟩,q4⟩:=hs.live j _ hj
     rw[hφ]at q1;cases q1
     obtain⟨inf3,o3,r1,r2,⟨es',rfl,r3⟩,r4⟩:=hs.live i _ hi
     rw[q3]at r1;cases r1
     have ha':a'=⟨inf.blk,0,none⟩:=by rw[h1,q0];rfl
     subst ha'
     obtain⟨e,e1,e2,e3⟩:=b0U es es' r3 hb
     have hcl:c=last:=Nat.eq_of_beq_eq_true hc
     subst hcl
     rw[c0v]at hl
     have hv:VR φ (.tuple [k,v]) (.tuple #[e.key,e.val]):=by
      simp only[VR]
      refine⟨[e.key,e.val], ?_,rfl⟩
      unfold VRs
      refine⟨_,_,rfl,e2, ?_⟩
      unfold VRs
      refine⟨_,_,rfl,e3, ?_⟩
      unfold VRs
      rfl
     refine⟨_,w,φ, ?_,.refl φ w,hv,hs,rfl⟩
     have hback:(⟨seen⟩:Array Nat).back? =some b:=by rw[←Array.getLast?_toList];exact hl
     have hfind:(⟨es'⟩:Array MapEntry).find? (·.born==b)=some e:=by rw[←Array.find?_toList];exact e1
     simp[Instr.entry,getObj,Sem.run_bind,Sem.run,q2,r2,Result.andThen,hback,hfind]
    ·trivial
   ·trivial
  ·trivial
 ·trivial
def c7r(r t:Out):Out:=match r with
 |.bad=>t
 |r=>r
theorem b1r[Ext]{w0:World}{φ:Phi}{H:VH}{w:World}{r:Result Next}{x y:Out}(h1:a5g w0 φ H w r x)(h2:a5g w0 φ H w r y):a5g w0 φ H w r (c7r x y):=by
 unfold c7r
 split
 ·exact h2
 ·exact h1
def b9e(P:Program)(c:Call)(a:VT)(H:VH):Out:=
 match c.callee with
 |.invoke r n=>match a0B a r,a0c a c.args.toList with
  |some (.iface t v),some vs=>match b0y P t n with
   |some f=>a7f P H f (v::vs)
   |none=>.bad
  |_,_=>.bad
 |.value f=>match a0B a f,a0c a c.args.toList with
  |some f,some vs=>c5l P H f vs
  |_,_=>.bad
 |.builtin b=>match b,c.args,c.argTypes with
  |.append,⟨[s,x]⟩,⟨t::ts⟩=>match a0B a s,a0B a x with
   |some s,some x=>match a1o P ts.head? with
    |true=>match s with
     |.lsl b n m=>b2Z P H t ts.head? b n m x
     |.tsl b ps=>a8j P H t ts.head? (.tsl b ps) x
     |s=>c7r (c7r (b5o P H t ts.head? s x) (a8j P H t ts.head? s x)) (b2X P H t ts.head? s x)
    |false=>b2V P H t ts.head? s x
   |_,_=>.bad
  |.copy,⟨[d,x]⟩,⟨t::_⟩=>match a0B a d,a0B a x with
   |some d,some x=>c5j P H t d x
   |_,_=>.bad
  |.clear,⟨[x]⟩,⟨t::_⟩=>match a0B a x,P.underlying t with
   |some x,some _=>b9c P H t x
   |_,_=>.bad
  |.delete,⟨[m,k]⟩,⟨t::_⟩=>match a0B a m,a0B a k with
   |some m,some k=>b5h P H t m k
   |_,_=>.bad
  |.unsafeString,⟨[x,y]⟩,⟨[t,_]⟩=>match a0B a x,a0B a y with
   |some x,some y=>match y with
    |.tlen ps=>c5c P H t x ps
    |y=>b7U P H t x y
   |_,_=>.bad
  |_,_,_=>.bad
def evE(P:Program)(o:Op)(a:VT)(H:VH):Out:=
 match o with
 |.alloc _|.box _ _|.buildSlice _ _ _|.makeMap _ _|.makeSlice _ _ _=>c2Y H (a4D P o a)
 |.store t x y=>match a0B a x,a0B a y,P.info? t with
  |some (.ptr (some ad)),some v,some i=>match Nat.beq v.cells.length i.size,b5L H ad v.cells with
   |true,some H₁=>.skip H₁
   |_,_=>.bad
  |_,_,_=>.bad
 |.mapUpdate t m k v|.insert t m k v=>match a0B a m,a0B a k,a0B a v with
  |some m,some k,some v=>b5W P H t m k v
  |_,_,_=>.bad
 |.call c=>b9e P c a H
 |.range t x=>match a0B a x with
  |some x=>b9T P H t x
  |none=>.bad
 |.entry x=>match a0B a x with
  |some x=>b9a H x
  |none=>.bad
 |_=>.bad
theorem b5m[Ext]{P:Program}(hng:a4B P){w0:World}{φ:Phi}{a:VT}{act:Act}{H:VH}{w:World}(ht:TR φ a act.tmps)(hs:HSim w0 φ H w)(c:Call)(o:Oper)(ho:o.op= .call c):
  a5g w0 φ H w ((execOp act.eval o).run P w) (b9e P c a H):=by
 obtain⟨cal,args,ts⟩:=c
 unfold b9e
 cases cal with
 |invoke r n=>
  simp only
  cases hr:a0B a r with
  |none=>trivial
  |some rv=>cases hv:a0c a args.toList with
   |none=>cases rv<;>trivial
   |some vs=>cases rv with
    |iface t v=>
     simp only
     cases hm:b0y P t n with
     |none=>trivial
     |some f=>
      have hrr:=a0A ht hr
      have hvr:=a1G ht _ _ hv
      simp only[VR]at hrr
      obtain⟨v',h1,h2⟩:=hrr
      have he:=a5J hng hs (g:=f) (show VRs φ (v::vs) (v'::args.toList.map act.eval)by simp only[VRs];exact⟨_,_,rfl,h1,hvr⟩)
      have hrun:(execOp act.eval o).run P w=(callFunc f ⟨v'::args.toList.map act.eval⟩).run P w:=by
       unfold execOp
       rw[ho]
       simp only[resolve,h2,Sem.run_bind,Sem.run_pure,Result.andThen_ok]
       unfold invoke
       simp only
       have e0:(#[Value.iface t v']++args.map act.eval)[0]? =some (.iface t v'):=by
        first|rfl|(rw[Array.getElem?_append_left (Nat.zero_lt_one)];rfl)
       have e1:(#[Value.iface t v']++args.map act.eval).extract 1 (#[Value.iface t v']++args.map act.eval).size=args.map act.eval:=by
        apply Array.ext'
        simp
        rw[List.take_of_length_le (by simp)]
       rw[e0]
       simp only[e1]
       rw[b3N hm]
       congr 2
       apply Array.ext'
       simp
      rw[hrun]
      exact he
    |_=>trivial
 |builtin b=>
  simp only
  have run: ∀(args':Array Value),args.map act.eval=args'→(execOp act.eval o).run P w=(builtin b ts o.type (args.map fun|.const _=>true|_=>false) args').run P w:=by
   intro args' h
   unfold execOp
   rw[ho]
   simp[resolve,h,invoke]
   rfl
  split
  ·rename_i s x t ts'
   rw[run #[act.eval s,act.eval x] (by simp)]
   cases h1:a0B a s with
   |none=>trivial
   |some u=>cases h2:a0B a x with
    |none=>trivial
    |some v=>
     simp only
     cases a1o P ts'.head? with
     |true=>cases u<;>first
      |exact b2Y hs (a0A ht h1) (a0A ht h2)
      |exact a6D hs (a0A ht h1) (a0A ht h2)
      |exact b1r (b1r (b3T hs (a0A ht h1) (a0A ht h2)) (a6D hs (a0A ht h1) (a0A ht h2))) (b2W hs (a0A ht h1) (a0A ht h2))
     |false=>exact b2U hs (a0A ht h1) (a0A ht h2)
  ·rename_i d x t ts'
   rw[run #[act.eval d,act.eval x] (by simp)]
   cases h1:a0B a d with
   |none=>trivial
   |some u=>cases h2:a0B a x with
    |none=>trivial
    |some v=>exact b7b hs (a0A ht h1) (a0A ht h2)
  ·rename_i x t ts'
   rw[run #[act.eval x] (by simp)]
   cases h1:a0B a x with
   |none=>trivial
   |some u=>cases h2:P.underlying t with
    |none=>trivial
    |some d=>exact b5j hs h2 (a0A ht h1)
  ·rename_i m k t ts'
   rw[run #[act.eval m,act.eval k] (by simp)]
   cases h1:a0B a m with
   |none=>trivial
   |some u=>cases h2:a0B a k with
    |none=>trivial
    |some v=>exact b3R hs (a0A ht h1) (a0A ht h2) _ _
  ·rename_i x y t t2
   rw[run #[act.eval x,act.eval y] (by simp)]
   cases h1:a0B a x with
   |none=>trivial
   |some u=>cases h2:a0B a y with
    |none=>trivial
    |some v=>cases v<;>first
     |exact b7T hs (a0A ht h1) (a0A ht h2)
     |exact b0O hs (a0A ht h1) (a0A ht h2)
  ·trivial
 |value f=>
  simp only
  cases hf:a0B a f with
  |none=>trivial
  |some fv=>cases hv:a0c a args.toList with
   |none=>trivial
   |some vs=>
    simp only
    have hfr:=a0A ht hf
    have hvr:=a1G ht _ _ hv
    unfold c5l
    cases fv with
    |func fn first cap=>
     cases fn with
     |func g=>
      simp only[VR]at hfr
      obtain⟨first',cap',_,h1,h2,h3⟩:=hfr
      have he:=a5J hng hs (g:=g) (a3B h1 (a3B hvr h2))
      have hrun:(execOp act.eval o).run P w=(callFunc g ⟨first'++(args.toList.map act.eval++cap')⟩).run P w:=by
       unfold execOp
       rw[ho]
       simp only[resolve,h3,Deferred.ofValue,Sem.run_bind,Sem.run_pure,Result.andThen_ok,invoke]
       congr 2
       apply Array.ext'
       simp
      rw[hrun]
      exact he
     |_=>trivial
    |yield i=>
     simp only
     cases hg:H.locs.get i with
     |none=>trivial
     |some vo=>cases vo with
      |loop st pend tm nt params asg body=>
       simp only
       cases hb:Nat.beq vs.length params.length with
       |false=>trivial
       |true=>
        obtain⟨inf,o',h1,h2,⟨tmps',fn,d,rfl,h3,h4⟩,_⟩:=hs.live i _ hg
        simp only[VR]at hfr
        obtain⟨inf',h1',hfe⟩:=hfr
        rw[h1]at h1';cases h1'
        have hl:=a0M _ _ hvr
        have hlen:(args.toList.map act.eval).length=params.length:=by rw[←hl];exact Nat.eq_of_beq_eq_true hb
        refine⟨inf,_,args.toList.map act.eval,h1,h2,by simpa using hlen,hvr, ?_⟩
        unfold execOp
        rw[ho]
        have hge:(getObj inf.blk).run P w= .ok (.loop {state:=st,pending:=pend,fn:=fn,tmps:=tmps',params:=⟨params⟩,assign:=asg,body:=body,defers:=d}) w:=by simp[getObj,Sem.run,h2]
        have hsz:(args.map act.eval).size=params.length:=by rw[←hlen];simp
        have hargs:args.map act.eval=⟨args.toList.map act.eval⟩:=by apply Array.ext';simp
        have hgl:(Instr.getLoop inf.blk).run P w= .ok {state:=st,pending:=pend,fn:=fn,tmps:=tmps',params:=⟨params⟩,assign:=asg,body:=body,defers:=d} w:=by simp[Instr.getLoop,hge]
        have hne: ¬((#[]++args.map act.eval:Array Value).size≠(⟨params⟩:Array Tmp).size):=by simpa using hsz
        simp only[resolve,hfe,Deferred.ofValue,Sem.run_bind,Sem.run_pure,Result.andThen_ok,invoke,Instr.yield,hgl]
        rw[if_neg hne]
        simp only[Sem.run_pure]
        rw[←hargs]
        simp only[Array.empty_append]
      |_=>trivial
    |_=>trivial
theorem a6B[Ext]{P:Program}(hng:a4B P){w0:World}{φ:Phi}{a:VT}{act:Act}{H:VH}{w:World}(ht:TR φ a act.tmps)(hs:HSim w0 φ H w)(o:Oper):
  a5g w0 φ H w ((execOp act.eval o).run P w) (evE P o.op a H):=by
 obtain⟨dst,op,type,pos,after,guard⟩:=o
 simp only
 cases op with
 |alloc t=>exact a3q hs fun k vo h=>a2Y ht _ h
 |box t x=>exact a3q hs fun k vo h=>a2Y ht _ h
 |buildSlice t len parts=>exact a3q hs fun k vo h=>a2Y ht _ h
 |makeMap t r=>exact a3q hs fun k vo h=>a2Y ht _ h
 |makeSlice t l c=>exact a3q hs fun k vo h=>a2Y ht _ h
 |store t x y=>
  simp only[evE]
  cases hx:a0B a x with
  |none=>trivial
  |some u=>cases u with
   |ptr p=>cases p with
    |none=>cases hy:a0B a y<;>cases hi:P.info? t<;>trivial
    |some ad=>cases hy:a0B a y with
     |none=>trivial
     |some v=>cases hi:P.info? t with
      |none=>trivial
      |some i=>
       simp only
       cases hb:Nat.beq v.cells.length i.size with
       |false=>trivial
       |true=>cases hst:b5L H ad v.cells with
        |none=>trivial
        |some H₁=>
         have hxr:=a0A ht hx
         have hyr:=a2F (a3V hy) (a0A ht hy)
         simp only[VR]at hxr
         obtain⟨a',s,ha,hxe⟩:=hxr
         obtain⟨w₁,g1,g2,⟨bi,binf,bo,hb1,hb2⟩,g4⟩:=b5K (P:=P) hs ha hst hyr
         refine⟨w₁,φ, ?_,St.upd hb1 hb2,g2,g4⟩
         have hl:=a0M _ _ hyr
         simp only[Array.length_toList]at hl
         have hsz:(act.eval y).cells.size=i.size:=by rw[←hl];exact Nat.eq_of_beq_eq_true hb
         simp[execOp,Instr.storeAt,hxe,Instr.sureAddr,storeVar,a0J hi,a1N hi,hsz,g1]
   |_=>cases hy:a0B a y<;>cases hi:P.info? t<;>trivial
 |entry x=>
  simp only[evE]
  cases hx:a0B a x with
  |none=>trivial
  |some u=>exact b5g hs (a0A ht hx)
 |range t x=>
  simp only[evE]
  cases hx:a0B a x with
  |none=>trivial
  |some u=>exact b5a hs (a0A ht hx)
 |mapUpdate t m k v=>
  simp only[evE]
  cases hm:a0B a m with
  |none=>trivial
  |some x=>cases hk:a0B a k with
   |none=>trivial
   |some y=>cases hv:a0B a v with
    |none=>trivial
    |some z=>exact a7N hs (a0A ht hm) (a0A ht hk) (a0A ht hv)
 |insert t m k v=>
  simp only[evE]
  cases hm:a0B a m with
  |none=>trivial
  |some x=>cases hk:a0B a k with
   |none=>trivial
   |some y=>cases hv:a0B a v with
    |none=>trivial
    |some z=>exact a7N hs (a0A ht hm) (a0A ht hk) (a0A ht hv)
 |call c=>exact b5m hng ht hs c _ rfl
 |_=>trivial
end
end Go.Ev
