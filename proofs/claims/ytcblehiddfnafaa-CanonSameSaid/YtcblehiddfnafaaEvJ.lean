/- Engine, part I: append, copy, the other operations that write. -/
import Derived.Test.YtcblehiddfnafaaEvH
import Derived.Laws.AppendOwn
namespace Go.Ev
noncomputable section
theorem a7W{w:World}{need cap:Nat}{e:TypeId}{z:Array Value}{size:Nat}(hz:z.size=size):(grownCap w need cap e-need)*size≤(Builtin.zeroCells z (grownCap w need cap e-need)).toList.length:=by
 rw[Array.length_toList]
 simp[Builtin.zeroCells,hz]
theorem a3i{w0:World}{φ:Phi}{H:VH}{w:World}(h:HSim w0 φ H w):HSim w0 φ H w.drew:=h.heap rfl
theorem b3c{P:Program}{w0:World}{φ:Phi}{H:VH}{w:World}(h:HSim w0 φ H w)(hnx:H.next<top){t e:TypeId}{ts:List TypeId}{ty:TypeId}{i:TypeInfo}{z':Value}(hu:P.underlying t=some (.slice e))(hi:P.info? e=some i)(hz:i.zero=some z')(hzs:z'.cells.size=i.size)
  (hp:a1l P ts.head? =true) {base:Option Addr} {len cap n:Nat} {x':Value} (hln:(Builtin.lenOf x').run P w= .ok n w) (hlt:cap<len+n) (hb:(len+n)*i.bytes≤140737488355328) (hsm:len+n<1099511627776)
  {old new:List VV} {old' new':List Value} (ho:(Builtin.firstCells i.size len (.slice base len cap)).run P w.drew= .ok ⟨old'⟩ w.drew) (hn:(Builtin.firstCells i.size n x').run P w.drew= .ok ⟨new'⟩ w.drew) (vo:VRs φ old old') (vn:VRs φ new new')
  {H':VH} (h':HSim w0 φ H' w) (hH:H'.next=H.next) (hB:H'.base=H.base) (ro:Nat):
  a8j w0 φ H w ((do pure (Next.value (←Builtin.append_ ⟨t::ts⟩ ty #[.slice base len cap,x'])):Sem Next).run P w)
   (.val (.slice (some ⟨.loc H.next,0⟩) (len+n) (len+n)) (H'.alloc (.cells (old++new) (some i.size) ro))):=by
 have hr:=a6y (P:=P) (ty:=ty) hu hi hz hp hln hlt hb hsm ho hn
 have hge:=grownCap_ge w (len+n) cap e
 have hc:=(a3i h').cells (by rw[hH];exact hnx) (a2n vo vn) e (some i.size) (grownCap w (len+n) cap e-(len+n)) ro (Builtin.zeroCells z'.cells (grownCap w (len+n) cap e-(len+n))).toList (0,0) (by simp) (by simpa[a5X]using a7W (w:=w) (need:=len+n) (cap:=cap) (e:=e) hzs) (fun j _ hx=>by omega)
 rw[hH]at hc
 have hst:St φ w (φ.ext H.next ⟨w.heap.size,0,grownCap w (len+n) cap e-(len+n)⟩) (w.drew.alloc (.cells ⟨old'++(new'++(Builtin.zeroCells z'.cells (grownCap w (len+n) cap e-(len+n))).toList)⟩ e)):=
  (St.drew (φ:=φ) (w:=w) (w₁:=w.drew) rfl rfl rfl rfl).trans (St.alloc (a3i h) _ _)
 refine⟨.slice (some ⟨w.heap.size,0,none⟩) (len+n) (grownCap w (len+n) cap e),_,_,by simp only[Sem.run_bind,hr,Result.andThen_ok,Sem.run_pure],hst, ?_, ?_,hB⟩
 ·have:=a4O (φ:=φ) (n:=H.next) (b:=w.heap.size) (s:=grownCap w (len+n) cap e-(len+n)) (l:=len+n) (c:=len+n)
  rwa [show len+n+(grownCap w (len+n) cap e-(len+n))=grownCap w (len+n) cap e by omega]at this
 ·rw[←List.append_assoc]
  exact hc
theorem b3d{P:Program}{w0:World}{φ:Phi}{H:VH}{w:World}(h:HSim w0 φ H w)(hnx:H.next<top){t e:TypeId}{ts:List TypeId}{ty:TypeId}{i:TypeInfo}(hu:P.underlying t=some (.slice e))(hi:P.info? e=some i)
  (hp:a1l P ts.head? =true) {b o:Nat} {inf:Inf} (hφ:φ b=some inf) {c:List VV} {ro:Nat} (hg:H.locs.get b=some (.cells c (some i.size) ro)) {len cap n:Nat} {x':Value} (hln:(Builtin.lenOf x').run P w= .ok n w) (hle:len+n≤cap+inf.slack) (_hgt:cap<len+n)
  (hend:o+cap*i.size=c.length) (hro:ro≤o+len*i.size) {old new:List VV} {new':List Value} (hold:a5a H ⟨.loc b,o⟩ (len*i.size)=some old) (hn:(Builtin.firstCells i.size n x').run P w= .ok ⟨new'⟩ w) (vn:VRs φ new new') (hnl:new.length=n*i.size) (hfl:flat new=true):
  a8j w0 φ H w ((do pure (Next.value (←Builtin.append_ ⟨t::ts⟩ ty #[.slice (some ⟨inf.blk,inf.off+o,none⟩) len (cap+inf.slack),x'])):Sem Next).run P w)
   (.val (.slice (some ⟨.loc H.next,0⟩) (len+n) (len+n)) {H with locs:=(H.locs.del b).put H.next (.cells (old++new) (some i.size) (ro-o)),next:=H.next+1}):=by
 obtain⟨inf',o',hφ',hw,⟨cr,e0,fr,rfl,hc⟩,_⟩:=h.live b _ hg
 rw[hφ]at hφ';cases hφ'
 have hsz:=hc.size
 simp only[a5X]at hsz
 have hnl':new'.length=n*i.size:=by rw[←a0V _ _ vn,hnl]
 have hmul:(len+n)*i.size≤(cap+inf.slack)*i.size:=Nat.mul_le_mul_right _ hle
 rw[Nat.add_mul,Nat.add_mul]at hmul
 have hcomm:inf.slack*i.size=inf.slack*i.size:=rfl
 obtain⟨w₁,c₁,r1,r2,r3,r4⟩:=a3t (P:=P) (b:=inf.blk) (o:=inf.off+o+len*i.size) (e:=e0) (fr:=fr) new' 0 cr w hw (by omega) (fun j hj=>by
  have:=hc.free (o+len*i.size+j) (by omega) (by simp only[a5X];omega)
  rwa [show inf.off+o+len*i.size+0+j=inf.off+(o+len*i.size+j)by omega]) (a8g _ _ vn hfl)
 have hadd:(⟨inf.blk,inf.off+o,none⟩:Addr).add (len*i.size)=⟨inf.blk,inf.off+o+len*i.size,none⟩:=Addr.add_lit _ _ _
 have hr:=a2B (P:=P) (ty:=ty) hu hi hp (base:=some ⟨inf.blk,inf.off+o,none⟩) (len:=len) (cap:=cap+inf.slack) (n:=n) hln hle hn (w₁:=w₁) (by simp only;rw[hadd];exact r1)
 have hold2:old=(c.drop o).take (len*i.size)∧len*i.size≤c.length-o:=by
  unfold a5a at hold
  simp only[hg]at hold
  obtain⟨k1,k2⟩:=a4S _ _ _ hold
  rw[a2H]at k1 k2
  exact⟨k2,by simpa using k1⟩
 have hol:old.length=len*i.size:=by rw[hold2.1];simp;omega
 refine⟨.slice (some ⟨inf.blk,inf.off+o,none⟩) (len+n) (cap+inf.slack),w₁,φ.ext H.next ⟨inf.blk,inf.off+o,cap+inf.slack-(len+n)⟩,by simp only[Sem.run_bind,hr,Result.andThen_ok,Sem.run_pure], ?_, ?_, ?_,rfl⟩
 ·refine⟨Phi.le_ext _ (h.fresh _ (Nat.le_refl _)),r2.wk,fun k _ hk=>r2.there k (fun e=>hk b inf hφ e.symm),fun j jnf hj=> ?_⟩
  simp only[Phi.ext]at hj
  split at hj
  ·cases hj;exact .inl ⟨b,inf,hφ,rfl⟩
  ·exact .inl ⟨j,jnf,hj,rfl⟩
 ·simp only[VR]
  refine⟨⟨inf.blk,inf.off+o,none⟩,cap+inf.slack-(len+n), ?_, ?_⟩
  ·unfold AR;exact⟨_,Phi.ext_self _ _ _,rfl,rfl⟩
  ·rw[show len+n+(cap+inf.slack-(len+n))=cap+inf.slack by omega]
 ·refine h.regrow hg hφ ⟨inf.blk,inf.off+o,cap+inf.slack-(len+n)⟩ rfl r2 ⟨c₁,e0,fr,rfl,⟨?_,by simp, ?_, ?_⟩⟩ hnx
  ·simp only[a5X,List.length_append,hol,hnl,r3]
   have:(cap+inf.slack-(len+n))*i.size=(cap+inf.slack)*i.size-(len+n)*i.size:=Nat.sub_mul _ _ _
   rw[this,Nat.add_mul,Nat.add_mul]
   omega
  ·intro j x hx
   have hle':=Phi.le_ext (φ:=φ) ⟨inf.blk,inf.off+o,cap+inf.slack-(len+n)⟩ (h.fresh H.next (Nat.le_refl _))
   simp only at*
   rw[r4]
   by_cases hj:j<old.length
   ·rw[List.getElem?_append_left hj,hold2.1,List.getElem?_take,if_pos (by omega),List.getElem?_drop]at hx
    rw[if_neg (by omega)]
    obtain⟨y,h1,h2⟩:=hc.cell _ x hx
    exact⟨y,by rw[show inf.off+o+j=inf.off+(o+j)by omega];exact h1,h2.mono hle'⟩
   ·rw[List.getElem?_append_right (by omega)]at hx
    have hlt:=(List.getElem?_eq_some_iff.1 hx).1
    rw[if_pos ⟨by omega,by omega⟩]
    obtain⟨y,h1,h2⟩:=a1k _ _ vn _ x hx
    exact⟨y,by rw[show inf.off+o+j-(inf.off+o+len*i.size+0)=j-old.length by omega];exact h1,h2.mono hle'⟩
  ·intro j hj1 hj2
   simp only[a5X,List.length_append,hol,hnl]at hj2
   have e2:(cap+inf.slack-(len+n))*i.size=(cap+inf.slack)*i.size-(len+n)*i.size:=Nat.sub_mul _ _ _
   rw[e2,Nat.add_mul,Nat.add_mul]at hj2
   have:=hc.free (o+j) (by omega) (by simp only[a5X];omega)
   rwa [show inf.off+o+j=inf.off+(o+j)by omega]
theorem a7G{P:Program}{w0:World}{φ:Phi}{H:VH}{w:World}(h:HSim w0 φ H w){t:TypeId}{ts:List TypeId}{ty:TypeId}{s x:VV}{s' x':Value}(hs:VR φ s s')(hx:VR φ x x'):
  a8j w0 φ H w ((do pure (Next.value (←Builtin.append_ ⟨t::ts⟩ ty #[s',x'])):Sem Next).run P w) (a8U P H t ts.head? s x):=by
 unfold a8U
 cases hu:P.underlying t with
 |none=>trivial
 |some d=>cases d with
  |slice e=>
   simp only
   cases hp:a1l P ts.head? with
   |false=>trivial
   |true=>cases hi:P.info? e with
    |none=>trivial
    |some i=>cases hz:a1a P e with
     |none=>trivial
     |some z=>cases hn:a2A x with
      |none=>trivial
      |some n=>
       simp only
       have hln:=a5O (P:=P) (w:=w) hx hn
       cases s with
       |slice base len cap=>
        simp only[a8j]
        refine⟨fun hle=> ?_,fun hgt=> ?_⟩
        ·have hle':len+n≤cap:=Nat.le_of_ble_eq_true hle
         cases n with
         |zero=>
          have hfc:=a7I (P:=P) (w:=w) hx hn i.size
          have fin: ∀(b':Option Addr) (c':Nat),cap≤c'→VR φ (.slice base len cap) (.slice b' len c')→a8j w0 φ H w ((do pure (Next.value (←Builtin.append_ ⟨t::ts⟩ ty #[.slice b' len c',x'])):Sem Next).run P w) (.val (.slice base len cap) H):=by
           intro b' c' hc hv
           have hr:=a2B (P:=P) (ty:=ty) hu hi hp (base:=b') (len:=len) (cap:=c') (n:=0) hln (by omega) (new:=[]) hfc (w₁:=w) (by cases b'<;>rfl)
           exact⟨.slice b' len c',w,φ,by simp only[Sem.run_bind,hr,Result.andThen_ok,Sem.run_pure,Nat.add_zero],.refl φ w,hv,h,rfl⟩
          cases base with
          |none=>simp only[VR]at hs;subst hs;exact fin none cap (Nat.le_refl _) (by simp only[VR])
          |some a=>
           have hs':=hs
           simp only[VR]at hs'
           obtain⟨a',sl,ha,rfl⟩:=hs'
           exact fin (some a') (cap+sl) (by omega) hs
         |succ n=>
          cases base with
          |none=>trivial
          |some a=>
           simp only
           cases hsc:a0U H i.size (n+1) x with
           |none=>trivial
           |some new=>
            simp only
            cases hst:a3v H (a.add (len*i.size)) new with
            |none=>trivial
            |some H₁=>
             simp only[VR]at hs
             obtain⟨a',sl,ha,rfl⟩:=hs
             obtain⟨new',f1,f2⟩:=a0r (P:=P) h hx hsc
             obtain⟨w₁,g1,g2,g3,g4⟩:=a2W (P:=P) h (ha.add (len*i.size)) hst f2
             have hr:=a2B (P:=P) (ty:=ty) hu hi hp (base:=some a') (len:=len) (cap:=cap+sl) (n:=n+1) hln (by omega) f1 (w₁:=w₁) g1
             obtain⟨bi,binf,bo,hb1,hb2⟩:=g3
             exact⟨.slice (some a') (len+(n+1)) (cap+sl),w₁,φ,by simp only[Sem.run_bind,hr,Result.andThen_ok,Sem.run_pure],St.upd hb1 hb2,by simp only[VR];exact⟨a',sl,ha,rfl⟩,g2,g4⟩
        ·intro hb hsm
         have hb':(len+n)*i.bytes≤140737488355328:=Nat.le_of_ble_eq_true hb
         have hsm':=a1B hsm
         have hgt':cap<len+n:=by
          rcases Nat.lt_or_ge cap (len+n)with h1|h1
          ·exact h1
          ·have:=Nat.ble_eq_true_of_le h1;rw[this]at hgt;cases hgt
         obtain⟨z',hz1,hz2⟩: ∃z',i.zero=some z'∧emb z'=some z:=by
          have hz0:=hz
          unfold a1a at hz0
          rw[hi]at hz0
          simp only at hz0
          cases hiz:i.zero with
          |none=>rw[hiz]at hz0;cases hz0
          |some z'=>rw[hiz]at hz0;exact⟨z',rfl,hz0⟩
         have hzl:=a0V _ _ (a1r (a3h z' z hz2) (a5V φ z' z hz2))
         simp only[Array.length_toList]at hzl
         cases hbz:Nat.beq z.cells.length i.size with
         |false=>trivial
         |true=>cases hnx:Nat.blt H.next top with
          |false=>trivial
          |true=>
           have hbz':z'.cells.size=i.size:=by rw[←hzl];exact Nat.eq_of_beq_eq_true hbz
           have hnx':=a1B hnx
           simp only
           cases hso:a0U H i.size len (.slice base len cap)with
           |none=>trivial
           |some old=>cases hsn:a0U H i.size n x with
            |none=>trivial
            |some new=>
             simp only
             obtain⟨old',o1,o2⟩:=a0r (P:=P) (a3i h) hs hso
             obtain⟨new',n1,n2⟩:=a0r (P:=P) (a3i h) hx hsn
             have hln':(Builtin.lenOf x').run P w= .ok n w:=hln
             have re: ∀(b':Option Addr) (c':Nat) (H':VH) (ro:Nat),s'= .slice b' len c'→c'<len+n→HSim w0 φ H' w→H'.next=H.next→H'.base=H.base→
               (Builtin.firstCells i.size len (.slice b' len c')).run P w.drew= .ok ⟨old'⟩ w.drew→
               a8j w0 φ H w ((do pure (Next.value (←Builtin.append_ ⟨t::ts⟩ ty #[s',x'])):Sem Next).run P w) (.val (.slice (some ⟨.loc H.next,0⟩) (len+n) (len+n)) (H'.alloc (.cells (old++new) (some i.size) ro))):=by
              intro b' c' H' ro hs1 hc1 hH' hN hB ho
              subst hs1
              exact b3c h hnx' hu hi hz1 hbz' hp hln hc1 hb' hsm' ho n1 o2 n2 hH' hN hB ro
             cases base with
             |none=>
              simp only[VR]at hs
              exact re none cap H 0 hs hgt' h rfl rfl (by rw[hs]at o1;exact o1)
             |some a=>
              have hs0:=hs
              simp only[VR]at hs0
              obtain⟨a',sl,ha,hs1⟩:=hs0
              obtain⟨ab,ao⟩:=a
              rw[hs1]at o1
              simp only
              cases ab with
              |base r=>
               have hsl:sl=0:=by unfold AR at ha;exact ha.2
               subst hsl
               exact re (some a') cap H 0 hs1 hgt' h rfl rfl o1
              |sym r=>trivial
              |loc b=>
               simp only
               cases hg:H.locs.get b with
               |none=>trivial
               |some ob=>cases ob with
                |cells c g ro=>cases g with
                 |none=>
                  have hsl:sl=0:=a2E h ha (by simp[a2u,hg])
                  subst hsl
                  exact re (some a') cap H 0 hs1 hgt' h rfl rfl o1
                 |some sz=>
                  simp only
                  cases hq1:Nat.beq sz i.size with
                  |false=>trivial
                  |true=>cases hq2:Nat.beq (ao+cap*i.size) c.length with
                   |false=>trivial
                   |true=>cases hq3:Nat.ble ro (ao+len*i.size)with
                    |false=>trivial
                    |true=>cases hq4:flat new with
                     |false=>trivial
                     |true=>
                      have hsz:sz=i.size:=Nat.eq_of_beq_eq_true hq1
                      subst hsz
                      unfold AR at ha
                      simp only at ha
                      obtain⟨inf,hφ,rfl,rfl⟩:=ha
                      by_cases hin:len+n≤cap+inf.slack
                      ·rw[hs1]
                       obtain⟨new2,m1,m2⟩:=a0r (P:=P) h hx hsn
                       exact b3d h hnx' hu hi hp hφ hg hln hin hgt' (Nat.eq_of_beq_eq_true hq2) (Nat.le_of_ble_eq_true hq3) (by simpa[a0U]using hso) m1 m2 (a5x h hx hn hsn) hq4
                      ·have hlt2:b<top:=Nat.lt_trans (h.lt hφ) hnx'
                       exact re (some ⟨inf.blk,inf.off+ao,none⟩) (cap+inf.slack) {H with locs:=H.locs.del b} (ro-ao) hs1 (by omega) (h.del hlt2) rfl rfl o1
                |_=>trivial
       |sliceE=>
        simp only[VR]at hs
        obtain⟨a',c,rfl⟩:=hs
        cases n with
        |succ n=>trivial
        |zero=>
         have hfc:=a7I (P:=P) (w:=w) hx hn i.size
         have hr:=a2B (P:=P) (ty:=ty) hu hi hp (base:=some a') (len:=0) (cap:=c) (n:=0) hln (by omega) (new:=[]) hfc (w₁:=w) rfl
         exact⟨.slice (some a') 0 c,w,φ,by simp only[Sem.run_bind,hr,Result.andThen_ok,Sem.run_pure,Nat.add_zero],.refl φ w,by simp only[VR];exact⟨_,_,rfl⟩,h,rfl⟩
       |_=>trivial
  |_=>trivial
theorem a6C{P:Program}{w:World}{t e ty:TypeId}{ts:List TypeId}{i:TypeInfo}{z':Value}(hu:P.underlying t=some (.slice e))(hi:P.info? e=some i)(hz':i.zero=some z'){t2:TypeId}{k:IntKind}(ht:ts.head? =some t2)(hk:P.underlying t2=some (.int k)){kk:IntKind}{n:Nat}(hn:0<n)(hb:n*i.bytes≤140737488355328)(hs:n<1099511627776)(hsz:n*i.size≠0):
  (Builtin.append_ ⟨t::ts⟩ ty #[.slice none 0 0,.int kk n]).run P w= .ok (.slice (some ⟨w.heap.size,0,none⟩) n (grownCap w n 0 e)) (w.drew.alloc (.cells ⟨(Builtin.zeroCells z'.cells n).toList++(Builtin.zeroCells z'.cells (grownCap w n 0 e-n)).toList⟩ e)):=by
 have h0:(⟨t::ts⟩:Array TypeId)[0]? =some t:=by simp
 have hget:(⟨t::ts⟩:Array TypeId)[1]? =some t2:=by cases ts<;>simp_all
 have hfit:=growslice_fits (need:=n) (old:=0) (bytes:=i.bytes) (by omega) hb
 have hti: ∀w,(typeInfo e).run P w= .ok i w:=fun w=>by simp[typeInfo,hi]
 have hzv: ∀w,(zeroValue e).run P w= .ok z' w:=fun w=>by simp[zeroValue,typeInfo,hi,hz']
 have wn:IntKind.i64.wrap (n:Int)=n:=wrap_small (by omega) (by omega)
 have n0: ¬((n:Int)<0):=by omega
 have nb: ¬(281474976710656<(n:Int)*(i.bytes:Int)):=by
  have h3:((n*i.bytes:Nat):Int)≤((140737488355328:Nat):Int):=Int.ofNat_le.2 hb
  rw[Int.natCast_mul]at h3
  have e47:((140737488355328:Nat):Int)=140737488355328:=rfl
  rw[e47]at h3
  omega
 have n1:n≠0:=by omega
 have n2: ¬(9223372036854775807<(n:Int)):=by omega
 have n3: ¬(281474976710656<Builtin.nextslicecap n 0*i.bytes):=by omega
 have nf:(Question.appendCap n 0 e).forced=false:=rfl
 have arr: ∀(b:List Value) (c:Array Value),((⟨b⟩:Array Value)++c)=⟨b++c.toList⟩:=fun b c=>by apply Array.ext';simp
 have zc: ∀m,Builtin.zeroCells z'.cells m=⟨(Builtin.zeroCells z'.cells m).toList⟩:=fun m=>by simp
 simp[Builtin.append_,hget,run_underlying hu,run_underlying hk,a0H hi,a0t hi,asInt,asIntOf,wn,n0,nb,n1,n2,n3,nf,hti,hzv,hsz,newRow,grownCap,Builtin.firstCells]
 congr 2
 apply Array.ext'
 simp
def a6m(P:Program)(H:VH)(t:TypeId)(xt:Option TypeId)(s x:VV):Out:=
 match P.underlying t,xt with
 |some (.slice e),some t2=>match P.underlying t2,P.info? e,a1a P e with
  |some (.int _),some i,some z=>match s,x with
   |.slice none 0 0,.int _ (.ofNat n)=>match Nat.blt 0 n,Nat.ble (n*i.bytes) 140737488355328,Nat.blt n 1099511627776,Nat.beq (n*i.size) 0,Nat.beq z.cells.length i.size,Nat.blt H.next top with
    |true,true,true,false,true,true=>.val (.slice (some ⟨.loc H.next,0⟩) n n) (H.alloc (.cells (rep n z.cells) (some i.size) 0))
    |_,_,_,_,_,_=>.bad
   |_,_=>.bad
  |_,_,_=>.bad
 |_,_=>.bad
theorem a6l{P:Program}{w0:World}{φ:Phi}{H:VH}{w:World}(h:HSim w0 φ H w){t:TypeId}{ts:List TypeId}{ty:TypeId}{s x:VV}{s' x':Value}(hs:VR φ s s')(hx:VR φ x x'):
  a8j w0 φ H w ((do pure (Next.value (←Builtin.append_ ⟨t::ts⟩ ty #[s',x'])):Sem Next).run P w) (a6m P H t ts.head? s x):=by
 unfold a6m
 split
 ·rename_i e t2 hu ht
  split
  ·rename_i k i z hk hi hz
   split
   ·rename_i kk n
    split
    ·rename_i g1 g2 g3 g4 g5 g6
     simp only[VR]at hs hx
     subst hs hx
     obtain⟨z',hz1,hz2⟩: ∃z',i.zero=some z'∧VR φ z z':=by
      have hz0:=hz
      unfold a1a at hz0
      rw[hi]at hz0
      simp only at hz0
      cases hiz:i.zero with
      |none=>rw[hiz]at hz0;simp at hz0
      |some z'=>rw[hiz]at hz0;exact⟨z',rfl,a5V φ z' z hz0⟩
     have zc:=a1r (a1s hz) hz2
     have g5':z.cells.length=i.size:=Nat.eq_of_beq_eq_true g5
     have hl:=a0V _ _ zc
     simp only[Array.length_toList]at hl
     have hr:=a6C (P:=P) (w:=w) (ty:=ty) (ts:=ts) hu hi hz1 ht hk (kk:=kk) (a1B g1) (Nat.le_of_ble_eq_true g2) (a1B g3) (by intro e0;rw[e0]at g4;simp at g4)
     have hge:n≤grownCap w n 0 e:=grownCap_ge w n 0 e
     have hrep:=a4V zc n
     have hcells:VRs φ (rep n z.cells) (Builtin.zeroCells z'.cells n).toList:=by
      have:Builtin.zeroCells z'.cells n=(Array.range (n*z.cells.length)).map (fun i=>z'.cells[i%z'.cells.size]!):=by rw[hl];rfl
      rw[this];exact hrep
     have hc:=(a3i h).cells (a1B g6) hcells e (some i.size) (grownCap w n 0 e-n) 0 (Builtin.zeroCells z'.cells (grownCap w n 0 e-n)).toList (0,0) (by simp) (by simpa[a5X]using a7W (w:=w) (need:=n) (cap:=0) (e:=e) (by omega:z'.cells.size=i.size)) (fun j _ hx=>by omega)
     have hst:St φ w (φ.ext H.next ⟨w.heap.size,0,grownCap w n 0 e-n⟩) (w.drew.alloc (.cells ⟨(Builtin.zeroCells z'.cells n).toList++(Builtin.zeroCells z'.cells (grownCap w n 0 e-n)).toList⟩ e)):=
      (St.drew (φ:=φ) (w:=w) (w₁:=w.drew) rfl rfl rfl rfl).trans (St.alloc (a3i h) _ _)
     refine⟨.slice (some ⟨w.heap.size,0,none⟩) n (grownCap w n 0 e),_,_,by simp only[Sem.run_bind,Int.ofNat_eq_natCast,hr,Result.andThen_ok,Sem.run_pure],hst, ?_,hc,rfl⟩
     have:=a4O (φ:=φ) (n:=H.next) (b:=w.heap.size) (s:=grownCap w n 0 e-n) (l:=n) (c:=n)
     rwa [show n+(grownCap w n 0 e-n)=grownCap w n 0 e by omega]at this
    ·trivial
   ·trivial
  ·trivial
 ·trivial
end
end Go.Ev
namespace Go.Ev
noncomputable section
def b3K(P:Program)(H:VH)(t:TypeId)(d x:VV):Out:=
 match P.underlying t with
 |some (.slice e)=>match P.info? e,a2A x with
  |some i,some n=>match d with
   |.slice (some a) m _=>match a0U H i.size (Nat.min n m) x with
    |some l=>match a3v H a l with
     |some H₁=>.val (.int .i64 (Nat.min n m)) H₁
     |none=>.bad
    |none=>.bad
   |.slice none 0 _=>match a0U H i.size 0 x with
    |some _=>.val (.int .i64 (Nat.min n 0)) H
    |none=>.bad
   |.sliceE=>match a0U H i.size 0 x with
    |some []=>.val (.int .i64 (Nat.min n 0)) H
    |_=>.bad
   |_=>.bad
  |_,_=>.bad
 |_=>.bad
theorem a9Y{P:Program}{w0:World}{φ:Phi}{H:VH}{w:World}(h:HSim w0 φ H w){t:TypeId}{ts:List TypeId}{ty:TypeId}{d x:VV}{d' x':Value}(hd:VR φ d d')(hx:VR φ x x'):
  a8j w0 φ H w ((do pure (Next.value (←Builtin.copy_ ⟨t::ts⟩ ty #[d',x'])):Sem Next).run P w) (b3K P H t d x):=by
 unfold b3K
 cases hu:P.underlying t with
 |none=>trivial
 |some dd=>cases dd with
  |slice e=>
   simp only
   cases hi:P.info? e with
   |none=>trivial
   |some i=>cases hn:a2A x with
    |none=>trivial
    |some n=>
     simp only
     have hln:=a5O (P:=P) (w:=w) hx hn
     have h0:(⟨t::ts⟩:Array TypeId)[0]? =some t:=by simp
     cases d with
     |slice p m c=>cases p with
      |none=>cases m with
       |zero=>
        simp only
        cases hs:a0U H i.size 0 x with
        |none=>trivial
        |some l=>
         obtain⟨l',f1,f2⟩:=a0r (P:=P) h hx hs
         simp only[VR]at hd
         subst hd
         refine⟨.int .i64 (Nat.min n 0),w,φ, ?_,.refl φ w,by simp[VR],h,rfl⟩
         simp[Builtin.copy_,run_underlying hu,hln,a0H hi,a0t hi,f1,goInt]
       |succ m=>trivial
      |some a=>
       simp only
       cases hs:a0U H i.size (Nat.min n m) x with
       |none=>trivial
       |some l=>
        simp only
        cases hst:a3v H a l with
        |none=>trivial
        |some H₁=>
         obtain⟨l',f1,f2⟩:=a0r (P:=P) h hx hs
         simp only[VR]at hd
         obtain⟨a',s,ha,rfl⟩:=hd
         obtain⟨w₁,g1,g2,⟨bi,binf,bo,hb1,hb2⟩,g4⟩:=a2W (P:=P) h ha hst f2
         refine⟨.int .i64 (Nat.min n m),w₁,φ, ?_,St.upd hb1 hb2,by simp[VR],g2,g4⟩
         simp[Builtin.copy_,run_underlying hu,hln,a0H hi,a0t hi,f1,goInt,g1]
     |sliceE=>
      simp only
      cases hs:a0U H i.size 0 x with
      |none=>trivial
      |some l=>cases l with
       |cons y l=>trivial
       |nil=>
        obtain⟨l',f1,f2⟩:=a0r (P:=P) h hx hs
        simp only[VRs]at f2
        subst f2
        simp only[VR]at hd
        obtain⟨a',c,rfl⟩:=hd
        refine⟨.int .i64 (Nat.min n 0),w,φ, ?_,.refl φ w,by simp[VR],h,rfl⟩
        simp[Builtin.copy_,run_underlying hu,hln,a0H hi,a0t hi,f1,goInt,storeCells]
     |_=>trivial
  |_=>trivial
def b0e(P:Program)(H:VH)(t:TypeId)(x:VV):Out:=
 match x with
 |.slice _ 0 _|.sliceE|.map none=>.val (.tuple []) H
 |.slice (some a) n _=>match P.underlying t with
  |some (.slice e)=>match a1a P e with
   |some z=>match a3v H a (rep n z.cells)with
    |some H₁=>.val (.tuple []) H₁
    |none=>.bad
   |none=>.bad
  |_=>.bad
 |_=>.bad
theorem a8h(φ:Phi):VR φ (.tuple []) (.tuple #[]):=by simp only[VR];exact⟨[],by simp[VRs],rfl⟩
theorem a8P{P:Program}{w0:World}{φ:Phi}{H:VH}{w:World}(h:HSim w0 φ H w){t:TypeId}{d:TypeDesc}(hud:P.underlying t=some d){ts:List TypeId}{ty:TypeId}{x:VV}{x':Value}(hx:VR φ x x'):
  a8j w0 φ H w ((do pure (Next.value (←Builtin.clear_ ⟨t::ts⟩ ty #[x'])):Sem Next).run P w) (b0e P H t x):=by
 unfold b0e
 have triv:(∃a c,x'= .slice a 0 c)∨x'= .map none→a8j w0 φ H w ((do pure (Next.value (←Builtin.clear_ ⟨t::ts⟩ ty #[x'])):Sem Next).run P w) (.val (.tuple []) H):=by
  intro hh
  refine⟨.tuple #[],w,φ, ?_,.refl φ w,a8h φ,h,rfl⟩
  rcases hh with⟨a,c,rfl⟩|rfl
  ·cases a<;>simp[Builtin.clear_,run_underlying hud]
  ·simp[Builtin.clear_,run_underlying hud]
 cases x with
 |slice p n c=>
  cases n with
  |zero=>
   refine triv (.inl ?_)
   cases p<;>simp only[VR]at hx<;>(first|exact⟨_,_,hx⟩|(obtain⟨_,_,_,rfl⟩:=hx;exact⟨_,_,rfl⟩))
  |succ n=>cases p with
   |none=>trivial
   |some a=>
    simp only
    cases hu:P.underlying t with
    |none=>trivial
    |some dd=>cases dd with
     |slice e=>
      simp only
      cases hz:a1a P e with
      |none=>trivial
      |some z=>
       simp only
       cases hst:a3v H a (rep (n+1) z.cells)with
       |none=>trivial
       |some H₁=>
        simp only[VR]at hx
        obtain⟨a',s,ha,rfl⟩:=hx
        obtain⟨z',z1,z2⟩:=a4T (P:=P) (w:=w) hz φ
        have zc:=a1r (a1s hz) z2
        have hl:=a0V _ _ zc
        simp only[Array.length_toList]at hl
        have hr:=a4V zc (n+1)
        obtain⟨w₁,g1,g2,⟨bi,binf,bo,hb1,hb2⟩,g4⟩:=a2W (P:=P) h ha hst hr
        refine⟨.tuple #[],w₁,φ, ?_,St.upd hb1 hb2,a8h φ,g2,g4⟩
        rw[hl]at g1
        have hzc:Builtin.zeroCells z'.cells (n+1)=(Array.range ((n+1)*z'.cells.size)).map (fun i=>z'.cells[i%z'.cells.size]!):=rfl
        rw[←hzc]at g1
        simp[Builtin.clear_,run_underlying hu,z1,g1]
     |_=>trivial
 |sliceE=>refine triv (.inl ?_);simp only[VR]at hx;obtain⟨_,_,rfl⟩:=hx;exact⟨_,_,rfl⟩
 |map b=>cases b with
  |none=>simp only[VR]at hx;exact triv (.inr hx)
  |some b=>trivial
 |_=>trivial
def a6j(P:Program)(g:FuncId)(args:List VV):Out:=
 match P.funcs[g]? with
 |some fn=>match fn.body with
  |some _=>.enter g args
  |none=>.bad
 |none=>.bad
def b0q(P:Program):Prop:= ∀(g:FuncId) (fn:Func),P.funcs[g]? =some fn→(fn.name== "runtime.NumGoroutine")=false
theorem a4j{P:Program}(hng:b0q P){w0:World}{φ:Phi}{H:VH}{w:World}{g:FuncId}{args:List VV}{args':List Value}(ha:VRs φ args args'):
  a8j w0 φ H w ((callFunc g ⟨args'⟩).run P w) (a6j P g args):=by
 unfold a6j
 cases hf:P.funcs[g]? with
 |none=>trivial
 |some fn=>
  simp only
  cases hb:fn.body with
  |none=>trivial
  |some c=>
   simp only
   refine⟨args', ?_,ha⟩
   have hn:=hng g fn hf
   simp only[callFunc,Sem.run_bind,run_program,Result.andThen_ok,hf,hn,hb]
   simp
def b3M(P:Program)(H:VH)(f:VV)(args:List VV):Out:=
 match f with
 |.func (.func g) first cap=>a6j P g (first++(args++cap))
 |.yield i=>match H.locs.get i with
  |some (.loop _ _ _ _ params _ _)=>match Nat.beq args.length params.length with
   |true=>.round i args
   |false=>.bad
  |_=>.bad
 |_=>.bad
def b0g(P:Program)(c:Call)(a:VT)(H:VH):Out:=
 match c.callee with
 |.value f=>match a0C a f,a0d a c.args.toList with
  |some f,some vs=>b3M P H f vs
  |_,_=>.bad
 |.builtin b=>match b,c.args,c.argTypes with
  |.append,⟨[s,x]⟩,⟨t::ts⟩=>match a0C a s,a0C a x with
   |some s,some x=>match a1l P ts.head? with
    |true=>a8U P H t ts.head? s x
    |false=>a6m P H t ts.head? s x
   |_,_=>.bad
  |.copy,⟨[d,x]⟩,⟨t::_⟩=>match a0C a d,a0C a x with
   |some d,some x=>b3K P H t d x
   |_,_=>.bad
  |.clear,⟨[x]⟩,⟨t::_⟩=>match a0C a x,P.underlying t with
   |some x,some _=>b0e P H t x
   |_,_=>.bad
  |_,_,_=>.bad
 |_=>.bad
def evE(P:Program)(o:Op)(a:VT)(H:VH):Out:=
 match o with
 |.alloc _|.box _ _|.buildSlice _ _ _|.makeMap _ _|.makeSlice _ _ _=>b1l H (a2y P o a)
 |.store t x y=>match a0C a x,a0C a y,P.info? t with
  |some (.ptr (some ad)),some v,some i=>match Nat.beq v.cells.length i.size,a3v H ad v.cells with
   |true,some H₁=>.skip H₁
   |_,_=>.bad
  |_,_,_=>.bad
 |.mapUpdate t m k v|.insert t m k v=>match a0C a m,a0C a k,a0C a v with
  |some m,some k,some v=>a8I P H t m k v
  |_,_,_=>.bad
 |.call c=>b0g P c a H
 |_=>.bad
theorem a8S{P:Program}(hng:b0q P){w0:World}{φ:Phi}{a:VT}{act:Act}{H:VH}{w:World}(ht:TR φ a act.tmps)(hs:HSim w0 φ H w)(c:Call)(o:Oper)(ho:o.op= .call c):
  a8j w0 φ H w ((execOp act.eval o).run P w) (b0g P c a H):=by
 obtain⟨cal,args,ts⟩:=c
 unfold b0g
 cases cal with
 |invoke r n=>trivial
 |builtin b=>
  simp only
  have run: ∀(args':Array Value),args.map act.eval=args'→(execOp act.eval o).run P w=(builtin b ts o.type (args.map fun|.const _=>true|_=>false) args').run P w:=by
   intro args' h
   unfold execOp
   rw[ho]
   simp[resolve,h,invoke]
   rfl
  split
  ·rename_i s x t ts'
   rw[run #[act.eval s,act.eval x] (by simp)]
   cases h1:a0C a s with
   |none=>trivial
   |some u=>cases h2:a0C a x with
    |none=>trivial
    |some v=>
     simp only
     cases a1l P ts'.head? with
     |true=>exact a7G hs (a0D ht h1) (a0D ht h2)
     |false=>exact a6l hs (a0D ht h1) (a0D ht h2)
  ·rename_i d x t ts'
   rw[run #[act.eval d,act.eval x] (by simp)]
   cases h1:a0C a d with
   |none=>trivial
   |some u=>cases h2:a0C a x with
    |none=>trivial
    |some v=>exact a9Y hs (a0D ht h1) (a0D ht h2)
  ·rename_i x t ts'
   rw[run #[act.eval x] (by simp)]
   cases h1:a0C a x with
   |none=>trivial
   |some u=>cases h2:P.underlying t with
    |none=>trivial
    |some d=>exact a8P hs h2 (a0D ht h1)
  ·trivial
 |value f=>
  simp only
  cases hf:a0C a f with
  |none=>trivial
  |some fv=>cases hv:a0d a args.toList with
   |none=>trivial
   |some vs=>
    simp only
    have hfr:=a0D ht hf
    have hvr:=a1O ht _ _ hv
    unfold b3M
    cases fv with
    |func fn first cap=>
     cases fn with
     |func g=>
      simp only[VR]at hfr
      obtain⟨first',cap',_,h1,h2,h3⟩:=hfr
      have he:=a4j hng (w0:=w0) (H:=H) (w:=w) (g:=g) (a2n h1 (a2n hvr h2))
      have hrun:(execOp act.eval o).run P w=(callFunc g ⟨first'++(args.toList.map act.eval++cap')⟩).run P w:=by
       unfold execOp
       rw[ho]
       simp only[resolve,h3,Deferred.ofValue,Sem.run_bind,Sem.run_pure,Result.andThen_ok,invoke]
       congr 2
       apply Array.ext'
       simp
      rw[hrun]
      exact he
     |_=>trivial
    |yield i=>
     simp only
     cases hg:H.locs.get i with
     |none=>trivial
     |some vo=>cases vo with
      |loop st pend tm nt params asg body=>
       simp only
       cases hb:Nat.beq vs.length params.length with
       |false=>trivial
       |true=>
        obtain⟨inf,o',h1,h2,⟨tmps',fn,d,rfl,h3,h4⟩,_⟩:=hs.live i _ hg
        simp only[VR]at hfr
        obtain⟨inf',h1',hfe⟩:=hfr
        rw[h1]at h1';cases h1'
        have hl:=a0V _ _ hvr
        have hlen:(args.toList.map act.eval).length=params.length:=by rw[←hl];exact Nat.eq_of_beq_eq_true hb
        refine⟨inf,_,args.toList.map act.eval,h1,h2,by simpa using hlen,hvr, ?_⟩
        unfold execOp
        rw[ho]
        have hge:(getObj inf.blk).run P w= .ok (.loop {state:=st,pending:=pend,fn:=fn,tmps:=tmps',params:=⟨params⟩,assign:=asg,body:=body,defers:=d}) w:=by simp[getObj,Sem.run,h2]
        have hsz:(args.map act.eval).size=params.length:=by rw[←hlen];simp
        have hargs:args.map act.eval=⟨args.toList.map act.eval⟩:=by apply Array.ext';simp
        have hgl:(Instr.getLoop inf.blk).run P w= .ok {state:=st,pending:=pend,fn:=fn,tmps:=tmps',params:=⟨params⟩,assign:=asg,body:=body,defers:=d} w:=by simp[Instr.getLoop,hge]
        have hne: ¬((#[]++args.map act.eval:Array Value).size≠(⟨params⟩:Array Tmp).size):=by simpa using hsz
        simp only[resolve,hfe,Deferred.ofValue,Sem.run_bind,Sem.run_pure,Result.andThen_ok,invoke,Instr.yield,hgl]
        rw[if_neg hne]
        simp only[Sem.run_pure]
        rw[←hargs]
        simp only[Array.empty_append]
      |_=>trivial
    |_=>trivial
theorem a9X{P:Program}(hng:b0q P){w0:World}{φ:Phi}{a:VT}{act:Act}{H:VH}{w:World}(ht:TR φ a act.tmps)(hs:HSim w0 φ H w)(o:Oper):
  a8j w0 φ H w ((execOp act.eval o).run P w) (evE P o.op a H):=by
 obtain⟨dst,op,type,pos,after,guard⟩:=o
 simp only
 cases op with
 |alloc t=>exact a2L hs fun k vo h=>a1R ht _ h
 |box t x=>exact a2L hs fun k vo h=>a1R ht _ h
 |buildSlice t len parts=>exact a2L hs fun k vo h=>a1R ht _ h
 |makeMap t r=>exact a2L hs fun k vo h=>a1R ht _ h
 |makeSlice t l c=>exact a2L hs fun k vo h=>a1R ht _ h
 |store t x y=>
  simp only[evE]
  cases hx:a0C a x with
  |none=>trivial
  |some u=>cases u with
   |ptr p=>cases p with
    |none=>cases hy:a0C a y<;>cases hi:P.info? t<;>trivial
    |some ad=>cases hy:a0C a y with
     |none=>trivial
     |some v=>cases hi:P.info? t with
      |none=>trivial
      |some i=>
       simp only
       cases hb:Nat.beq v.cells.length i.size with
       |false=>trivial
       |true=>cases hst:a3v H ad v.cells with
        |none=>trivial
        |some H₁=>
         have hxr:=a0D ht hx
         have hyr:=a1r (a1z hy) (a0D ht hy)
         simp only[VR]at hxr
         obtain⟨a',s,ha,hxe⟩:=hxr
         obtain⟨w₁,g1,g2,⟨bi,binf,bo,hb1,hb2⟩,g4⟩:=a2W (P:=P) hs ha hst hyr
         refine⟨w₁,φ, ?_,St.upd hb1 hb2,g2,g4⟩
         have hl:=a0V _ _ hyr
         simp only[Array.length_toList]at hl
         have hsz:(act.eval y).cells.size=i.size:=by rw[←hl];exact Nat.eq_of_beq_eq_true hb
         simp[execOp,Instr.storeAt,hxe,Instr.sureAddr,storeVar,a0H hi,a0t hi,hsz,g1]
   |_=>cases hy:a0C a y<;>cases hi:P.info? t<;>trivial
 |mapUpdate t m k v=>
  simp only[evE]
  cases hm:a0C a m with
  |none=>trivial
  |some x=>cases hk:a0C a k with
   |none=>trivial
   |some y=>cases hv:a0C a v with
    |none=>trivial
    |some z=>exact a3x hs (a0D ht hm) (a0D ht hk) (a0D ht hv)
 |insert t m k v=>
  simp only[evE]
  cases hm:a0C a m with
  |none=>trivial
  |some x=>cases hk:a0C a k with
   |none=>trivial
   |some y=>cases hv:a0C a v with
    |none=>trivial
    |some z=>exact a3x hs (a0D ht hm) (a0D ht hk) (a0D ht hv)
 |call c=>exact a8S hng ht hs c _ rfl
 |_=>trivial
end
end Go.Ev
