/- Engine, part I: append, copy, the other operations that write. -/
import Derived.Test.YtcblehiddfnafaaEvH
import Derived.Laws.AppendOwn
namespace Go.Ev
noncomputable section
theorem grow_spare{w:World}{need cap:Nat}{e:TypeId}{z:Array Value}{size:Nat}(hz:z.size=size):(grownCap w need cap e-need)*size≤(Builtin.zeroCells z (grownCap w need cap e-need)).toList.length:=by
 rw[Array.length_toList]
 simp[Builtin.zeroCells,hz]
theorem drew_sim{w0:World}{φ:Phi}{H:VH}{w:World}(h:HSim w0 φ H w):HSim w0 φ H w.drew:=h.heap rfl
theorem append_re{P:Program}{w0:World}{φ:Phi}{H:VH}{w:World}(h:HSim w0 φ H w)(hnx:H.next<top){t e:TypeId}{ts:List TypeId}{ty:TypeId}{i:TypeInfo}{z':Value}(hu:P.underlying t=some (.slice e))(hi:P.info? e=some i)(hz:i.zero=some z')(hzs:z'.cells.size=i.size)
  (hp:plainArg P ts.head? =true) {base:Option Addr} {len cap n:Nat} {x':Value} (hln:(Builtin.lenOf x').run P w= .ok n w) (hlt:cap<len+n) (hb:(len+n)*i.bytes≤140737488355328) (hsm:len+n<1099511627776)
  {old new:List VV} {old' new':List Value} (ho:(Builtin.firstCells i.size len (.slice base len cap)).run P w.drew= .ok ⟨old'⟩ w.drew) (hn:(Builtin.firstCells i.size n x').run P w.drew= .ok ⟨new'⟩ w.drew) (vo:VRs φ old old') (vn:VRs φ new new')
  {H':VH} (h':HSim w0 φ H' w) (hH:H'.next=H.next) (hB:H'.base=H.base) (ro:Nat):
  OutR w0 φ H w ((do pure (Next.value (←Builtin.append_ ⟨t::ts⟩ ty #[.slice base len cap,x'])):Sem Next).run P w)
   (.val (.slice (some ⟨.loc H.next,0⟩) (len+n) (len+n)) (H'.alloc (.cells (old++new) (some i.size) ro))):=by
 have hr:=run_append_out (P:=P) (ty:=ty) hu hi hz hp hln hlt hb hsm ho hn
 have hge:=grownCap_ge w (len+n) cap e
 have hc:=(drew_sim h').cells (by rw[hH];exact hnx) (VRs_append vo vn) e (some i.size) (grownCap w (len+n) cap e-(len+n)) ro (Builtin.zeroCells z'.cells (grownCap w (len+n) cap e-(len+n))).toList (0,0) (by simp) (by simpa[spare]using grow_spare (w:=w) (need:=len+n) (cap:=cap) (e:=e) hzs) (fun j _ hx=>by omega)
 rw[hH]at hc
 have hst:St φ w (φ.ext H.next ⟨w.heap.size,0,grownCap w (len+n) cap e-(len+n)⟩) (w.drew.alloc (.cells ⟨old'++(new'++(Builtin.zeroCells z'.cells (grownCap w (len+n) cap e-(len+n))).toList)⟩ e)):=
  (St.drew (φ:=φ) (w:=w) (w₁:=w.drew) rfl rfl rfl rfl).trans (St.alloc (drew_sim h) _ _)
 refine⟨.slice (some ⟨w.heap.size,0,none⟩) (len+n) (grownCap w (len+n) cap e),_,_,by simp only[Sem.run_bind,hr,Result.andThen_ok,Sem.run_pure],hst, ?_, ?_,hB⟩
 ·have:=VR_newSlice (φ:=φ) (n:=H.next) (b:=w.heap.size) (s:=grownCap w (len+n) cap e-(len+n)) (l:=len+n) (c:=len+n)
  rwa [show len+n+(grownCap w (len+n) cap e-(len+n))=grownCap w (len+n) cap e by omega]at this
 ·rw[←List.append_assoc]
  exact hc
theorem append_in{P:Program}{w0:World}{φ:Phi}{H:VH}{w:World}(h:HSim w0 φ H w)(hnx:H.next<top){t e:TypeId}{ts:List TypeId}{ty:TypeId}{i:TypeInfo}(hu:P.underlying t=some (.slice e))(hi:P.info? e=some i)
  (hp:plainArg P ts.head? =true) {b o:Nat} {inf:Inf} (hφ:φ b=some inf) {c:List VV} {ro:Nat} (hg:H.locs.get b=some (.cells c (some i.size) ro)) {len cap n:Nat} {x':Value} (hln:(Builtin.lenOf x').run P w= .ok n w) (hle:len+n≤cap+inf.slack) (_hgt:cap<len+n)
  (hend:o+cap*i.size=c.length) (hro:ro≤o+len*i.size) {old new:List VV} {new':List Value} (hold:hload H ⟨.loc b,o⟩ (len*i.size)=some old) (hn:(Builtin.firstCells i.size n x').run P w= .ok ⟨new'⟩ w) (vn:VRs φ new new') (hnl:new.length=n*i.size) (hfl:flat new=true):
  OutR w0 φ H w ((do pure (Next.value (←Builtin.append_ ⟨t::ts⟩ ty #[.slice (some ⟨inf.blk,inf.off+o,none⟩) len (cap+inf.slack),x'])):Sem Next).run P w)
   (.val (.slice (some ⟨.loc H.next,0⟩) (len+n) (len+n)) {H with locs:=(H.locs.del b).put H.next (.cells (old++new) (some i.size) (ro-o)),next:=H.next+1}):=by
 obtain⟨inf',o',hφ',hw,⟨cr,e0,fr,rfl,hc⟩,_⟩:=h.live b _ hg
 rw[hφ]at hφ';cases hφ'
 have hsz:=hc.size
 simp only[spare]at hsz
 have hnl':new'.length=n*i.size:=by rw[←VRs_length _ _ vn,hnl]
 have hmul:(len+n)*i.size≤(cap+inf.slack)*i.size:=Nat.mul_le_mul_right _ hle
 rw[Nat.add_mul,Nat.add_mul]at hmul
 have hcomm:inf.slack*i.size=inf.slack*i.size:=rfl
 obtain⟨w₁,c₁,r1,r2,r3,r4⟩:=run_storeCells (P:=P) (b:=inf.blk) (o:=inf.off+o+len*i.size) (e:=e0) (fr:=fr) new' 0 cr w hw (by omega) (fun j hj=>by
  have:=hc.free (o+len*i.size+j) (by omega) (by simp only[spare];omega)
  rwa [show inf.off+o+len*i.size+0+j=inf.off+(o+len*i.size+j)by omega]) (VRs_flat _ _ vn hfl)
 have hadd:(⟨inf.blk,inf.off+o,none⟩:Addr).add (len*i.size)=⟨inf.blk,inf.off+o+len*i.size,none⟩:=Addr.add_lit _ _ _
 have hr:=run_append_in (P:=P) (ty:=ty) hu hi hp (base:=some ⟨inf.blk,inf.off+o,none⟩) (len:=len) (cap:=cap+inf.slack) (n:=n) hln hle hn (w₁:=w₁) (by simp only;rw[hadd];exact r1)
 have hold2:old=(c.drop o).take (len*i.size)∧len*i.size≤c.length-o:=by
  unfold hload at hold
  simp only[hg]at hold
  obtain⟨k1,k2⟩:=takeN_eq _ _ _ hold
  rw[dropN_eq]at k1 k2
  exact⟨k2,by simpa using k1⟩
 have hol:old.length=len*i.size:=by rw[hold2.1];simp;omega
 refine⟨.slice (some ⟨inf.blk,inf.off+o,none⟩) (len+n) (cap+inf.slack),w₁,φ.ext H.next ⟨inf.blk,inf.off+o,cap+inf.slack-(len+n)⟩,by simp only[Sem.run_bind,hr,Result.andThen_ok,Sem.run_pure], ?_, ?_, ?_,rfl⟩
 ·refine⟨Phi.le_ext _ (h.fresh _ (Nat.le_refl _)),r2.wk,fun k _ hk=>r2.there k (fun e=>hk b inf hφ e.symm),fun j jnf hj=> ?_⟩
  simp only[Phi.ext]at hj
  split at hj
  ·cases hj;exact .inl ⟨b,inf,hφ,rfl⟩
  ·exact .inl ⟨j,jnf,hj,rfl⟩
 ·simp only[VR]
  refine⟨⟨inf.blk,inf.off+o,none⟩,cap+inf.slack-(len+n), ?_, ?_⟩
  ·unfold AR;exact⟨_,Phi.ext_self _ _ _,rfl,rfl⟩
  ·rw[show len+n+(cap+inf.slack-(len+n))=cap+inf.slack by omega]
 ·refine h.regrow hg hφ ⟨inf.blk,inf.off+o,cap+inf.slack-(len+n)⟩ rfl r2 ⟨c₁,e0,fr,rfl,⟨?_,by simp, ?_, ?_⟩⟩ hnx
  ·simp only[spare,List.length_append,hol,hnl,r3]
   have:(cap+inf.slack-(len+n))*i.size=(cap+inf.slack)*i.size-(len+n)*i.size:=Nat.sub_mul _ _ _
   rw[this,Nat.add_mul,Nat.add_mul]
   omega
  ·intro j x hx
   have hle':=Phi.le_ext (φ:=φ) ⟨inf.blk,inf.off+o,cap+inf.slack-(len+n)⟩ (h.fresh H.next (Nat.le_refl _))
   simp only at*
   rw[r4]
   by_cases hj:j<old.length
   ·rw[List.getElem?_append_left hj,hold2.1,List.getElem?_take,if_pos (by omega),List.getElem?_drop]at hx
    rw[if_neg (by omega)]
    obtain⟨y,h1,h2⟩:=hc.cell _ x hx
    exact⟨y,by rw[show inf.off+o+j=inf.off+(o+j)by omega];exact h1,h2.mono hle'⟩
   ·rw[List.getElem?_append_right (by omega)]at hx
    have hlt:=(List.getElem?_eq_some_iff.1 hx).1
    rw[if_pos ⟨by omega,by omega⟩]
    obtain⟨y,h1,h2⟩:=VRs_get _ _ vn _ x hx
    exact⟨y,by rw[show inf.off+o+j-(inf.off+o+len*i.size+0)=j-old.length by omega];exact h1,h2.mono hle'⟩
  ·intro j hj1 hj2
   simp only[spare,List.length_append,hol,hnl]at hj2
   have e2:(cap+inf.slack-(len+n))*i.size=(cap+inf.slack)*i.size-(len+n)*i.size:=Nat.sub_mul _ _ _
   rw[e2,Nat.add_mul,Nat.add_mul]at hj2
   have:=hc.free (o+j) (by omega) (by simp only[spare];omega)
   rwa [show inf.off+o+j=inf.off+(o+j)by omega]
theorem evAppend_sound{P:Program}{w0:World}{φ:Phi}{H:VH}{w:World}(h:HSim w0 φ H w){t:TypeId}{ts:List TypeId}{ty:TypeId}{s x:VV}{s' x':Value}(hs:VR φ s s')(hx:VR φ x x'):
  OutR w0 φ H w ((do pure (Next.value (←Builtin.append_ ⟨t::ts⟩ ty #[s',x'])):Sem Next).run P w) (evAppend P H t ts.head? s x):=by
 unfold evAppend
 cases hu:P.underlying t with
 |none=>trivial
 |some d=>cases d with
  |slice e=>
   simp only
   cases hp:plainArg P ts.head? with
   |false=>trivial
   |true=>cases hi:P.info? e with
    |none=>trivial
    |some i=>cases hz:tzero P e with
     |none=>trivial
     |some z=>cases hn:srcLen x with
      |none=>trivial
      |some n=>
       simp only
       have hln:=srcLen_sound (P:=P) (w:=w) hx hn
       cases s with
       |slice base len cap=>
        simp only[OutR]
        refine⟨fun hle=> ?_,fun hgt=> ?_⟩
        ·have hle':len+n≤cap:=Nat.le_of_ble_eq_true hle
         cases n with
         |zero=>
          have hfc:=src0_sound (P:=P) (w:=w) hx hn i.size
          have fin: ∀(b':Option Addr) (c':Nat),cap≤c'→VR φ (.slice base len cap) (.slice b' len c')→OutR w0 φ H w ((do pure (Next.value (←Builtin.append_ ⟨t::ts⟩ ty #[.slice b' len c',x'])):Sem Next).run P w) (.val (.slice base len cap) H):=by
           intro b' c' hc hv
           have hr:=run_append_in (P:=P) (ty:=ty) hu hi hp (base:=b') (len:=len) (cap:=c') (n:=0) hln (by omega) (new:=[]) hfc (w₁:=w) (by cases b'<;>rfl)
           exact⟨.slice b' len c',w,φ,by simp only[Sem.run_bind,hr,Result.andThen_ok,Sem.run_pure,Nat.add_zero],.refl φ w,hv,h,rfl⟩
          cases base with
          |none=>simp only[VR]at hs;subst hs;exact fin none cap (Nat.le_refl _) (by simp only[VR])
          |some a=>
           have hs':=hs
           simp only[VR]at hs'
           obtain⟨a',sl,ha,rfl⟩:=hs'
           exact fin (some a') (cap+sl) (by omega) hs
         |succ n=>
          cases base with
          |none=>trivial
          |some a=>
           simp only
           cases hsc:srcCells H i.size (n+1) x with
           |none=>trivial
           |some new=>
            simp only
            cases hst:hstore H (a.add (len*i.size)) new with
            |none=>trivial
            |some H₁=>
             simp only[VR]at hs
             obtain⟨a',sl,ha,rfl⟩:=hs
             obtain⟨new',f1,f2⟩:=srcCells_sound (P:=P) h hx hsc
             obtain⟨w₁,g1,g2,g3,g4⟩:=hstore_sound (P:=P) h (ha.add (len*i.size)) hst f2
             have hr:=run_append_in (P:=P) (ty:=ty) hu hi hp (base:=some a') (len:=len) (cap:=cap+sl) (n:=n+1) hln (by omega) f1 (w₁:=w₁) g1
             obtain⟨bi,binf,bo,hb1,hb2⟩:=g3
             exact⟨.slice (some a') (len+(n+1)) (cap+sl),w₁,φ,by simp only[Sem.run_bind,hr,Result.andThen_ok,Sem.run_pure],St.upd hb1 hb2,by simp only[VR];exact⟨a',sl,ha,rfl⟩,g2,g4⟩
        ·intro hb hsm
         have hb':(len+n)*i.bytes≤140737488355328:=Nat.le_of_ble_eq_true hb
         have hsm':=lt_of_blt hsm
         have hgt':cap<len+n:=by
          rcases Nat.lt_or_ge cap (len+n)with h1|h1
          ·exact h1
          ·have:=Nat.ble_eq_true_of_le h1;rw[this]at hgt;cases hgt
         obtain⟨z',hz1,hz2⟩: ∃z',i.zero=some z'∧emb z'=some z:=by
          have hz0:=hz
          unfold tzero at hz0
          rw[hi]at hz0
          simp only at hz0
          cases hiz:i.zero with
          |none=>rw[hiz]at hz0;cases hz0
          |some z'=>rw[hiz]at hz0;exact⟨z',rfl,hz0⟩
         have hzl:=VRs_length _ _ (VR_cells (emb_notAny z' z hz2) (VR_emb φ z' z hz2))
         simp only[Array.length_toList]at hzl
         cases hbz:Nat.beq z.cells.length i.size with
         |false=>trivial
         |true=>cases hnx:Nat.blt H.next top with
          |false=>trivial
          |true=>
           have hbz':z'.cells.size=i.size:=by rw[←hzl];exact Nat.eq_of_beq_eq_true hbz
           have hnx':=lt_of_blt hnx
           simp only
           cases hso:srcCells H i.size len (.slice base len cap)with
           |none=>trivial
           |some old=>cases hsn:srcCells H i.size n x with
            |none=>trivial
            |some new=>
             simp only
             obtain⟨old',o1,o2⟩:=srcCells_sound (P:=P) (drew_sim h) hs hso
             obtain⟨new',n1,n2⟩:=srcCells_sound (P:=P) (drew_sim h) hx hsn
             have hln':(Builtin.lenOf x').run P w= .ok n w:=hln
             have re: ∀(b':Option Addr) (c':Nat) (H':VH) (ro:Nat),s'= .slice b' len c'→c'<len+n→HSim w0 φ H' w→H'.next=H.next→H'.base=H.base→
               (Builtin.firstCells i.size len (.slice b' len c')).run P w.drew= .ok ⟨old'⟩ w.drew→
               OutR w0 φ H w ((do pure (Next.value (←Builtin.append_ ⟨t::ts⟩ ty #[s',x'])):Sem Next).run P w) (.val (.slice (some ⟨.loc H.next,0⟩) (len+n) (len+n)) (H'.alloc (.cells (old++new) (some i.size) ro))):=by
              intro b' c' H' ro hs1 hc1 hH' hN hB ho
              subst hs1
              exact append_re h hnx' hu hi hz1 hbz' hp hln hc1 hb' hsm' ho n1 o2 n2 hH' hN hB ro
             cases base with
             |none=>
              simp only[VR]at hs
              exact re none cap H 0 hs hgt' h rfl rfl (by rw[hs]at o1;exact o1)
             |some a=>
              have hs0:=hs
              simp only[VR]at hs0
              obtain⟨a',sl,ha,hs1⟩:=hs0
              obtain⟨ab,ao⟩:=a
              rw[hs1]at o1
              simp only
              cases ab with
              |base r=>
               have hsl:sl=0:=by unfold AR at ha;exact ha.2
               subst hsl
               exact re (some a') cap H 0 hs1 hgt' h rfl rfl o1
              |sym r=>trivial
              |loc b=>
               simp only
               cases hg:H.locs.get b with
               |none=>trivial
               |some ob=>cases ob with
                |cells c g ro=>cases g with
                 |none=>
                  have hsl:sl=0:=fixedAt_sound h ha (by simp[fixedAt,hg])
                  subst hsl
                  exact re (some a') cap H 0 hs1 hgt' h rfl rfl o1
                 |some sz=>
                  simp only
                  cases hq1:Nat.beq sz i.size with
                  |false=>trivial
                  |true=>cases hq2:Nat.beq (ao+cap*i.size) c.length with
                   |false=>trivial
                   |true=>cases hq3:Nat.ble ro (ao+len*i.size)with
                    |false=>trivial
                    |true=>cases hq4:flat new with
                     |false=>trivial
                     |true=>
                      have hsz:sz=i.size:=Nat.eq_of_beq_eq_true hq1
                      subst hsz
                      unfold AR at ha
                      simp only at ha
                      obtain⟨inf,hφ,rfl,rfl⟩:=ha
                      by_cases hin:len+n≤cap+inf.slack
                      ·rw[hs1]
                       obtain⟨new2,m1,m2⟩:=srcCells_sound (P:=P) h hx hsn
                       exact append_in h hnx' hu hi hp hφ hg hln hin hgt' (Nat.eq_of_beq_eq_true hq2) (Nat.le_of_ble_eq_true hq3) (by simpa[srcCells]using hso) m1 m2 (srcCells_length h hx hn hsn) hq4
                      ·have hlt2:b<top:=Nat.lt_trans (h.lt hφ) hnx'
                       exact re (some ⟨inf.blk,inf.off+ao,none⟩) (cap+inf.slack) {H with locs:=H.locs.del b} (ro-ao) hs1 (by omega) (h.del hlt2) rfl rfl o1
                |_=>trivial
       |sliceE=>
        simp only[VR]at hs
        obtain⟨a',c,rfl⟩:=hs
        cases n with
        |succ n=>trivial
        |zero=>
         have hfc:=src0_sound (P:=P) (w:=w) hx hn i.size
         have hr:=run_append_in (P:=P) (ty:=ty) hu hi hp (base:=some a') (len:=0) (cap:=c) (n:=0) hln (by omega) (new:=[]) hfc (w₁:=w) rfl
         exact⟨.slice (some a') 0 c,w,φ,by simp only[Sem.run_bind,hr,Result.andThen_ok,Sem.run_pure,Nat.add_zero],.refl φ w,by simp only[VR];exact⟨_,_,rfl⟩,h,rfl⟩
       |_=>trivial
  |_=>trivial
theorem run_append_zero{P:Program}{w:World}{t e ty:TypeId}{ts:List TypeId}{i:TypeInfo}{z':Value}(hu:P.underlying t=some (.slice e))(hi:P.info? e=some i)(hz':i.zero=some z'){t2:TypeId}{k:IntKind}(ht:ts.head? =some t2)(hk:P.underlying t2=some (.int k)){kk:IntKind}{n:Nat}(hn:0<n)(hb:n*i.bytes≤140737488355328)(hs:n<1099511627776)(hsz:n*i.size≠0):
  (Builtin.append_ ⟨t::ts⟩ ty #[.slice none 0 0,.int kk n]).run P w= .ok (.slice (some ⟨w.heap.size,0,none⟩) n (grownCap w n 0 e)) (w.drew.alloc (.cells ⟨(Builtin.zeroCells z'.cells n).toList++(Builtin.zeroCells z'.cells (grownCap w n 0 e-n)).toList⟩ e)):=by
 have h0:(⟨t::ts⟩:Array TypeId)[0]? =some t:=by simp
 have hget:(⟨t::ts⟩:Array TypeId)[1]? =some t2:=by cases ts<;>simp_all
 have hfit:=growslice_fits (need:=n) (old:=0) (bytes:=i.bytes) (by omega) hb
 have hti: ∀w,(typeInfo e).run P w= .ok i w:=fun w=>by simp[typeInfo,hi]
 have hzv: ∀w,(zeroValue e).run P w= .ok z' w:=fun w=>by simp[zeroValue,typeInfo,hi,hz']
 have wn:IntKind.i64.wrap (n:Int)=n:=wrap_small (by omega) (by omega)
 have n0: ¬((n:Int)<0):=by omega
 have nb: ¬(281474976710656<(n:Int)*(i.bytes:Int)):=by
  have h3:((n*i.bytes:Nat):Int)≤((140737488355328:Nat):Int):=Int.ofNat_le.2 hb
  rw[Int.natCast_mul]at h3
  have e47:((140737488355328:Nat):Int)=140737488355328:=rfl
  rw[e47]at h3
  omega
 have n1:n≠0:=by omega
 have n2: ¬(9223372036854775807<(n:Int)):=by omega
 have n3: ¬(281474976710656<Builtin.nextslicecap n 0*i.bytes):=by omega
 have nf:(Question.appendCap n 0 e).forced=false:=rfl
 have arr: ∀(b:List Value) (c:Array Value),((⟨b⟩:Array Value)++c)=⟨b++c.toList⟩:=fun b c=>by apply Array.ext';simp
 have zc: ∀m,Builtin.zeroCells z'.cells m=⟨(Builtin.zeroCells z'.cells m).toList⟩:=fun m=>by simp
 simp[Builtin.append_,hget,run_underlying hu,run_underlying hk,run_sizeOf' hi,tsize_eq hi,asInt,asIntOf,wn,n0,nb,n1,n2,n3,nf,hti,hzv,hsz,newRow,grownCap,Builtin.firstCells]
 congr 2
 apply Array.ext'
 simp
def evAppendZ(P:Program)(H:VH)(t:TypeId)(xt:Option TypeId)(s x:VV):Out:=
 match P.underlying t,xt with
 |some (.slice e),some t2=>match P.underlying t2,P.info? e,tzero P e with
  |some (.int _),some i,some z=>match s,x with
   |.slice none 0 0,.int _ (.ofNat n)=>match Nat.blt 0 n,Nat.ble (n*i.bytes) 140737488355328,Nat.blt n 1099511627776,Nat.beq (n*i.size) 0,Nat.beq z.cells.length i.size,Nat.blt H.next top with
    |true,true,true,false,true,true=>.val (.slice (some ⟨.loc H.next,0⟩) n n) (H.alloc (.cells (rep n z.cells) (some i.size) 0))
    |_,_,_,_,_,_=>.bad
   |_,_=>.bad
  |_,_,_=>.bad
 |_,_=>.bad
theorem evAppendZ_sound{P:Program}{w0:World}{φ:Phi}{H:VH}{w:World}(h:HSim w0 φ H w){t:TypeId}{ts:List TypeId}{ty:TypeId}{s x:VV}{s' x':Value}(hs:VR φ s s')(hx:VR φ x x'):
  OutR w0 φ H w ((do pure (Next.value (←Builtin.append_ ⟨t::ts⟩ ty #[s',x'])):Sem Next).run P w) (evAppendZ P H t ts.head? s x):=by
 unfold evAppendZ
 split
 ·rename_i e t2 hu ht
  split
  ·rename_i k i z hk hi hz
   split
   ·rename_i kk n
    split
    ·rename_i g1 g2 g3 g4 g5 g6
     simp only[VR]at hs hx
     subst hs hx
     obtain⟨z',hz1,hz2⟩: ∃z',i.zero=some z'∧VR φ z z':=by
      have hz0:=hz
      unfold tzero at hz0
      rw[hi]at hz0
      simp only at hz0
      cases hiz:i.zero with
      |none=>rw[hiz]at hz0;simp at hz0
      |some z'=>rw[hiz]at hz0;exact⟨z',rfl,VR_emb φ z' z hz0⟩
     have zc:=VR_cells (tzero_notAny hz) hz2
     have g5':z.cells.length=i.size:=Nat.eq_of_beq_eq_true g5
     have hl:=VRs_length _ _ zc
     simp only[Array.length_toList]at hl
     have hr:=run_append_zero (P:=P) (w:=w) (ty:=ty) (ts:=ts) hu hi hz1 ht hk (kk:=kk) (lt_of_blt g1) (Nat.le_of_ble_eq_true g2) (lt_of_blt g3) (by intro e0;rw[e0]at g4;simp at g4)
     have hge:n≤grownCap w n 0 e:=grownCap_ge w n 0 e
     have hrep:=rep_sound zc n
     have hcells:VRs φ (rep n z.cells) (Builtin.zeroCells z'.cells n).toList:=by
      have:Builtin.zeroCells z'.cells n=(Array.range (n*z.cells.length)).map (fun i=>z'.cells[i%z'.cells.size]!):=by rw[hl];rfl
      rw[this];exact hrep
     have hc:=(drew_sim h).cells (lt_of_blt g6) hcells e (some i.size) (grownCap w n 0 e-n) 0 (Builtin.zeroCells z'.cells (grownCap w n 0 e-n)).toList (0,0) (by simp) (by simpa[spare]using grow_spare (w:=w) (need:=n) (cap:=0) (e:=e) (by omega:z'.cells.size=i.size)) (fun j _ hx=>by omega)
     have hst:St φ w (φ.ext H.next ⟨w.heap.size,0,grownCap w n 0 e-n⟩) (w.drew.alloc (.cells ⟨(Builtin.zeroCells z'.cells n).toList++(Builtin.zeroCells z'.cells (grownCap w n 0 e-n)).toList⟩ e)):=
      (St.drew (φ:=φ) (w:=w) (w₁:=w.drew) rfl rfl rfl rfl).trans (St.alloc (drew_sim h) _ _)
     refine⟨.slice (some ⟨w.heap.size,0,none⟩) n (grownCap w n 0 e),_,_,by simp only[Sem.run_bind,Int.ofNat_eq_natCast,hr,Result.andThen_ok,Sem.run_pure],hst, ?_,hc,rfl⟩
     have:=VR_newSlice (φ:=φ) (n:=H.next) (b:=w.heap.size) (s:=grownCap w n 0 e-n) (l:=n) (c:=n)
     rwa [show n+(grownCap w n 0 e-n)=grownCap w n 0 e by omega]at this
    ·trivial
   ·trivial
  ·trivial
 ·trivial
end
end Go.Ev
namespace Go.Ev
noncomputable section
def evCopy(P:Program)(H:VH)(t:TypeId)(d x:VV):Out:=
 match P.underlying t with
 |some (.slice e)=>match P.info? e,srcLen x with
  |some i,some n=>match d with
   |.slice (some a) m _=>match srcCells H i.size (Nat.min n m) x with
    |some l=>match hstore H a l with
     |some H₁=>.val (.int .i64 (Nat.min n m)) H₁
     |none=>.bad
    |none=>.bad
   |.slice none 0 _=>match srcCells H i.size 0 x with
    |some _=>.val (.int .i64 (Nat.min n 0)) H
    |none=>.bad
   |.sliceE=>match srcCells H i.size 0 x with
    |some []=>.val (.int .i64 (Nat.min n 0)) H
    |_=>.bad
   |_=>.bad
  |_,_=>.bad
 |_=>.bad
theorem evCopy_sound{P:Program}{w0:World}{φ:Phi}{H:VH}{w:World}(h:HSim w0 φ H w){t:TypeId}{ts:List TypeId}{ty:TypeId}{d x:VV}{d' x':Value}(hd:VR φ d d')(hx:VR φ x x'):
  OutR w0 φ H w ((do pure (Next.value (←Builtin.copy_ ⟨t::ts⟩ ty #[d',x'])):Sem Next).run P w) (evCopy P H t d x):=by
 unfold evCopy
 cases hu:P.underlying t with
 |none=>trivial
 |some dd=>cases dd with
  |slice e=>
   simp only
   cases hi:P.info? e with
   |none=>trivial
   |some i=>cases hn:srcLen x with
    |none=>trivial
    |some n=>
     simp only
     have hln:=srcLen_sound (P:=P) (w:=w) hx hn
     have h0:(⟨t::ts⟩:Array TypeId)[0]? =some t:=by simp
     cases d with
     |slice p m c=>cases p with
      |none=>cases m with
       |zero=>
        simp only
        cases hs:srcCells H i.size 0 x with
        |none=>trivial
        |some l=>
         obtain⟨l',f1,f2⟩:=srcCells_sound (P:=P) h hx hs
         simp only[VR]at hd
         subst hd
         refine⟨.int .i64 (Nat.min n 0),w,φ, ?_,.refl φ w,by simp[VR],h,rfl⟩
         simp[Builtin.copy_,run_underlying hu,hln,run_sizeOf' hi,tsize_eq hi,f1,goInt]
       |succ m=>trivial
      |some a=>
       simp only
       cases hs:srcCells H i.size (Nat.min n m) x with
       |none=>trivial
       |some l=>
        simp only
        cases hst:hstore H a l with
        |none=>trivial
        |some H₁=>
         obtain⟨l',f1,f2⟩:=srcCells_sound (P:=P) h hx hs
         simp only[VR]at hd
         obtain⟨a',s,ha,rfl⟩:=hd
         obtain⟨w₁,g1,g2,⟨bi,binf,bo,hb1,hb2⟩,g4⟩:=hstore_sound (P:=P) h ha hst f2
         refine⟨.int .i64 (Nat.min n m),w₁,φ, ?_,St.upd hb1 hb2,by simp[VR],g2,g4⟩
         simp[Builtin.copy_,run_underlying hu,hln,run_sizeOf' hi,tsize_eq hi,f1,goInt,g1]
     |sliceE=>
      simp only
      cases hs:srcCells H i.size 0 x with
      |none=>trivial
      |some l=>cases l with
       |cons y l=>trivial
       |nil=>
        obtain⟨l',f1,f2⟩:=srcCells_sound (P:=P) h hx hs
        simp only[VRs]at f2
        subst f2
        simp only[VR]at hd
        obtain⟨a',c,rfl⟩:=hd
        refine⟨.int .i64 (Nat.min n 0),w,φ, ?_,.refl φ w,by simp[VR],h,rfl⟩
        simp[Builtin.copy_,run_underlying hu,hln,run_sizeOf' hi,tsize_eq hi,f1,goInt,storeCells]
     |_=>trivial
  |_=>trivial
def evClear(P:Program)(H:VH)(t:TypeId)(x:VV):Out:=
 match x with
 |.slice _ 0 _|.sliceE|.map none=>.val (.tuple []) H
 |.slice (some a) n _=>match P.underlying t with
  |some (.slice e)=>match tzero P e with
   |some z=>match hstore H a (rep n z.cells)with
    |some H₁=>.val (.tuple []) H₁
    |none=>.bad
   |none=>.bad
  |_=>.bad
 |_=>.bad
theorem VR_unit(φ:Phi):VR φ (.tuple []) (.tuple #[]):=by simp only[VR];exact⟨[],by simp[VRs],rfl⟩
theorem evClear_sound{P:Program}{w0:World}{φ:Phi}{H:VH}{w:World}(h:HSim w0 φ H w){t:TypeId}{d:TypeDesc}(hud:P.underlying t=some d){ts:List TypeId}{ty:TypeId}{x:VV}{x':Value}(hx:VR φ x x'):
  OutR w0 φ H w ((do pure (Next.value (←Builtin.clear_ ⟨t::ts⟩ ty #[x'])):Sem Next).run P w) (evClear P H t x):=by
 unfold evClear
 have triv:(∃a c,x'= .slice a 0 c)∨x'= .map none→OutR w0 φ H w ((do pure (Next.value (←Builtin.clear_ ⟨t::ts⟩ ty #[x'])):Sem Next).run P w) (.val (.tuple []) H):=by
  intro hh
  refine⟨.tuple #[],w,φ, ?_,.refl φ w,VR_unit φ,h,rfl⟩
  rcases hh with⟨a,c,rfl⟩|rfl
  ·cases a<;>simp[Builtin.clear_,run_underlying hud]
  ·simp[Builtin.clear_,run_underlying hud]
 cases x with
 |slice p n c=>
  cases n with
  |zero=>
   refine triv (.inl ?_)
   cases p<;>simp only[VR]at hx<;>(first|exact⟨_,_,hx⟩|(obtain⟨_,_,_,rfl⟩:=hx;exact⟨_,_,rfl⟩))
  |succ n=>cases p with
   |none=>trivial
   |some a=>
    simp only
    cases hu:P.underlying t with
    |none=>trivial
    |some dd=>cases dd with
     |slice e=>
      simp only
      cases hz:tzero P e with
      |none=>trivial
      |some z=>
       simp only
       cases hst:hstore H a (rep (n+1) z.cells)with
       |none=>trivial
       |some H₁=>
        simp only[VR]at hx
        obtain⟨a',s,ha,rfl⟩:=hx
        obtain⟨z',z1,z2⟩:=run_zero' (P:=P) (w:=w) hz φ
        have zc:=VR_cells (tzero_notAny hz) z2
        have hl:=VRs_length _ _ zc
        simp only[Array.length_toList]at hl
        have hr:=rep_sound zc (n+1)
        obtain⟨w₁,g1,g2,⟨bi,binf,bo,hb1,hb2⟩,g4⟩:=hstore_sound (P:=P) h ha hst hr
        refine⟨.tuple #[],w₁,φ, ?_,St.upd hb1 hb2,VR_unit φ,g2,g4⟩
        rw[hl]at g1
        have hzc:Builtin.zeroCells z'.cells (n+1)=(Array.range ((n+1)*z'.cells.size)).map (fun i=>z'.cells[i%z'.cells.size]!):=rfl
        rw[←hzc]at g1
        simp[Builtin.clear_,run_underlying hu,z1,g1]
     |_=>trivial
 |sliceE=>refine triv (.inl ?_);simp only[VR]at hx;obtain⟨_,_,rfl⟩:=hx;exact⟨_,_,rfl⟩
 |map b=>cases b with
  |none=>simp only[VR]at hx;exact triv (.inr hx)
  |some b=>trivial
 |_=>trivial
def evEnter(P:Program)(g:FuncId)(args:List VV):Out:=
 match P.funcs[g]? with
 |some fn=>match fn.body with
  |some _=>.enter g args
  |none=>.bad
 |none=>.bad
def NoNG(P:Program):Prop:= ∀(g:FuncId) (fn:Func),P.funcs[g]? =some fn→(fn.name== "runtime.NumGoroutine")=false
theorem evEnter_sound{P:Program}(hng:NoNG P){w0:World}{φ:Phi}{H:VH}{w:World}{g:FuncId}{args:List VV}{args':List Value}(ha:VRs φ args args'):
  OutR w0 φ H w ((callFunc g ⟨args'⟩).run P w) (evEnter P g args):=by
 unfold evEnter
 cases hf:P.funcs[g]? with
 |none=>trivial
 |some fn=>
  simp only
  cases hb:fn.body with
  |none=>trivial
  |some c=>
   simp only
   refine⟨args', ?_,ha⟩
   have hn:=hng g fn hf
   simp only[callFunc,Sem.run_bind,run_program,Result.andThen_ok,hf,hn,hb]
   simp
def evCallV(P:Program)(H:VH)(f:VV)(args:List VV):Out:=
 match f with
 |.func (.func g) first cap=>evEnter P g (first++(args++cap))
 |.yield i=>match H.locs.get i with
  |some (.loop _ _ _ _ params _ _)=>match Nat.beq args.length params.length with
   |true=>.round i args
   |false=>.bad
  |_=>.bad
 |_=>.bad
def evCallE(P:Program)(c:Call)(a:VT)(H:VH):Out:=
 match c.callee with
 |.value f=>match evOperand a f,evOperands a c.args.toList with
  |some f,some vs=>evCallV P H f vs
  |_,_=>.bad
 |.builtin b=>match b,c.args,c.argTypes with
  |.append,⟨[s,x]⟩,⟨t::ts⟩=>match evOperand a s,evOperand a x with
   |some s,some x=>match plainArg P ts.head? with
    |true=>evAppend P H t ts.head? s x
    |false=>evAppendZ P H t ts.head? s x
   |_,_=>.bad
  |.copy,⟨[d,x]⟩,⟨t::_⟩=>match evOperand a d,evOperand a x with
   |some d,some x=>evCopy P H t d x
   |_,_=>.bad
  |.clear,⟨[x]⟩,⟨t::_⟩=>match evOperand a x,P.underlying t with
   |some x,some _=>evClear P H t x
   |_,_=>.bad
  |_,_,_=>.bad
 |_=>.bad
def evE(P:Program)(o:Op)(a:VT)(H:VH):Out:=
 match o with
 |.alloc _|.box _ _|.buildSlice _ _ _|.makeMap _ _|.makeSlice _ _ _=>newOf H (evNew P o a)
 |.store t x y=>match evOperand a x,evOperand a y,P.info? t with
  |some (.ptr (some ad)),some v,some i=>match Nat.beq v.cells.length i.size,hstore H ad v.cells with
   |true,some H₁=>.skip H₁
   |_,_=>.bad
  |_,_,_=>.bad
 |.mapUpdate t m k v|.insert t m k v=>match evOperand a m,evOperand a k,evOperand a v with
  |some m,some k,some v=>evUpdate P H t m k v
  |_,_,_=>.bad
 |.call c=>evCallE P c a H
 |_=>.bad
theorem evCallE_sound{P:Program}(hng:NoNG P){w0:World}{φ:Phi}{a:VT}{act:Act}{H:VH}{w:World}(ht:TR φ a act.tmps)(hs:HSim w0 φ H w)(c:Call)(o:Oper)(ho:o.op= .call c):
  OutR w0 φ H w ((execOp act.eval o).run P w) (evCallE P c a H):=by
 obtain⟨cal,args,ts⟩:=c
 unfold evCallE
 cases cal with
 |invoke r n=>trivial
 |builtin b=>
  simp only
  have run: ∀(args':Array Value),args.map act.eval=args'→(execOp act.eval o).run P w=(builtin b ts o.type (args.map fun|.const _=>true|_=>false) args').run P w:=by
   intro args' h
   unfold execOp
   rw[ho]
   simp[resolve,h,invoke]
   rfl
  split
  ·rename_i s x t ts'
   rw[run #[act.eval s,act.eval x] (by simp)]
   cases h1:evOperand a s with
   |none=>trivial
   |some u=>cases h2:evOperand a x with
    |none=>trivial
    |some v=>
     simp only
     cases plainArg P ts'.head? with
     |true=>exact evAppend_sound hs (evOperand_sound ht h1) (evOperand_sound ht h2)
     |false=>exact evAppendZ_sound hs (evOperand_sound ht h1) (evOperand_sound ht h2)
  ·rename_i d x t ts'
   rw[run #[act.eval d,act.eval x] (by simp)]
   cases h1:evOperand a d with
   |none=>trivial
   |some u=>cases h2:evOperand a x with
    |none=>trivial
    |some v=>exact evCopy_sound hs (evOperand_sound ht h1) (evOperand_sound ht h2)
  ·rename_i x t ts'
   rw[run #[act.eval x] (by simp)]
   cases h1:evOperand a x with
   |none=>trivial
   |some u=>cases h2:P.underlying t with
    |none=>trivial
    |some d=>exact evClear_sound hs h2 (evOperand_sound ht h1)
  ·trivial
 |value f=>
  simp only
  cases hf:evOperand a f with
  |none=>trivial
  |some fv=>cases hv:evOperands a args.toList with
   |none=>trivial
   |some vs=>
    simp only
    have hfr:=evOperand_sound ht hf
    have hvr:=evOperands_sound ht _ _ hv
    unfold evCallV
    cases fv with
    |func fn first cap=>
     cases fn with
     |func g=>
      simp only[VR]at hfr
      obtain⟨first',cap',_,h1,h2,h3⟩:=hfr
      have he:=evEnter_sound hng (w0:=w0) (H:=H) (w:=w) (g:=g) (VRs_append h1 (VRs_append hvr h2))
      have hrun:(execOp act.eval o).run P w=(callFunc g ⟨first'++(args.toList.map act.eval++cap')⟩).run P w:=by
       unfold execOp
       rw[ho]
       simp only[resolve,h3,Deferred.ofValue,Sem.run_bind,Sem.run_pure,Result.andThen_ok,invoke]
       congr 2
       apply Array.ext'
       simp
      rw[hrun]
      exact he
     |_=>trivial
    |yield i=>
     simp only
     cases hg:H.locs.get i with
     |none=>trivial
     |some vo=>cases vo with
      |loop st pend tm nt params asg body=>
       simp only
       cases hb:Nat.beq vs.length params.length with
       |false=>trivial
       |true=>
        obtain⟨inf,o',h1,h2,⟨tmps',fn,d,rfl,h3,h4⟩,_⟩:=hs.live i _ hg
        simp only[VR]at hfr
        obtain⟨inf',h1',hfe⟩:=hfr
        rw[h1]at h1';cases h1'
        have hl:=VRs_length _ _ hvr
        have hlen:(args.toList.map act.eval).length=params.length:=by rw[←hl];exact Nat.eq_of_beq_eq_true hb
        refine⟨inf,_,args.toList.map act.eval,h1,h2,by simpa using hlen,hvr, ?_⟩
        unfold execOp
        rw[ho]
        have hge:(getObj inf.blk).run P w= .ok (.loop {state:=st,pending:=pend,fn:=fn,tmps:=tmps',params:=⟨params⟩,assign:=asg,body:=body,defers:=d}) w:=by simp[getObj,Sem.run,h2]
        have hsz:(args.map act.eval).size=params.length:=by rw[←hlen];simp
        have hargs:args.map act.eval=⟨args.toList.map act.eval⟩:=by apply Array.ext';simp
        have hgl:(Instr.getLoop inf.blk).run P w= .ok {state:=st,pending:=pend,fn:=fn,tmps:=tmps',params:=⟨params⟩,assign:=asg,body:=body,defers:=d} w:=by simp[Instr.getLoop,hge]
        have hne: ¬((#[]++args.map act.eval:Array Value).size≠(⟨params⟩:Array Tmp).size):=by simpa using hsz
        simp only[resolve,hfe,Deferred.ofValue,Sem.run_bind,Sem.run_pure,Result.andThen_ok,invoke,Instr.yield,hgl]
        rw[if_neg hne]
        simp only[Sem.run_pure]
        rw[←hargs]
        simp only[Array.empty_append]
      |_=>trivial
    |_=>trivial
theorem evE_sound{P:Program}(hng:NoNG P){w0:World}{φ:Phi}{a:VT}{act:Act}{H:VH}{w:World}(ht:TR φ a act.tmps)(hs:HSim w0 φ H w)(o:Oper):
  OutR w0 φ H w ((execOp act.eval o).run P w) (evE P o.op a H):=by
 obtain⟨dst,op,type,pos,after,guard⟩:=o
 simp only
 cases op with
 |alloc t=>exact newOf_sound hs fun k vo h=>evNew_sound ht _ h
 |box t x=>exact newOf_sound hs fun k vo h=>evNew_sound ht _ h
 |buildSlice t len parts=>exact newOf_sound hs fun k vo h=>evNew_sound ht _ h
 |makeMap t r=>exact newOf_sound hs fun k vo h=>evNew_sound ht _ h
 |makeSlice t l c=>exact newOf_sound hs fun k vo h=>evNew_sound ht _ h
 |store t x y=>
  simp only[evE]
  cases hx:evOperand a x with
  |none=>trivial
  |some u=>cases u with
   |ptr p=>cases p with
    |none=>cases hy:evOperand a y<;>cases hi:P.info? t<;>trivial
    |some ad=>cases hy:evOperand a y with
     |none=>trivial
     |some v=>cases hi:P.info? t with
      |none=>trivial
      |some i=>
       simp only
       cases hb:Nat.beq v.cells.length i.size with
       |false=>trivial
       |true=>cases hst:hstore H ad v.cells with
        |none=>trivial
        |some H₁=>
         have hxr:=evOperand_sound ht hx
         have hyr:=VR_cells (evOperand_notAny hy) (evOperand_sound ht hy)
         simp only[VR]at hxr
         obtain⟨a',s,ha,hxe⟩:=hxr
         obtain⟨w₁,g1,g2,⟨bi,binf,bo,hb1,hb2⟩,g4⟩:=hstore_sound (P:=P) hs ha hst hyr
         refine⟨w₁,φ, ?_,St.upd hb1 hb2,g2,g4⟩
         have hl:=VRs_length _ _ hyr
         simp only[Array.length_toList]at hl
         have hsz:(act.eval y).cells.size=i.size:=by rw[←hl];exact Nat.eq_of_beq_eq_true hb
         simp[execOp,Instr.storeAt,hxe,Instr.sureAddr,storeVar,run_sizeOf' hi,tsize_eq hi,hsz,g1]
   |_=>cases hy:evOperand a y<;>cases hi:P.info? t<;>trivial
 |mapUpdate t m k v=>
  simp only[evE]
  cases hm:evOperand a m with
  |none=>trivial
  |some x=>cases hk:evOperand a k with
   |none=>trivial
   |some y=>cases hv:evOperand a v with
    |none=>trivial
    |some z=>exact evUpdate_sound hs (evOperand_sound ht hm) (evOperand_sound ht hk) (evOperand_sound ht hv)
 |insert t m k v=>
  simp only[evE]
  cases hm:evOperand a m with
  |none=>trivial
  |some x=>cases hk:evOperand a k with
   |none=>trivial
   |some y=>cases hv:evOperand a v with
    |none=>trivial
    |some z=>exact evUpdate_sound hs (evOperand_sound ht hm) (evOperand_sound ht hk) (evOperand_sound ht hv)
 |call c=>exact evCallE_sound hng ht hs c _ rfl
 |_=>trivial
end
end Go.Ev
