/- Engine, part 4: automata over an index. -/
import Derived.Test.YtmmmknhdigapkaaEv3
namespace Go.Ev
set_option linter.unusedVariables false
noncomputable section
open Go.RowKit
inductive Rd(C:List CutP)(v:Nat→Nat→Int)(I:Nat→Nat→Prop):Nat→Nat→VV→Prop where
 |ret {p i:Nat} {c:CutP} {r:VV}:a0K C p=some c→I p i→a1b c.tr (v i)= .ret r→Rd C v I p i r
 |next {p i q:Nat} {c:CutP} {r:VV} {k:IntKind} {j:Nat}:a0K C p=some c→I p i→a1b c.tr (v i)= .goto q [.sint k j]→Rd C v I q (i+1) r→Rd C v I p i r
 |zero {p i q:Nat} {c:CutP} {r:VV} {k:IntKind} {z:Int}:a0K C p=some c→I p i→a1b c.tr (v i)= .goto q [.int k z]→Rd C v I q 0 r→Rd C v I p i r
def b0G(nC:Nat)(inL:Bool)(j:Nat):Leaf→Bool
 |.ret r=>match r with
  |.int _ _|.bool _=>true
  |_=>false
 |.goto q xs=>match xs with
  | [.int .i64 z]=>match Nat.blt 0 q,Nat.blt q nC with
   |true,true=>decide (z=0)
   |_,_=>false
  | [.sint .i64 k]=>match inL,Nat.beq k j,Nat.blt 0 q with
   |true,true,true=>Nat.blt q nC
   |_,_,_=>false
  |_=>false
def a9A(p:Leaf→Bool):TrX Leaf→Bool
 |.leaf o=>p o
 |.cut _ _ l r=>match a9A p l with
  |true=>a9A p r
  |false=>false
 |.rel _ _ _ l r=>match a9A p l with
  |true=>a9A p r
  |false=>false
theorem a1U{p:Leaf→Bool}{v:Nat→Int}: ∀{t:TrX Leaf},a9A p t=true→p (a1b t v)=true
 |.leaf o,h=>h
 |.cut i c l r,h=>by
  simp only[a9A]at h
  split at h
  ·rename_i h1
   simp only[a1b]
   split
   ·exact a1U h1
   ·exact a1U h
  ·cases h
 |.rel k i j l r,h=>by
  simp only[a9A]at h
  split at h
  ·rename_i h1
   simp only[a1b]
   split
   ·exact a1U h1
   ·exact a1U h
  ·cases h
def c0W(nC ia ib ij:Nat):TrX Leaf→Bool
 |.rel k a b l r=>match Nat.beq a ia,Nat.beq b ib with
  |true,true=>match a9A (b0G nC true ij) l with
   |true=>a9A (b0G nC false ij) r
   |false=>false
  |_,_=>a9A (b0G nC false ij) (.rel k a b l r)
 |t=>a9A (b0G nC false ij) t
def e0h(ia:Nat):List VV→Bool
 | [.sint .i64 k]=>Nat.beq k ia
 |_=>false
def a3H(nC ia ib ij:Nat):Nat→List CutP→Bool
 |_,[]=>true
 |n,c::l=>match(match n with|0=>true|_+1=>e0h ia c.ys),c0W nC ia ib ij c.tr with
  |true,true=>a3H nC ia ib ij (n+1) l
  |_,_=>false
theorem a6U{nC ia ib ij:Nat}: ∀{C:List CutP} {n p:Nat} {c:CutP},a3H nC ia ib ij n C=true→a0K C p=some c→c0W nC ia ib ij c.tr=true∧(n+p≠0→e0h ia c.ys=true)
 | [],_,_,_,_,h=>by simp[a0K]at h
 |x::l,n,p,c,hs,h=>by
  simp only[a3H]at hs
  split at hs
  ·rename_i h1 h2
   cases p with
   |zero=>
    simp only[a0K,Option.some.injEq]at h
    subst h
    refine⟨h2,fun hn=> ?_⟩
    cases n with
    |zero=>exact absurd rfl hn
    |succ n=>exact h1
   |succ p=>
    obtain⟨g1,g2⟩:=a6U hs (by simpa only[a0K]using h)
    exact⟨g1,fun hn=>g2 (by omega)⟩
  ·cases hs
theorem b3t{nC ia ib ij:Nat}{t:TrX Leaf}{v:Nat→Int}(h:c0W nC ia ib ij t=true):
  (∃r,a1b t v= .ret r∧b0G nC true ij (.ret r)=true)∨(∃q,a1b t v= .goto q [.sint .i64 ij]∧0<q∧q<nC∧v ia<v ib)∨(∃q,a1b t v= .goto q [.int .i64 0]∧0<q∧q<nC):=by
 have base: ∀(inL:Bool) (o:Leaf),(inL=true→v ia<v ib)→b0G nC inL ij o=true→(∃r,o= .ret r∧b0G nC true ij (.ret r)=true)∨(∃q,o= .goto q [.sint .i64 ij]∧0<q∧q<nC∧v ia<v ib)∨(∃q,o= .goto q [.int .i64 0]∧0<q∧q<nC):=by
  intro inL o hin ho
  cases o with
  |ret r=>exact .inl ⟨r,rfl,ho⟩
  |goto q xs=>
   simp only[b0G]at ho
   split at ho
   ·split at ho
    ·rename_i h1 h2
     rw[of_decide_eq_true ho]
     exact .inr (.inr ⟨q,rfl,a0H h1,a0H h2⟩)
    ·cases ho
   ·split at ho
    ·rename_i h0 h1 h2
     rw[Nat.eq_of_beq_eq_true h1]
     exact .inr (.inl ⟨q,rfl,a0H h2,a0H ho,hin rfl⟩)
    ·cases ho
   ·cases ho
 cases t with
 |leaf o=>exact base false _ (fun h=>by cases h) (a1U (v:=v) h)
 |cut i c l r=>exact base false _ (fun h=>by cases h) (a1U (v:=v) h)
 |rel k a b l r=>
  simp only[c0W]at h
  split at h
  ·rename_i h1 h2
   have e1:=Nat.eq_of_beq_eq_true h1
   have e2:=Nat.eq_of_beq_eq_true h2
   subst e1 e2
   split at h
   ·rename_i h3
    simp only[a1b]
    split
    ·rename_i hlt
     exact base true _ (fun _=>hlt) (a1U (v:=v) h3)
    ·exact base false _ (fun h=>by cases h) (a1U (v:=v) h)
   ·cases h
  ·exact base false _ (fun h=>by cases h) (a1U (v:=v) h)
theorem d1z[Ext]{C:List CutP}{I:Nat→Nat→Prop}{w0:World}{ia ib ij n nC:Nat}{rho:Nat→Rho}(hs:a3H nC ia ib ij 0 C=true)(hn:nC=C.length)(ha: ∀i,(rho i).int ia=i)(hb: ∀i,(rho i).int ib=n)(hj: ∀i,i<n→(rho i).int ij=(i:Int)+1)
  (hN: ∀p c,a0K C p=some c→p≠0→ ∀i j,agree c.N (rho i) (rho j)) (hOK: ∀p c,a0K C p=some c→ ∀i,i≤n→I p i→c.OK w0 (rho i)) {p i:Nat} {r:VV} (hr:Rd C (fun i=>(rho i).int) I p i r) (hi:i≤n) {res:Value} (hres: ∀ρ,a0k ρ r=some res): ∃k,Runs C w0 res k p (rho i):=by
 have getq: ∀{q:Nat},q<nC→ ∃d,a0K C q=some d:=fun{q} hq=>by
  rw[a0T]
  exact⟨C[q]'(by omega),by simp[show q<C.length by omega]⟩
 have ixq: ∀{q:Nat} {d:CutP},a0K C q=some d→0<q→d.ys= [.sint .i64 ia]:=fun{q d} hd hq=>by
  have:=(a6U hs hd).2 (by omega)
  unfold e0h at this
  split at this
  ·rename_i k e
   rw[Nat.eq_of_beq_eq_true this]at e
   exact e
  ·cases this
 induction hr with
 |ret h1 hI h2=>exact run_ret h1 (hOK _ _ h1 _ hi hI) h2 (hres _)
 |next h1 hI h2 h3 ih=>
  rename_i p i q c r k j
  rcases b3t (v:=(rho i).int) (a6U hs h1).1 with⟨r',e,_⟩|⟨q',e,g0,g1,g2⟩|⟨q',e,g0,g1⟩
  ·rw[h2]at e;cases e
  ·rw[h2]at e
   cases e
   rw[ha,hb]at g2
   obtain⟨d,hd⟩:=getq g1
   have ht:=ixq hd g0
   refine c0Y h1 (hOK _ _ h1 _ hi hI) h2 hd (hN _ _ hd (by omega) _ _) ?_ (ih (by omega) hres)
   rw[ht]
   refine⟨⟨_,rfl, ?_⟩,trivial⟩
   simp only[a0k,ha,hj i (by omega)]
   rfl
  ·rw[h2]at e;cases e
 |zero h1 hI h2 h3 ih=>
  rename_i p i q c r k z
  rcases b3t (v:=(rho i).int) (a6U hs h1).1 with⟨r',e,_⟩|⟨q',e,g0,g1,g2⟩|⟨q',e,g0,g1⟩
  ·rw[h2]at e;cases e
  ·rw[h2]at e;cases e
  ·rw[h2]at e
   cases e
   obtain⟨d,hd⟩:=getq g1
   have ht:=ixq hd g0
   refine c0Y h1 (hOK _ _ h1 _ hi hI) h2 hd (hN _ _ hd (by omega) _ _) ?_ (ih (by omega) hres)
   rw[ht]
   refine⟨⟨_,rfl, ?_⟩,trivial⟩
   simp only[a0k,ha]
   rfl
theorem d5l{ρ:Rho}{k k':IntKind}{a b:Nat}(P:Program)(w:World)(h:FactOK ρ (.bin .lss (.sint k a) (.sint k' b) (.bool true))):ρ.int a<ρ.int b:=by
 obtain⟨x,y,v,h1,h2,h3,_,_,h4⟩:=h
 simp only[a0k,Option.some.injEq]at h1 h2 h3
 subst h1 h2 h3
 have:=h4 P 0 w
 by_cases hk:k=k'
 ·subst hk
  simp[binOp,Op.intCmp]at this
  exact this
 ·simp[binOp,hk]at this
def b0W(g:Nat→Bool):Nat→Nat→Bool
 |0,_=>true
 |m+1,i=>g i&&b0W g m (i+1)
theorem a6k{g:Nat→Bool}: ∀{m i:Nat},b0W g m i=true↔ ∀l,i≤l→l<i+m→g l=true
 |0,i=>⟨fun _ l h1 h2=>by omega,fun _=>rfl⟩
 |m+1,i=>by
  simp only[b0W,Bool.and_eq_true,a6k (m:=m)]
  exact⟨fun⟨h1,h2⟩ l h3 h4=>by
   by_cases e:l=i
   ·subst e;exact h1
   ·exact h2 l (by omega) (by omega),fun h=>⟨h i (Nat.le_refl _) (by omega),fun l h1 h2=>h l (by omega) (by omega)⟩⟩
theorem a5s{C:List CutP}{v:Nat→Nat→Int}{I:Nat→Nat→Prop}{p n j:Nat}{k:IntKind}{c:CutP}{g:Nat→Bool}{rB rG:VV}(hc:a0K C p=some c)(hI: ∀i,i≤n→I p i)(hstep: ∀i,i<n→a1b c.tr (v i)=if g i=true then .goto p [.sint k j]else .ret rB)(hend:Rd C v I p n rG):
  ∀m i,i+m=n→Rd C v I p i (if b0W g m i=true then rG else rB)
 |0,i,h=>by
  have e:i=n:=by omega
  subst e
  exact hend
 |m+1,i,h=>by
  have hi:=hstep i (by omega)
  have ih:=a5s hc hI hstep hend m (i+1) (by omega)
  by_cases hg:g i=true
  ·rw[if_pos hg]at hi
   refine .next hc (hI _ (by omega)) hi ?_
   simp only[b0W,hg,Bool.true_and]
   exact ih
  ·rw[if_neg hg]at hi
   simp only[b0W,hg,Bool.false_and]
   exact .ret hc (hI _ (by omega)) hi
theorem b3h{C:List CutP}{v:Nat→Nat→Int}{I:Nat→Nat→Prop}{p n j:Nat}{k:IntKind}{c:CutP}{rE:VV}(hc:a0K C p=some c)(hI: ∀i,i≤n→I p i)(hstep: ∀i,i<n→a1b c.tr (v i)= .goto p [.sint k j])(hend:Rd C v I p n rE): ∀m i,i+m=n→Rd C v I p i rE
 |0,i,h=>by
  have e:i=n:=by omega
  subst e
  exact hend
 |m+1,i,h=>.next hc (hI _ (by omega)) (hstep i (by omega)) (b3h hc hI hstep hend m (i+1) (by omega))
theorem c0a{C:List CutP}{v:Nat→Nat→Int}{I:Nat→Nat→Prop}{p q n j:Nat}{k:IntKind}{c d:CutP}{g:Nat→Bool}{rA rB:VV}(hc:a0K C p=some c)(hd:a0K C q=some d)(hI: ∀i,i≤n→I p i)(hJ: ∀i,i≤n→I q i)(hstep: ∀i,i<n→a1b c.tr (v i)=if g i=true then .goto p [.sint k j]else .goto q [.sint k j])(hbad: ∀i,i<n→a1b d.tr (v i)= .goto q [.sint k j])(hA:Rd C v I p n rA)(hB:Rd C v I q n rB):
  ∀m i,i+m=n→Rd C v I p i (if b0W g m i=true then rA else rB)
 |0,i,h=>by
  have e:i=n:=by omega
  subst e
  exact hA
 |m+1,i,h=>by
  have hi:=hstep i (by omega)
  have ih:=c0a hc hd hI hJ hstep hbad hA hB m (i+1) (by omega)
  by_cases hg:g i=true
  ·rw[if_pos hg]at hi
   refine .next hc (hI _ (by omega)) hi ?_
   simp only[b0W,hg,Bool.true_and]
   exact ih
  ·rw[if_neg hg]at hi
   simp only[b0W,hg,Bool.false_and]
   exact .next hc (hI _ (by omega)) hi (b3h hd hJ hbad hB m (i+1) (by omega))
def isGo:Leaf→Bool
 |.goto _ _=>true
 |_=>false
def c9j(q j:Nat)(z:Int):Leaf→Bool
 |.goto q' xs=>match xs with
  | [.sint .i64 k]=>match Nat.beq q' q with
   |true=>Nat.beq k j
   |false=>false
  |_=>false
 |.ret r=>match r with
  |.int .i64 y=>decide (y=z)
  |_=>false
theorem b9L{q j:Nat}{z:Int}{o:Leaf}(h:c9j q j z o=true):o=if isGo o=true then .goto q [.sint .i64 j]else .ret (.int .i64 z):=by
 cases o with
 |goto q' xs=>
  simp only[c9j]at h
  split at h
  ·split at h
   ·rename_i h1
    rw[Nat.eq_of_beq_eq_true h1,Nat.eq_of_beq_eq_true h]
    rfl
   ·cases h
  ·cases h
 |ret r=>
  simp only[c9j]at h
  split at h
  ·rw[of_decide_eq_true h]
   rfl
  ·cases h
def d5v(q q2 j:Nat):Leaf→Bool
 |.goto q' xs=>match xs with
  | [.sint .i64 k]=>match Nat.beq k j,Nat.beq q' q with
   |true,true=>true
   |true,false=>Nat.beq q' q2
   |_,_=>false
  |_=>false
 |.ret _=>false
def a8X(q:Nat):Leaf→Bool
 |.goto q' _=>Nat.beq q' q
 |_=>false
theorem c5S{q q2 j:Nat}{o:Leaf}(h:d5v q q2 j o=true):o=if a8X q o=true then .goto q [.sint .i64 j]else .goto q2 [.sint .i64 j]:=by
 cases o with
 |goto q' xs=>
  simp only[d5v]at h
  split at h
  ·split at h
   ·rename_i h1 h2
    rw[Nat.eq_of_beq_eq_true h1,Nat.eq_of_beq_eq_true h2]
    simp[a8X]
   ·rename_i h1 h2
    rw[Nat.eq_of_beq_eq_true h1]
    simp only[a8X,h2]
    rw[Nat.eq_of_beq_eq_true h]
    simp
   ·cases h
  ·cases h
 |ret r=>simp[d5v]at h
def d6v:Ivs→(Nat→Int)→Prop
 | [],_=>True
 |(a,b)::l,f=>(a≤f 0∧f 0≤b)∧d6v l fun i=>f (i+1)
theorem b3u{f:Nat→Int}: ∀{l:Ivs},d6v l f→(∀i,-9223372036854775808≤f i∧f i≤9223372036854775807)→ ∀i,(a2I l i).1≤f i∧f i≤(a2I l i).2
 | [],_,hr=>d2A hr
 |(_,_)::l,h,hr=>c8H h.1 (fun i=>b3u (f:=fun i=>f (i+1)) h.2 (fun i=>hr (i+1)) i)
theorem a2X{P:Program}{KT:List KE}{m:Nat}{fn:Func}{body:Code}{S:List Nat}{fuel:Nat}{C:List CutP}(A: @Auto (a6s P KT) P (a9K P KT m) fn body S fuel C (fun _=>none)){f:FuncId}(hf:P.funcs[f]? =some fn)(hbody:fn.body=some body){args:List VV}{args':List Value}
  (h1:Nat.ble args.length fn.ntmps=true) {c0:CutP} (hc:a0K C 0=some c0) (e1:c0.lab=none) (e2:c0.a0=a3r args 0 .lf) (e4:c0.l= .lf) (e5:c0.nH=0) {I:Nat→Nat→Prop} {w0:World} {ia ib ij n nC:Nat} {rho:Nat→Rho} (hs:a3H nC ia ib ij 0 C=true) (hn:nC=C.length)
  (ha: ∀i,(rho i).int ia=i) (hb: ∀i,(rho i).int ib=n) (hj: ∀i,i<n→(rho i).int ij=(i:Int)+1) (hN: ∀p c,a0K C p=some c→p≠0→ ∀i j,agree c.N (rho i) (rho j)) (ext: ∀i,i≤n→ ∀e∈KT,b7x P (rho i) w0 e)
  (hOK: ∀p c,a0K C p=some c→ ∀i,i≤n→I p i→IvOK c.iv (rho i)∧ ∀iv fs,IvOK iv (rho i)→b0j fs (rho i)→ ∀φ:Phi,φ.ρ=rho i→EnvP (c.E iv fs) φ w0) {r:VV} {res:Value} (hres: ∀ρ,a0k ρ r=some res) (hr:Rd C (fun i=>(rho i).int) I 0 0 r) (hargs:VRs ⟨fun _=>none,rho 0⟩ args args'):
  Calls P f ⟨args'⟩ w0 fun e w'=>e= .returned res∧Below w0.heap.size w0 w':=by
 letI:Ext:=a6s P KT
 obtain⟨k,hk⟩:=d1z hs hn ha hb hj hN (fun p c hp i hi hI=>CutP.ok_of (ext i hi) (hOK p c hp i hi hI).1 (hOK p c hp i hi hI).2) hr (Nat.zero_le _) hres
 exact c3B A hf hbody h1 hc e1 e2 e4 e5 (fun r b h=>by cases h) hargs hk
def ivE(iv:Ivs)(i:Nat):Bool:=decide ((a2I iv i).2<(a2I iv i).1)
def relT(iv:Ivs)(i j:Nat):Ivs:=a0R (a0a iv i ((a2I iv j).2-1)) j ((a2I iv i).1+1)
def relF(iv:Ivs)(i j:Nat):Ivs:=a0R (a0a iv j (a2I iv i).2) i (a2I iv j).1
theorem VOK.relT{iv:Ivs}{rs:c3K}{v:Nat→Int}(h:VOK iv rs v){i j:Nat}(hlt:v i<v j):VOK (relT iv i j) ((i,j,true)::rs) v:=by
 have h1:=h.1 i
 have h2:=h.1 j
 exact((h.hi (i:=i) (c:=(a2I iv j).2-1) (by omega)).lo (i:=j) (c:=(a2I iv i).1+1) (by omega)).rel (decide_eq_true hlt)
theorem VOK.relF{iv:Ivs}{rs:c3K}{v:Nat→Int}(h:VOK iv rs v){i j:Nat}(hlt: ¬v i<v j):VOK (relF iv i j) ((i,j,false)::rs) v:=by
 have h1:=h.1 i
 have h2:=h.1 j
 exact((h.hi (i:=j) (c:=(a2I iv i).2) (by omega)).lo (i:=i) (c:=(a2I iv j).1) (by omega)).rel (decide_eq_false hlt)
theorem b0L{iv:Ivs}{rs:c3K}{v:Nat→Int}(h:VOK iv rs v){i:Nat}(he:ivE iv i=true):False:=by
 have h1:=h.1 i
 have h2:=of_decide_eq_true he
 omega
section
variable{α β:Type}
def b8D(p:β→Bool):TrX β→Ivs→c3K→Bool
 |.leaf b,_,_=>p b
 |.cut i c l r,iv,rs=>match decide ((a2I iv i).2≤c),decide (c<(a2I iv i).1)with
  |true,_=>b8D p l iv rs
  |_,true=>b8D p r iv rs
  |_,_=>match b8D p l (a0a iv i c) rs with
   |true=>b8D p r (a0R iv i (c+1)) rs
   |false=>false
 |.rel _ i j l r,iv,rs=>match c6F.relAt rs i j with
  |some true=>b8D p l iv rs
  |some false=>b8D p r iv rs
  |none=>match(match ivE (relT iv i j) i,ivE (relT iv i j) j with|false,false=>b8D p l (relT iv i j) ((i,j,true)::rs)|_,_=>true)with
   |true=>match ivE (relF iv i j) i,ivE (relF iv i j) j with|false,false=>b8D p r (relF iv i j) ((i,j,false)::rs)|_,_=>true
   |false=>false
def eqY(p:α→β→Bool)(u:TrX β):TrX α→Ivs→c3K→Bool
 |.leaf a,iv,rs=>b8D (p a) u iv rs
 |.cut i c l r,iv,rs=>match decide ((a2I iv i).2≤c),decide (c<(a2I iv i).1)with
  |true,_=>eqY p u l iv rs
  |_,true=>eqY p u r iv rs
  |_,_=>match eqY p u l (a0a iv i c) rs with
   |true=>eqY p u r (a0R iv i (c+1)) rs
   |false=>false
 |.rel _ i j l r,iv,rs=>match c6F.relAt rs i j with
  |some true=>eqY p u l iv rs
  |some false=>eqY p u r iv rs
  |none=>match(match ivE (relT iv i j) i,ivE (relT iv i j) j with|false,false=>eqY p u l (relT iv i j) ((i,j,true)::rs)|_,_=>true)with
   |true=>match ivE (relF iv i j) i,ivE (relF iv i j) j with|false,false=>eqY p u r (relF iv i j) ((i,j,false)::rs)|_,_=>true
   |false=>false
theorem a3A{p:β→Bool}{v:Nat→Int}: ∀{t:TrX β} {iv:Ivs} {rs:c3K},b8D p t iv rs=true→VOK iv rs v→p (a1b t v)=true
 |.leaf b,iv,rs,h,_=>h
 |.cut i c l r,iv,rs,h,hv=>by
  simp only[b8D]at h
  simp only[a1b]
  have hi:=hv.1 i
  cases e1:decide ((a2I iv i).2≤c)with
  |true=>
   simp only[e1]at h
   have:=of_decide_eq_true e1
   rw[if_pos (by omega)]
   exact a3A h hv
  |false=>cases e2:decide (c<(a2I iv i).1)with
   |true=>
    simp only[e1,e2]at h
    have:=of_decide_eq_true e2
    rw[if_neg (by omega)]
    exact a3A h hv
   |false=>
    simp only[e1,e2]at h
    split at h
    ·rename_i h1
     split
     ·exact a3A h1 (hv.hi ‹_›)
     ·exact a3A h (hv.lo (by omega))
    ·cases h
 |.rel k i j l r,iv,rs,h,hv=>by
  simp only[b8D]at h
  simp only[a1b]
  split at h
  ·rename_i h1
   rw[if_pos (of_decide_eq_true (a8K hv h1))]
   exact a3A h hv
  ·rename_i h1
   rw[if_neg (of_decide_eq_false (a8K hv h1))]
   exact a3A h hv
  ·split at h
   ·rename_i h1
    split
    ·rename_i hlt
     have hv':=hv.relT hlt
     cases e1:ivE (relT iv i j) i with
     |true=>exact(b0L hv' e1).elim
     |false=>cases e2:ivE (relT iv i j) j with
      |true=>exact(b0L hv' e2).elim
      |false=>
       simp only[e1,e2]at h1
       exact a3A h1 hv'
    ·rename_i hlt
     have hv':=hv.relF hlt
     cases e1:ivE (relF iv i j) i with
     |true=>exact(b0L hv' e1).elim
     |false=>cases e2:ivE (relF iv i j) j with
      |true=>exact(b0L hv' e2).elim
      |false=>
       simp only[e1,e2]at h
       exact a3A h hv'
   ·cases h
theorem a5Y{p:α→β→Bool}{u:TrX β}{v:Nat→Int}: ∀{t:TrX α} {iv:Ivs} {rs:c3K},eqY p u t iv rs=true→VOK iv rs v→p (a1b t v) (a1b u v)=true
 |.leaf b,iv,rs,h,hv=>a3A (p:=p b) h hv
 |.cut i c l r,iv,rs,h,hv=>by
  simp only[eqY]at h
  simp only[a1b]
  have hi:=hv.1 i
  cases e1:decide ((a2I iv i).2≤c)with
  |true=>
   simp only[e1]at h
   have:=of_decide_eq_true e1
   rw[if_pos (by omega)]
   exact a5Y h hv
  |false=>cases e2:decide (c<(a2I iv i).1)with
   |true=>
    simp only[e1,e2]at h
    have:=of_decide_eq_true e2
    rw[if_neg (by omega)]
    exact a5Y h hv
   |false=>
    simp only[e1,e2]at h
    split at h
    ·rename_i h1
     split
     ·exact a5Y h1 (hv.hi ‹_›)
     ·exact a5Y h (hv.lo (by omega))
    ·cases h
 |.rel k i j l r,iv,rs,h,hv=>by
  simp only[eqY]at h
  simp only[a1b]
  split at h
  ·rename_i h1
   rw[if_pos (of_decide_eq_true (a8K hv h1))]
   exact a5Y h hv
  ·rename_i h1
   rw[if_neg (of_decide_eq_false (a8K hv h1))]
   exact a5Y h hv
  ·split at h
   ·rename_i h1
    split
    ·rename_i hlt
     have hv':=hv.relT hlt
     cases e1:ivE (relT iv i j) i with
     |true=>exact(b0L hv' e1).elim
     |false=>cases e2:ivE (relT iv i j) j with
      |true=>exact(b0L hv' e2).elim
      |false=>
       simp only[e1,e2]at h1
       exact a5Y h1 hv'
    ·rename_i hlt
     have hv':=hv.relF hlt
     cases e1:ivE (relF iv i j) i with
     |true=>exact(b0L hv' e1).elim
     |false=>cases e2:ivE (relF iv i j) j with
      |true=>exact(b0L hv' e2).elim
      |false=>
       simp only[e1,e2]at h
       exact a5Y h hv'
   ·cases h
end
end
end Go.Ev
