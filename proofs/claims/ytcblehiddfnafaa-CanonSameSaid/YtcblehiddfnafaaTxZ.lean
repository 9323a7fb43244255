/-
  Chapter 28: the law CanonNames, walked.
-/
import Derived.Test.YtcblehiddfnafaaTxY
import Derived.SizedLaws
import Derived.OpenShut
import Derived.Deep.Slices
namespace Go.Proofs.Ytcblehiddfnafaa.canonSame
open Go.Shelf Go.RowKit Go.Lib Go.Sort
end Go.Proofs.Ytcblehiddfnafaa.canonSame
namespace Go.Proofs.Ytcblehiddfnafaa.canonSame.Lv
open Go.Shelf Go.RowKit Go.Lib Go.Sort
noncomputable section
def b3m(l:List TypeId):Nat→List TypeId
 |0=>[]
 |n+1=>l++b3m l n
def b3B(f:TypeId→Option (List TypeId)):Nat→List Field→Option (List TypeId)
 |_,[]=>some []
 |o,fd::fs=>match Nat.beq fd.offset o,f fd.type with
  |true,some l=>match b3B f (o+l.length) fs with
   |some r=>some (l++r)
   |none=>none
  |_,_=>none
def b0Q:TypeDesc→Bool
 |.int _|.bool|.string|.slice _=>true
 |_=>false
def a2k(P:Program):Nat→TypeId→Option (List TypeId)
 |0,_=>none
 |d+1,t=>match P.underlying t with
  |some (.struct fs)=>match b3B (a2k P d) 0 fs.toList with
   |some l=>match Nat.beq (P.cellsOf t) l.length with
    |true=>some l
    |false=>none
   |none=>none
  |some (.array n e)=>match a2k P d e with
   |some l=>match Nat.beq (P.cellsOf t) (b3m l n).length with
    |true=>some (b3m l n)
    |false=>none
   |none=>none
  |some d=>match b0Q d,Nat.beq (P.cellsOf t) 1 with
   |true,true=>some [t]
   |_,_=>none
  |none=>none
theorem a6G(l:List TypeId): ∀n,(b3m l n).length=n*l.length
 |0=>by simp[b3m]
 |n+1=>by simp[b3m,a6G l n,Nat.succ_mul,Nat.add_comm]
theorem a2t{P:Program}: ∀{d:Nat} {t:TypeId} {l:List TypeId},a2k P d t=some l→P.cellsOf t=l.length
 |0,t,l,h=>by simp[a2k]at h
 |d+1,t,l,h=>by
  simp only[a2k]at h
  split at h
  ·split at h
   ·split at h
    ·rename_i hb
     simp only[Option.some.injEq]at h
     subst h
     exact Nat.eq_of_beq_eq_true hb
    ·cases h
   ·cases h
  ·split at h
   ·split at h
    ·rename_i hb
     simp only[Option.some.injEq]at h
     subst h
     exact Nat.eq_of_beq_eq_true hb
    ·cases h
   ·cases h
  ·split at h
   ·rename_i hb
    simp only[Option.some.injEq]at h
    subst h
    exact Nat.eq_of_beq_eq_true hb
   ·cases h
  ·cases h
theorem b3r{H:Type}{enc:TypeId×Value→H}{P:Program}{w:World}{base:Nat}{sp:Nat→Bool}{held:Bool}{n:Nat}{t:TypeId}{d:TypeDesc}(hu:P.underlying t=some d)(hd:b0Q d=true){cs:List Value}{y:DataW H×List MemPlace}(hy:DataW.trod enc P w base sp held n t cs=some y):cs.length=1:=by
 cases d<;>simp[b0Q]at hd
 ·obtain⟨b,rfl,_⟩:=DataW.trod_bool hu hy;rfl
 ·obtain⟨b,rfl,_⟩:=DataW.trod_int hu hy;rfl
 ·obtain⟨b,rfl,_⟩:=DataW.trod_string hu hy;rfl
 ·rcases DataW.trod_slice hu hy with⟨rfl,_⟩|⟨_,_,_,_,_,_,_,rfl,_⟩<;>rfl
section
variable{H:Type}{enc:TypeId×Value→H}{P:Program}{w:World}{base:Nat}{sp:Nat→Bool}{held:Bool}
def Wt(P:Program)(t:TypeId)(d:DataW H):Prop:= ∀q∈d.weights P t,q≤reachBytes
def LeavesOK(enc:TypeId×Value→H)(P:Program)(w:World)(base:Nat)(sp:Nat→Bool)(held:Bool)(ts:List TypeId)(cs:List Value):Prop:=
 cs.length=ts.length∧ ∀(j:Nat) (u:TypeId),ts[j]? =some u→ ∃(v:Value) (n:Nat) (y:DataW H×List MemPlace),cs[j]? =some v∧DataW.trod enc P w base sp held n u [v]=some y∧Wt P u y.1
theorem LeavesOK.append{ts us:List TypeId}{cs:List Value}(h1:LeavesOK enc P w base sp held ts (cs.take ts.length))(h2:LeavesOK enc P w base sp held us (cs.drop ts.length))(hl:ts.length≤cs.length):LeavesOK enc P w base sp held (ts++us) cs:=by
 refine⟨?_,fun j u hj=> ?_⟩
 ·have:=h2.1
  simp at this ⊢
  omega
 ·rw[List.getElem?_append]at hj
  split at hj
  ·rename_i hlt
   obtain⟨v,n,y,g1,g2⟩:=h1.2 j u hj
   rw[List.getElem?_take,if_pos hlt]at g1
   exact⟨v,n,y,g1,g2⟩
  ·rename_i hlt
   obtain⟨v,n,y,g1,g2⟩:=h2.2 _ u hj
   rw[List.getElem?_drop,show ts.length+(j-ts.length)=j by omega]at g1
   exact⟨v,n,y,g1,g2⟩
theorem a3z{e:TypeId}: ∀{l:List (DataW H)} {d:DataW H},d∈l→ ∀{q:Nat},q∈d.weights P e→q∈DataW.weightsAll P e l
 |x::l,d,hd,q,hq=>by
  simp only[DataW.weightsAll,List.mem_append]
  rcases List.mem_cons.1 hd with rfl|hd
  ·exact .inl hq
  ·exact .inr (a3z hd hq)
theorem b1D{d:Nat}(ih: ∀{t l n} {cs:List Value} {y:DataW H×List MemPlace},a2k P d t=some l→DataW.trod enc P w base sp held n t cs=some y→Wt P t y.1→LeavesOK enc P w base sp held l cs){n:Nat}{cs:List Value}:
  ∀(fs:List Field) (o:Nat) (l:List TypeId),b3B (a2k P d) o fs=some l→o+l.length=cs.length→(∀(i:Nat) (f:Field),fs[i]? =some f→ ∃y,DataW.trod enc P w base sp held n f.type ((cs.drop f.offset).take (P.cellsOf f.type))=some y∧Wt P f.type y.1)→LeavesOK enc P w base sp held l (cs.drop o)
 | [],o,l,h,hl,_=>by
  simp only[b3B,Option.some.injEq]at h
  subst h
  refine⟨by simp at hl ⊢;omega,fun j u hj=>by simp at hj⟩
 |fd::fs,o,l,h,hl,hx=>by
  simp only[b3B]at h
  split at h
  ·rename_i l0 hb h0
   split at h
   ·rename_i r hr
    simp only[Option.some.injEq]at h
    subst h
    have ho:=Nat.eq_of_beq_eq_true hb
    have hc:=a2t h0
    simp only[List.length_append]at hl
    obtain⟨y,hy,hwt⟩:=hx 0 fd rfl
    rw[ho,hc]at hy
    have h1:=ih h0 hy hwt
    have h2:=b1D ih fs (o+l0.length) r hr (by omega) (fun i f hf=>hx (i+1) f hf)
    refine LeavesOK.append h1 ?_ (by simp;omega)
    rw[List.drop_drop]
    exact h2
   ·cases h
  ·cases h
theorem b2Z{l:List TypeId}: ∀{n:Nat} {cs:List Value},cs.length=n*l.length→(∀i,i<n→LeavesOK enc P w base sp held l ((cs.drop (i*l.length)).take l.length))→LeavesOK enc P w base sp held (b3m l n) cs
 |0,cs,hl,_=>by
  refine⟨by simpa[b3m]using hl,fun j u hj=>by simp[b3m]at hj⟩
 |n+1,cs,hl,h=>by
  have hl':cs.length=n*l.length+l.length:=by rw[hl,Nat.succ_mul]
  simp only[b3m]
  refine LeavesOK.append ?_ ?_ (by omega)
  ·have:=h 0 (by omega)
   simpa using this
  ·refine b2Z (by simp;omega) fun i hi=> ?_
   have:=h (i+1) (by omega)
   rw[List.drop_drop]
   rw[show l.length+i*l.length=(i+1)*l.length by rw[Nat.succ_mul];omega]
   exact this
theorem leaves_ok: ∀{d:Nat} {t:TypeId} {l:List TypeId} {n:Nat} {cs:List Value} {y:DataW H×List MemPlace},a2k P d t=some l→DataW.trod enc P w base sp held n t cs=some y→Wt P t y.1→LeavesOK enc P w base sp held l cs
 |0,t,l,n,cs,y,h,_,_=>by simp[a2k]at h
 |d+1,t,l,n,cs,y,h,hy,hw=>by
  have hcl:=a2t h
  simp only[a2k]at h
  split at h
  ·rename_i fs hu
   split at h
   ·rename_i l' hl'
    split at h
    ·simp only[Option.some.injEq]at h
     subst h
     obtain⟨xs,m,_,hyx,hlen,hxs,hall⟩:=DataW.trod_struct hu hy
     have:=b1D (H:=H) (enc:=enc) (P:=P) (w:=w) (base:=base) (sp:=sp) (held:=held) (d:=d) (fun h1 h2 h3=>leaves_ok h1 h2 h3) (n:=m) (cs:=cs) fs.toList 0 l' hl' (by rw[Nat.zero_add,hlen,hcl]) (fun i f hf=>by
      have hi:i<xs.length:=by
       rw[hxs]
       simpa using(List.getElem?_eq_some_iff.1 hf).1
      have:=hall i f (by simpa using hf)
      rw[List.getElem?_eq_getElem hi]at this
      refine⟨_,this,fun q hq=>hw q ?_⟩
      rw[hyx]
      simp only[DataW.weights,hu]
      exact DataW.weights_mem_each (j:=i) (by rw[List.getElem?_map,hf];rfl) (by rw[List.getElem?_map,List.getElem?_eq_getElem hi];rfl) q hq)
     simpa using this
    ·cases h
   ·cases h
  ·rename_i k e hu
   split at h
   ·rename_i l' hl'
    split at h
    ·simp only[Option.some.injEq]at h
     subst h
     obtain⟨xs,m,_,hyx,hlen,hxs,hall⟩:=DataW.trod_array hu hy
     have hce:=a2t hl'
     refine b2Z (by rw[hlen,hcl,a6G]) fun i hi=> ?_
     have:=hall i hi
     rw[List.getElem?_eq_getElem (by omega),hce]at this
     refine leaves_ok hl' this fun q hq=>hw q ?_
     rw[hyx]
     simp only[DataW.weights,hu]
     exact a3z (List.mem_map_of_mem (List.getElem_mem _)) hq
    ·cases h
   ·cases h
  ·rename_i dd hns hna hu
   split at h
   ·rename_i hb _
    simp only[Option.some.injEq]at h
    subst h
    have hlen:cs.length=1:=b3r hu hb hy
    match cs,hlen with
    | [v],_=>exact⟨rfl,fun j u hj=>by
      match j with
      |0=>cases hj;exact⟨v,_,_,rfl,hy,hw⟩
      |j+1=>simp at hj⟩
   ·cases h
  ·cases h
theorem a0K{ts:List TypeId}{cs:List Value}(h:LeavesOK enc P w base sp held ts cs){j:Nat}{t:TypeId}(hj:ts[j]? =some t)(ht:P.underlying t=some (.int .i64)): ∃z,cs[j]? =some (.int .i64 z):=by
 obtain⟨v,n,y,h1,h2,_⟩:=h.2 j t hj
 obtain⟨z,e,_,_⟩:=DataW.trod_int ht h2
 simp only[List.cons.injEq,and_true]at e
 exact⟨z,by rw[h1,e]⟩
theorem a1u{ts:List TypeId}{cs:List Value}(h:LeavesOK enc P w base sp held ts cs){j:Nat}{t:TypeId}(hj:ts[j]? =some t)(ht:P.underlying t=some .bool): ∃z,cs[j]? =some (.bool z):=by
 obtain⟨v,n,y,h1,h2,_⟩:=h.2 j t hj
 obtain⟨z,e,_⟩:=DataW.trod_bool ht h2
 simp only[List.cons.injEq,and_true]at e
 exact⟨z,by rw[h1,e]⟩
end
section
variable{H:Type}{enc:TypeId×Value→H}{P:Program}{w:World}
theorem b5e{t e:TypeId}{ts:List TypeId}{n:Nat}{v:Value}{y:DataW H×List MemPlace}(ht:P.underlying t=some (.slice e))(hf:a2k P 9 e=some ts)(hp:0<ts.length)(h:DataW.trod enc P w 0 (fun _=>true) true n t [v]=some y)(hw:Wt P t y.1):
  ∃a len cap,∃X:Nat→List Value,v= .slice a len cap∧(len≤cap∧cap≤maxLen∧cap*P.bytesOf e≤reachBytes)∧(∀i,i<len→LeavesOK enc P w 0 (fun _=>true) true ts (X i))∧Rows w a ts.length ((List.range len).map fun i=>(X i).toArray):=by
 have hce:=a2t hf
 rcases Go.Deep.open_slice ht h with⟨hs,_⟩|⟨ad,len,cap,m,n',DD,Pl,hs,_,hl,hc,hmm,hyx,hall⟩
 ·simp only[List.cons.injEq,and_true]at hs
  exact⟨none,0,0,fun _=>[],hs,⟨Nat.le_refl _,Nat.zero_le _,by rw[Nat.zero_mul];exact Nat.zero_le _⟩,fun i hi=>by omega,.inl rfl⟩
 ·simp only[List.cons.injEq,and_true]at hs
  simp only[if_true]at hmm
  subst hmm
  have hwe: ∀i,i<len→Wt P e (DD i):=fun i hi q hq=>hw q (by
   rw[hyx]
   simp only[DataW.weights,ht]
   exact List.mem_cons_of_mem _ (List.mem_append_left _ (a3z (List.mem_map.2 ⟨i,List.mem_range.2 hi,rfl⟩) hq)))
  have hbt:m*P.bytesOf e≤reachBytes:=hw _ (by
   rw[hyx]
   simp only[DataW.weights,ht,List.length_map,List.length_range]
   rw[show len+(m-len)=m by omega]
   exact List.mem_cons_self)
  have each: ∀i,∃X:List Value,i<len→LeavesOK enc P w 0 (fun _=>true) true ts X∧ ∀j,j<ts.length→w.cell? ((ad.add (i*ts.length)).add j)=X[j]? :=fun i=>by
   by_cases hi:i<len
   ·obtain⟨cs',h1,h2⟩:=hall i (Nat.lt_of_lt_of_le hi hl)
    obtain⟨_,c2,c3⟩:=World.cells?_some h1
    rw[hce]at c3
    exact⟨cs',fun _=>⟨leaves_ok hf h2 (hwe i hi),c3⟩⟩
   ·exact⟨[],fun h=>absurd h hi⟩
  obtain⟨X,hX⟩:=Classical.skolem.1 each
  refine⟨some ad,len,m,X,hs,⟨hl,hc,hbt⟩,fun i hi=>(hX i hi).1, ?_⟩
  rcases Nat.eq_zero_or_pos len with h0|h0
  ·subst h0
   exact .inl rfl
  ·obtain⟨k1,k2⟩:=hX 0 h0
   have hcell:=k2 0 hp
   rw[List.getElem?_eq_getElem (by rw[k1.1];exact hp)]at hcell
   have hsp:=World.cell?_spot hcell
   obtain⟨B,O,spot⟩:=ad
   have hspot:spot=none:=by simpa[Addr.add]using hsp
   subst hspot
   have hB:B<w.heap.size:=by
    rw[Addr.add_lit,Addr.add_lit]at hcell
    exact World.block_lt_of_cell? w _ hcell
   refine .inr ⟨B,O,rfl,hB,fun i x hx j v hv=> ?_⟩
   obtain⟨hi,rfl⟩:=List.getElem?_eq_some_iff.1 hx
   simp only[List.length_map,List.length_range]at hi
   simp only[List.getElem_map,List.getElem_range]at hv
   have hv':(X i)[j]? =some v:=by simpa using hv
   obtain⟨q1,q2⟩:=hX i hi
   have hj:j<ts.length:=by rw[←q1.1];exact(List.getElem?_eq_some_iff.1 hv').1
   have:=q2 j hj
   rw[Addr.add_lit,Addr.add_lit,hv']at this
   exact this
theorem a1g{ts:List TypeId}{cs:List Value}(h:LeavesOK enc P w 0 (fun _=>true) true ts cs){j:Nat}{t e:TypeId}{us:List TypeId}(hj:ts[j]? =some t)(ht:P.underlying t=some (.slice e))(hf:a2k P 9 e=some us)(hp:0<us.length): ∃a len cap,∃X:Nat→List Value,cs[j]? =some (.slice a len cap)∧(len≤cap∧cap≤maxLen∧cap*P.bytesOf e≤reachBytes)∧(∀i,i<len→LeavesOK enc P w 0 (fun _=>true) true us (X i))∧Rows w a us.length ((List.range len).map fun i=>(X i).toArray):=by
 obtain⟨v,n,y,h1,h2,h3⟩:=h.2 j t hj
 obtain⟨a,len,cap,X,rfl,k1,k2,k3⟩:=b5e ht hf hp h2 h3
 exact⟨a,len,cap,X,h1,k1,k2,k3⟩
theorem a9A{α β:Type}{f:Nat→α}{g:β→α}: ∀{n:Nat},(∀i,i<n→ ∃b,f i=g b)→ ∃l:List β,l.length=n∧(List.range n).map f=l.map g∧ ∀i (hi:i<l.length),f i=g l[i]
 |0,_=>⟨[],rfl,rfl,fun i hi=>by simp at hi⟩
 |n+1,h=>by
  obtain⟨l,h1,h2,h3⟩:=a9A (f:=f) (g:=g) (n:=n) fun i hi=>h i (by omega)
  obtain⟨b,hb⟩:=h n (by omega)
  refine⟨l++ [b],by simp[h1],by rw[List.range_succ,List.map_append,h2,List.map_append];simp[hb],fun i hi=> ?_⟩
  rcases Nat.lt_or_ge i l.length with hi'|hi'
  ·rw[List.getElem_append_left hi']
   exact h3 i hi'
  ·simp only[List.length_append,List.length_singleton]at hi
   obtain rfl:i=n:=by omega
   rw[List.getElem_append_right hi']
   simpa using hb
end
end
end Go.Proofs.Ytcblehiddfnafaa.canonSame.Lv
namespace Go.Proofs.Ytcblehiddfnafaa.canonSame.Lv
open Go.Shelf Go.RowKit Go.Lib Go.Sort
noncomputable section
theorem b6l{X:List Value}(h:X.length=2): ∃x0 x1,X= [x0,x1]:=by
 match X,h with
 | [x0,x1],_=>exact⟨x0,x1,rfl⟩
theorem b6k{X:List Value}(h:X.length=4): ∃x0 x1 x2 x3,X= [x0,x1,x2,x3]:=by
 match X,h with
 | [x0,x1,x2,x3],_=>exact⟨x0,x1,x2,x3,rfl⟩
theorem b6j{X:List Value}(h:X.length=7): ∃x0 x1 x2 x3 x4 x5 x6,X= [x0,x1,x2,x3,x4,x5,x6]:=by
 match X,h with
 | [x0,x1,x2,x3,x4,x5,x6],_=>exact⟨x0,x1,x2,x3,x4,x5,x6,rfl⟩
theorem b6i{X:List Value}(h:X.length=8): ∃x0 x1 x2 x3 x4 x5 x6 x7,X= [x0,x1,x2,x3,x4,x5,x6,x7]:=by
 match X,h with
 | [x0,x1,x2,x3,x4,x5,x6,x7],_=>exact⟨x0,x1,x2,x3,x4,x5,x6,x7,rfl⟩
theorem b5c{X:List Value}(h:X.length=14): ∃x0 x1 x2 x3 x4 x5 x6 x7 x8 x9 x10 x11 x12 x13,X= [x0,x1,x2,x3,x4,x5,x6,x7,x8,x9,x10,x11,x12,x13]:=by
 match X,h with
 | [x0,x1,x2,x3,x4,x5,x6,x7,x8,x9,x10,x11,x12,x13],_=>exact⟨x0,x1,x2,x3,x4,x5,x6,x7,x8,x9,x10,x11,x12,x13,rfl⟩
theorem b5b{X:List Value}(h:X.length=25): ∃x0 x1 x2 x3 x4 x5 x6 x7 x8 x9 x10 x11 x12 x13 x14 x15 x16 x17 x18 x19 x20 x21 x22 x23 x24,X= [x0,x1,x2,x3,x4,x5,x6,x7,x8,x9,x10,x11,x12,x13,x14,x15,x16,x17,x18,x19,x20,x21,x22,x23,x24]:=by
 match X,h with
 | [x0,x1,x2,x3,x4,x5,x6,x7,x8,x9,x10,x11,x12,x13,x14,x15,x16,x17,x18,x19,x20,x21,x22,x23,x24],_=>exact⟨x0,x1,x2,x3,x4,x5,x6,x7,x8,x9,x10,x11,x12,x13,x14,x15,x16,x17,x18,x19,x20,x21,x22,x23,x24,rfl⟩
theorem b4x{X:List Value}(h:X.length=1): ∃x0,X= [x0]:=by
 match X,h with
 | [x0],_=>exact⟨x0,rfl⟩
def b8G:List TypeId:=[3,3]
theorem b8P:a2k Try.prog 9 45=some b8G:=by kernel_rfl
def b8E:List TypeId:=[3,3,3,3]
theorem b8s:a2k Try.prog 9 97=some b8E:=by kernel_rfl
def b8F:List TypeId:=[3,3,3,3,3,4,4,4]
theorem b8t:a2k Try.prog 9 66=some b8F:=by kernel_rfl
def b8I:List TypeId:=[3,3,3,3,3,4,4,4,3,3,3,3,4,39]
theorem b8u:a2k Try.prog 9 41=some b8I:=by kernel_rfl
def b8H:List TypeId:=[3,3,3,3,3,3,27]
theorem b8Q:a2k Try.prog 9 43=some b8H:=by kernel_rfl
def b8K:List TypeId:=[25]
theorem b7f:a2k Try.prog 9 25=some b8K:=by kernel_rfl
def ts3:List TypeId:=[3]
theorem fl3:a2k Try.prog 9 3=some ts3:=by kernel_rfl
def b8J:List TypeId:=[22,23,24,24,24,24,25,26,26,3,3,3,3,3,3,3,3,3,3,3,3,27,4,3,3]
theorem fl31:a2k Try.prog 9 31=some b8J:=by kernel_rfl
section
variable{H:Type}{enc:TypeId×Value→H}{w:World}
theorem b7R{X:List Value}(h:LeavesOK enc Try.prog w 0 (fun _=>true) true ts3 X): ∃n:Int,X= [.int .i64 n]:=by
 obtain⟨x0,rfl⟩:=b4x h.1
 obtain⟨z0,h0⟩:=a0K h (j:=0) rfl Try.underlying3
 simp only[List.getElem?_cons_zero,Option.some.injEq]at h0
 subst h0
 exact⟨z0,rfl⟩
theorem b6e{X:List Value}(h:LeavesOK enc Try.prog w 0 (fun _=>true) true b8G X): ∃p:Int×Int,X= [.int .i64 p.1,.int .i64 p.2]:=by
 obtain⟨x0,x1,rfl⟩:=b6l h.1
 obtain⟨z0,h0⟩:=a0K h (j:=0) rfl Try.underlying3
 simp only[List.getElem?_cons_zero,Option.some.injEq]at h0
 subst h0
 obtain⟨z1,h1⟩:=a0K h (j:=1) rfl Try.underlying3
 simp only[pq]at h1
 subst h1
 exact⟨(z0,z1),rfl⟩
theorem b7z{X:List Value}(h:LeavesOK enc Try.prog w 0 (fun _=>true) true b8E X): ∃x:Efd,X=efV x:=by
 obtain⟨x0,x1,x2,x3,rfl⟩:=b6k h.1
 obtain⟨z0,h0⟩:=a0K h (j:=0) rfl Try.underlying3
 simp only[List.getElem?_cons_zero,Option.some.injEq]at h0
 subst h0
 obtain⟨z1,h1⟩:=a0K h (j:=1) rfl Try.underlying3
 simp only[pq]at h1
 subst h1
 obtain⟨z2,h2⟩:=a0K h (j:=2) rfl Try.underlying3
 simp only[pq]at h2
 subst h2
 obtain⟨z3,h3⟩:=a0K h (j:=3) rfl Try.underlying3
 simp only[pq]at h3
 subst h3
 exact⟨⟨z0,z1,z2,z3⟩,rfl⟩
theorem b7q{X:List Value}(h:LeavesOK enc Try.prog w 0 (fun _=>true) true b8F X): ∃x:Pld,X=plV x:=by
 obtain⟨x0,x1,x2,x3,x4,x5,x6,x7,rfl⟩:=b6i h.1
 obtain⟨z0,h0⟩:=a0K h (j:=0) rfl Try.underlying3
 simp only[List.getElem?_cons_zero,Option.some.injEq]at h0
 subst h0
 obtain⟨z1,h1⟩:=a0K h (j:=1) rfl Try.underlying3
 simp only[pq]at h1
 subst h1
 obtain⟨z2,h2⟩:=a0K h (j:=2) rfl Try.underlying3
 simp only[pq]at h2
 subst h2
 obtain⟨z3,h3⟩:=a0K h (j:=3) rfl Try.underlying3
 simp only[pq]at h3
 subst h3
 obtain⟨z4,h4⟩:=a0K h (j:=4) rfl Try.underlying3
 simp only[pq]at h4
 subst h4
 obtain⟨z5,h5⟩:=a1u h (j:=5) rfl Try.underlying4
 simp only[pq]at h5
 subst h5
 obtain⟨z6,h6⟩:=a1u h (j:=6) rfl Try.underlying4
 simp only[pq]at h6
 subst h6
 obtain⟨z7,h7⟩:=a1u h (j:=7) rfl Try.underlying4
 simp only[pq]at h7
 subst h7
 exact⟨⟨z0,z1,z2,z3,z4,z5,z6,z7⟩,rfl⟩
theorem b9n:Try.prog.bytesOf 97=32:=by kernel_rfl
theorem a3Y{β:Type}{g:β→List Value}{len k:Nat}{a:Option Addr}{Y:Nat→List Value}(hr:Rows w a k ((List.range len).map fun i=>(Y i).toArray))(h: ∀i,i<len→ ∃b,Y i=g b): ∃l:List β,l.length=len∧RowsI 0 w.heap.size w a k (l.map fun x=>(g x).toArray):=by
 obtain⟨l,e1,e2,_⟩:=a9A (f:=fun i=>(Y i).toArray) (g:=fun x:β=>(g x).toArray) (n:=len) fun i hi=>by
  obtain⟨x,hx⟩:=h i hi
  exact⟨x,by rw[hx]⟩
 rw[e2]at hr
 exact⟨l,e1,RowsI.of hr⟩
theorem b7r{X:List Value}(h:LeavesOK enc Try.prog w 0 (fun _=>true) true b8I X): ∃(x:Obd) (a:Option Addr) (c:Nat),X=obV x (.slice a x.effs.length c)∧RowsI 0 w.heap.size w a 4 (x.effs.map fun y=>(efV y).toArray)∧x.effs.length≤maxLen∧x.effs.length*32≤140737488355328:=by
 obtain⟨x0,x1,x2,x3,x4,x5,x6,x7,x8,x9,x10,x11,x12,x13,rfl⟩:=b5c h.1
 obtain⟨z0,h0⟩:=a0K h (j:=0) rfl Try.underlying3
 simp only[List.getElem?_cons_zero,Option.some.injEq]at h0
 subst h0
 obtain⟨z1,h1⟩:=a0K h (j:=1) rfl Try.underlying3
 simp only[pq]at h1
 subst h1
 obtain⟨z2,h2⟩:=a0K h (j:=2) rfl Try.underlying3
 simp only[pq]at h2
 subst h2
 obtain⟨z3,h3⟩:=a0K h (j:=3) rfl Try.underlying3
 simp only[pq]at h3
 subst h3
 obtain⟨z4,h4⟩:=a0K h (j:=4) rfl Try.underlying3
 simp only[pq]at h4
 subst h4
 obtain⟨z5,h5⟩:=a1u h (j:=5) rfl Try.underlying4
 simp only[pq]at h5
 subst h5
 obtain⟨z6,h6⟩:=a1u h (j:=6) rfl Try.underlying4
 simp only[pq]at h6
 subst h6
 obtain⟨z7,h7⟩:=a1u h (j:=7) rfl Try.underlying4
 simp only[pq]at h7
 subst h7
 obtain⟨z8,h8⟩:=a0K h (j:=8) rfl Try.underlying3
 simp only[pq]at h8
 subst h8
 obtain⟨z9,h9⟩:=a0K h (j:=9) rfl Try.underlying3
 simp only[pq]at h9
 subst h9
 obtain⟨z10,h10⟩:=a0K h (j:=10) rfl Try.underlying3
 simp only[pq]at h10
 subst h10
 obtain⟨z11,h11⟩:=a0K h (j:=11) rfl Try.underlying3
 simp only[pq]at h11
 subst h11
 obtain⟨z12,h12⟩:=a1u h (j:=12) rfl Try.underlying4
 simp only[pq]at h12
 subst h12
 obtain⟨a,len,cap,Y,h13,⟨hc,hm,hb⟩,hl,hr⟩:=a1g h (j:=13) rfl Try.underlying39 b8s (by decide)
 simp only[pq]at h13
 subst h13
 obtain⟨E,e1,e2⟩:=a3Y (g:=efV) hr fun i hi=>b7z (hl i hi)
 rw[b9n]at hb
 refine⟨⟨z0,z1,z2,z3,z4,z5,z6,z7,z8,z9,z10,z11,z12,E⟩,a,cap,by rw[←e1];rfl,e2, ?_, ?_⟩
 ·show E.length≤maxLen
  omega
 ·show E.length*32≤_
  have:E.length*32≤cap*32:=Nat.mul_le_mul_right _ (by omega)
  have:reachBytes=140737488351232:=rfl
  omega
theorem b7M{X:List Value}(h:LeavesOK enc Try.prog w 0 (fun _=>true) true b8H X): ∃(x:Itm) (a:Option Addr) (c:Nat),X=a0f x (.slice a x.ts.length c)∧RowsI 0 w.heap.size w a 2 (x.ts.map fun y=>((fun p:Int×Int=>[Value.int .i64 p.1,.int .i64 p.2]) y).toArray)∧x.ts.length≤c:=by
 obtain⟨x0,x1,x2,x3,x4,x5,x6,rfl⟩:=b6j h.1
 obtain⟨z0,h0⟩:=a0K h (j:=0) rfl Try.underlying3
 simp only[List.getElem?_cons_zero,Option.some.injEq]at h0
 subst h0
 obtain⟨z1,h1⟩:=a0K h (j:=1) rfl Try.underlying3
 simp only[pq]at h1
 subst h1
 obtain⟨z2,h2⟩:=a0K h (j:=2) rfl Try.underlying3
 simp only[pq]at h2
 subst h2
 obtain⟨z3,h3⟩:=a0K h (j:=3) rfl Try.underlying3
 simp only[pq]at h3
 subst h3
 obtain⟨z4,h4⟩:=a0K h (j:=4) rfl Try.underlying3
 simp only[pq]at h4
 subst h4
 obtain⟨z5,h5⟩:=a0K h (j:=5) rfl Try.underlying3
 simp only[pq]at h5
 subst h5
 obtain⟨a,len,cap,Y,h6,⟨hc,hm,hb⟩,hl,hr⟩:=a1g h (j:=6) rfl Try.underlying27 b8P (by decide)
 simp only[pq]at h6
 subst h6
 obtain⟨E,e1,e2⟩:=a3Y (g:=fun p:Int×Int=>[Value.int .i64 p.1,.int .i64 p.2]) hr fun i hi=>b6e (hl i hi)
 refine⟨⟨z0,z1,z2,z3,z4,z5,E⟩,a,cap,by rw[←e1];rfl,e2, ?_⟩
 show E.length≤cap
 omega
theorem b4S{X:List Value}(h:LeavesOK enc Try.prog w 0 (fun _=>true) true b8K X): ∃(l:List Int) (a:Option Addr) (c:Nat),X= [.slice a l.length c]∧RowsI 0 w.heap.size w a 1 (l.map fun y=>((fun n:Int=>[Value.int .i64 n]) y).toArray)∧l.length≤c:=by
 obtain⟨x0,rfl⟩:=b4x h.1
 obtain⟨a,len,cap,Y,h0,⟨hc,hm,hb⟩,hl,hr⟩:=a1g h (j:=0) rfl Try.underlying25 fl3 (by decide)
 simp only[List.getElem?_cons_zero,Option.some.injEq]at h0
 subst h0
 obtain⟨E,e1,e2⟩:=a3Y (g:=fun n:Int=>[Value.int .i64 n]) hr fun i hi=>b7R (hl i hi)
 exact⟨E,a,cap,by rw[←e1],e2,by omega⟩
theorem a6Q{α β:Type}{k m len cap:Nat}{a:Option Addr}{f:α→Value→List Value}{inn:α→List β}{g:β→List Value}{Q:α→Nat→Prop}{X:Nat→List Value}(x0:α)(hr:Rows w a k ((List.range len).map fun i=>(X i).toArray))
  (h: ∀i,i<len→ ∃(x:α) (a:Option Addr) (c:Nat),X i=f x (.slice a (inn x).length c)∧RowsI 0 w.heap.size w a m ((inn x).map fun y=>(g y).toArray)∧Q x c):
  ∃(l:List α) (A:Loc),l.length=len∧A.a=a∧A.c=cap∧Nst 0 w.heap.size w A k m l f inn g∧ ∀i x,l[i]? =some x→Q x (A.cp i):=by
 have h': ∀i,∃q:α×Option Addr×Nat,i<len→X i=f q.1 (.slice q.2.1 (inn q.1).length q.2.2)∧RowsI 0 w.heap.size w q.2.1 m ((inn q.1).map fun y=>(g y).toArray)∧Q q.1 q.2.2:=fun i=>by
  by_cases hi:i<len
  ·obtain⟨x,a,c,h1,h2,h3⟩:=h i hi
   exact⟨(x,a,c),fun _=>⟨h1,h2,h3⟩⟩
  ·exact⟨(x0,none,0),fun h=>absurd h hi⟩
 obtain⟨q,hq⟩:=Classical.skolem.1 h'
 have hg: ∀i x,((List.range len).map fun i=>(q i).1)[i]? =some x→i<len∧x=(q i).1:=fun i x hx=>by
  rw[List.getElem?_map,Option.map_eq_some_iff]at hx
  obtain⟨j,hj,rfl⟩:=hx
  obtain⟨hj1,hj2⟩:=List.getElem?_eq_some_iff.1 hj
  rw[List.getElem_range]at hj2
  rw[List.length_range]at hj1
  exact⟨hj1,by rw[hj2]⟩
 refine⟨(List.range len).map fun i=>(q i).1,⟨a,cap,fun i=>(q i).2.1,fun i=>(q i).2.2⟩,by simp,rfl,rfl,⟨?_,fun i x hx=> ?_⟩,fun i x hx=> ?_⟩
 ·refine Eq.mp (congrArg (RowsI 0 w.heap.size w a k) ?_) (RowsI.of hr)
  rw[List.length_map,List.length_range]
  apply List.map_congr_left
  intro i hi
  have hi':=List.mem_range.1 hi
  rw[(hq i hi').1,List.getElem?_map,List.getElem?_eq_getElem (by simpa using hi')]
  simp
 ·obtain⟨hi,rfl⟩:=hg i x hx
  exact(hq i hi).2.1
 ·obtain⟨hi,rfl⟩:=hg i x hx
  exact(hq i hi).2.2
theorem st_of{X:List Value}(h:LeavesOK enc Try.prog w 0 (fun _=>true) true b8J X): ∃(A:Lcs) (S:Std),X=stV A S∧StI 0 w.heap.size w A S∧CapS A S∧ ∀x∈S.obs,x.effs.length≤maxLen∧x.effs.length*32≤140737488355328:=by
 obtain⟨x0,x1,x2,x3,x4,x5,x6,x7,x8,x9,x10,x11,x12,x13,x14,x15,x16,x17,x18,x19,x20,x21,x22,x23,x24,rfl⟩:=b5b h.1
 obtain⟨z9,h9⟩:=a0K h (j:=9) rfl Try.underlying3
 simp only[pq]at h9
 subst h9
 obtain⟨z10,h10⟩:=a0K h (j:=10) rfl Try.underlying3
 simp only[pq]at h10
 subst h10
 obtain⟨z11,h11⟩:=a0K h (j:=11) rfl Try.underlying3
 simp only[pq]at h11
 subst h11
 obtain⟨z12,h12⟩:=a0K h (j:=12) rfl Try.underlying3
 simp only[pq]at h12
 subst h12
 obtain⟨z13,h13⟩:=a0K h (j:=13) rfl Try.underlying3
 simp only[pq]at h13
 subst h13
 obtain⟨z14,h14⟩:=a0K h (j:=14) rfl Try.underlying3
 simp only[pq]at h14
 subst h14
 obtain⟨z15,h15⟩:=a0K h (j:=15) rfl Try.underlying3
 simp only[pq]at h15
 subst h15
 obtain⟨z16,h16⟩:=a0K h (j:=16) rfl Try.underlying3
 simp only[pq]at h16
 subst h16
 obtain⟨z17,h17⟩:=a0K h (j:=17) rfl Try.underlying3
 simp only[pq]at h17
 subst h17
 obtain⟨z18,h18⟩:=a0K h (j:=18) rfl Try.underlying3
 simp only[pq]at h18
 subst h18
 obtain⟨z19,h19⟩:=a0K h (j:=19) rfl Try.underlying3
 simp only[pq]at h19
 subst h19
 obtain⟨z20,h20⟩:=a0K h (j:=20) rfl Try.underlying3
 simp only[pq]at h20
 subst h20
 obtain⟨z22,h22⟩:=a1u h (j:=22) rfl Try.underlying4
 simp only[pq]at h22
 subst h22
 obtain⟨z23,h23⟩:=a0K h (j:=23) rfl Try.underlying3
 simp only[pq]at h23
 subst h23
 obtain⟨z24,h24⟩:=a0K h (j:=24) rfl Try.underlying3
 simp only[pq]at h24
 subst h24
 obtain⟨up,np,cp,Yp,h0,⟨hcp,hmp,hbp⟩,hlp,hrp⟩:=a1g h (j:=0) rfl Try.underlying22 b8t (by decide)
 simp only[List.getElem?_cons_zero,Option.some.injEq]at h0
 subst h0
 obtain⟨uo,no,co,Yo,h1,⟨hco,hmo,hbo⟩,hlo,hro⟩:=a1g h (j:=1) rfl Try.underlying23 b8u (by decide)
 simp only[pq]at h1
 subst h1
 obtain⟨ul,nl,cl,Yl,h2,⟨hcl,hml,hbl⟩,hll,hrl⟩:=a1g h (j:=2) rfl Try.underlying24 b7f (by decide)
 simp only[pq]at h2
 subst h2
 obtain⟨uh,nh,ch,Yh,h3,⟨hch,hmh,hbh⟩,hlh,hrh⟩:=a1g h (j:=3) rfl Try.underlying24 b7f (by decide)
 simp only[pq]at h3
 subst h3
 obtain⟨ug,ng,cg,Yg,h4,⟨hcg,hmg,hbg⟩,hlg,hrg⟩:=a1g h (j:=4) rfl Try.underlying24 b7f (by decide)
 simp only[pq]at h4
 subst h4
 obtain⟨ux,nx,cx,Yx,h5,⟨hcx,hmx,hbx⟩,hlx,hrx⟩:=a1g h (j:=5) rfl Try.underlying24 b7f (by decide)
 simp only[pq]at h5
 subst h5
 obtain⟨uf,nf,cf,Yf,h6,⟨hcf,hmf,hbf⟩,hlf,hrf⟩:=a1g h (j:=6) rfl Try.underlying25 fl3 (by decide)
 simp only[pq]at h6
 subst h6
 obtain⟨us,ns,cs,Ys,h7,⟨hcs,hms,hbs⟩,hls,hrs⟩:=a1g h (j:=7) rfl Try.underlying26 b8Q (by decide)
 simp only[pq]at h7
 subst h7
 obtain⟨uw,nw,cw,Yw,h8,⟨hcw,hmw,hbw⟩,hlw,hrw⟩:=a1g h (j:=8) rfl Try.underlying26 b8Q (by decide)
 simp only[pq]at h8
 subst h8
 obtain⟨ut,nt,ct,Yt,h21,⟨hct,hmt,hbt⟩,hlt,hrt⟩:=a1g h (j:=21) rfl Try.underlying27 b8P (by decide)
 simp only[pq]at h21
 subst h21
 obtain⟨pl,ep,rp⟩:=a3Y (g:=plV) hrp fun i hi=>b7q (hlp i hi)
 obtain⟨fd,ef,rf⟩:=a3Y (g:=fun n:Int=>[Value.int .i64 n]) hrf fun i hi=>b7R (hlf i hi)
 obtain⟨ts,et,rt⟩:=a3Y (g:=fun p:Int×Int=>[Value.int .i64 p.1,.int .i64 p.2]) hrt fun i hi=>b6e (hlt i hi)
 obtain⟨obs,Ao,eo,eo1,eo2,ro,qo⟩:=a6Q (cap:=co) (f:=obV) (inn:=Obd.effs) (g:=efV) (Q:=fun x _=>x.effs.length≤maxLen∧x.effs.length*32≤140737488355328) (m:=4) default hro fun i hi=>b7r (hlo i hi)
 obtain⟨libs,Al,el,el1,el2,rl,ql⟩:=a6Q (cap:=cl) (α:=List Int) (β:=Int) (f:=fun _ v=>[v]) (inn:=id) (g:=fun n=>[.int .i64 n]) (Q:=fun x c=>x.length≤c) (m:=1) [] hrl fun i hi=>b4S (hll i hi)
 obtain⟨hands,Ah,eh,eh1,eh2,rh,qh⟩:=a6Q (cap:=ch) (α:=List Int) (β:=Int) (f:=fun _ v=>[v]) (inn:=id) (g:=fun n=>[.int .i64 n]) (Q:=fun x c=>x.length≤c) (m:=1) [] hrh fun i hi=>b4S (hlh i hi)
 obtain⟨graves,Ag,eg,eg1,eg2,rg,qg⟩:=a6Q (cap:=cg) (α:=List Int) (β:=Int) (f:=fun _ v=>[v]) (inn:=id) (g:=fun n=>[.int .i64 n]) (Q:=fun x c=>x.length≤c) (m:=1) [] hrg fun i hi=>b4S (hlg i hi)
 obtain⟨exiles,Ax,ex,ex1,ex2,rx,qx⟩:=a6Q (cap:=cx) (α:=List Int) (β:=Int) (f:=fun _ v=>[v]) (inn:=id) (g:=fun n=>[.int .i64 n]) (Q:=fun x c=>x.length≤c) (m:=1) [] hrx fun i hi=>b4S (hlx i hi)
 obtain⟨stack,As,es,es1,es2,rs,qs⟩:=a6Q (cap:=cs) (f:=a0f) (inn:=Itm.ts) (g:=fun p:Int×Int=>[Value.int .i64 p.1,.int .i64 p.2]) (Q:=fun x c=>x.ts.length≤c) (m:=2) ⟨0,0,0,0,0,0,[]⟩ hrs fun i hi=>b7M (hls i hi)
 obtain⟨waits,Aw,ew,ew1,ew2,rw',qw⟩:=a6Q (cap:=cw) (f:=a0f) (inn:=Itm.ts) (g:=fun p:Int×Int=>[Value.int .i64 p.1,.int .i64 p.2]) (Q:=fun x c=>x.ts.length≤c) (m:=2) ⟨0,0,0,0,0,0,[]⟩ hrw fun i hi=>b7M (hlw i hi)
 refine⟨⟨⟨up,cp,fun _=>none,fun _=>0⟩,Ao,Al,Ah,Ag,Ax,⟨uf,cf,fun _=>none,fun _=>0⟩,As,Aw,⟨ut,ct,fun _=>none,fun _=>0⟩⟩,⟨pl,obs,libs,hands,graves,exiles,fd,stack,waits,z9,z10,z11,z12,z13,z14,z15,z16,z17,⟨z18,z19,z20,ts,z22⟩,z23,z24⟩, ?_, ?_, ?_, ?_⟩
 ·unfold stV
  simp only[ep,ef,et,eo,eo1,eo2,el,el1,el2,eh,eh1,eh2,eg,eg1,eg2,ex,ex1,ex2,es,es1,es2,ew,ew1,ew2]
 ·exact⟨rp,ro,rl,rh,rg,rx,rf,rs,rw',rt⟩
 ·refine⟨⟨?_, ?_⟩,⟨?_, ?_⟩,⟨?_, ?_⟩,⟨?_, ?_⟩,⟨?_,ql⟩,⟨?_,qh⟩,⟨?_,qg⟩,⟨?_,qx⟩,⟨?_,qs⟩,⟨?_,qw⟩⟩<;>(dsimp only;omega)
 ·intro x hx
  obtain⟨i,hi,rfl⟩:=List.getElem_of_mem hx
  exact qo i _ (List.getElem?_eq_getElem hi)
end
end
end Go.Proofs.Ytcblehiddfnafaa.canonSame.Lv
namespace Go.Proofs.Ytcblehiddfnafaa.canonSame
open Go.Shelf Go.RowKit Go.Lib Go.Sort
theorem a3P{ls:List (List Int)}: ∀l∈a0X ls,l.length≤30:=fun l hl=>by
 obtain⟨x,_,rfl⟩:=List.mem_map.1 hl
 rw[List.length_take]
 omega
theorem a5n(ls:List (List Int)):(a0X ls).length≤5:=by
 unfold a0X
 rw[List.length_map,List.length_take]
 omega
theorem a5o(xs:List Itm):(a2m xs).length≤12:=by
 unfold a2m
 rw[List.length_map,List.length_take]
 omega
theorem b3W{xs:List Itm}: ∀x∈a2m xs,x.ts.length≤4:=fun x hx=>by
 obtain⟨y,_,rfl⟩:=List.mem_map.1 hx
 show(y.ts.take 4).length≤4
 rw[List.length_take]
 omega
theorem b5Q(S:Std):Bo (a5m S):=by
 refine⟨?_, ?_,a3P,a3P,a3P,a3P, ?_,a5o _,a5o _⟩
 ·show(S.pl.take 5).length≤5
  rw[List.length_take];omega
 ·show(S.obs.take 30).length≤30
  rw[List.length_take];omega
 ·show(S.field.take 30).length≤30
  rw[List.length_take];omega
abbrev SmE(S:Std):Prop:= ∀x∈S.obs,x.effs.length≤maxLen∧x.effs.length*32≤140737488355328
theorem b5S{S:Std}(h:SmE S):Bd (a5m S):=by
 have a: ∀(n m k:Nat),n≤m→m≤900→n≤900:=fun n m k h1 h2=>by omega
 refine⟨?_, ?_,fun x hx=>h x (List.mem_of_mem_take hx),⟨Nat.le_trans (a5n _) (by decide),fun l hl=>Nat.le_trans (a3P l hl) (by decide)⟩,⟨Nat.le_trans (a5n _) (by decide),fun l hl=>Nat.le_trans (a3P l hl) (by decide)⟩,⟨Nat.le_trans (a5n _) (by decide),fun l hl=>Nat.le_trans (a3P l hl) (by decide)⟩,⟨Nat.le_trans (a5n _) (by decide),fun l hl=>Nat.le_trans (a3P l hl) (by decide)⟩, ?_,⟨Nat.le_trans (a5o _) (by decide),fun x hx=>Nat.le_trans (b3W x hx) (by decide)⟩,⟨Nat.le_trans (a5o _) (by decide),fun x hx=>Nat.le_trans (b3W x hx) (by decide)⟩, ?_⟩
 ·show(S.pl.take 5).length≤900
  rw[List.length_take];omega
 ·show(S.obs.take 30).length≤900
  rw[List.length_take];omega
 ·show(S.field.take 30).length≤900
  rw[List.length_take];omega
 ·show(S.cast.ts.take 4).length≤900
  rw[List.length_take];omega
theorem b4e{l:List Obd}{o x:Obd}(h:x∈a9J l o):x=o∨x∈l:=by
 unfold a9J at h
 rcases List.mem_append.1 h with h|h
 ·rcases List.mem_append.1 h with h|h
  ·exact .inr (List.mem_of_mem_take h)
  ·exact .inl (List.mem_singleton.1 h)
 ·exact .inr (List.mem_of_mem_drop h)
theorem a9I: ∀(m l:List Obd) {x:Obd},x∈m.foldl a9J l→x∈m∨x∈l
 | [],l,x,h=>.inr h
 |o::m,l,x,h=>by
  rcases a9I m _ h with h|h
  ·exact .inl (List.mem_cons_of_mem _ h)
  ·rcases b4e h with rfl|h
   ·exact .inl List.mem_cons_self
   ·exact .inr h
theorem b2j{nm:Int→Int}{l:List Obd}{Q:List Efd→Prop}(h: ∀x∈l,Q x.effs): ∀x∈a2S nm l,Q x.effs:=fun x hx=>by
 rcases a9I _ _ hx with hx|hx
 ·obtain⟨y,hy,rfl⟩:=List.mem_map.1 hx
  exact h y hy
 ·cases hx
theorem b5R{S:Std}(h:Bd S)(nm:Int→Int):Bd (a6t nm S):=by
 have il: ∀{ls:List (List Int)},(ls.length≤900∧ ∀l∈ls,l.length≤900)→(ls.map (·.map nm)).length≤900∧ ∀l∈ls.map (·.map nm),l.length≤900:=fun{ls} h=>by
  refine⟨by rw[List.length_map];exact h.1,fun l hl=> ?_⟩
  obtain⟨x,hx,rfl⟩:=List.mem_map.1 hl
  rw[List.length_map]
  exact h.2 x hx
 have ii: ∀{xs:List Itm},(xs.length≤900∧ ∀x∈xs,x.ts.length≤900)→(xs.map (nmI nm)).length≤900∧ ∀x∈xs.map (nmI nm),x.ts.length≤900:=fun{xs} h=>by
  refine⟨by rw[List.length_map];exact h.1,fun l hl=> ?_⟩
  obtain⟨x,hx,rfl⟩:=List.mem_map.1 hl
  show(x.ts.map _).length≤900
  rw[List.length_map]
  exact h.2 x hx
 refine⟨h.pl, ?_,b2j (Q:=fun e=>e.length≤maxLen∧e.length*32≤140737488355328) h.effs,il h.libs,il h.hands,il h.graves,il h.exiles, ?_,ii h.stack,ii h.waits, ?_⟩
 ·show(a2S nm S.obs).length≤900
  rw[a7r]
  exact h.obs
 ·show(S.field.map nm).length≤900
  rw[List.length_map]
  exact h.field
 ·show(S.cast.ts.map _).length≤900
  rw[List.length_map]
  exact h.ts
end Go.Proofs.Ytcblehiddfnafaa.canonSame
