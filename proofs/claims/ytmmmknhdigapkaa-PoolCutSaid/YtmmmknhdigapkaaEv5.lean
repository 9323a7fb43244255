/- Engine, part 5: what an argument holds: structs and arrays, leaf by leaf. -/
import Derived.Test.YtmmmknhdigapkaaEv4
import Derived.OpenShut
import Derived.Deep.Slices
namespace Go.Ev
set_option linter.unusedVariables false
noncomputable section
open Go.RowKit
def c8X(l:List TypeId):Nat→List TypeId
 |0=>[]|n+1=>l++c8X l n
def c7P(f:TypeId→Option (List TypeId)):Nat→List Field→Option (List TypeId)
 |_,[]=>some []
 |o,fd::fs=>match Nat.beq fd.offset o,f fd.type with
  |true,some l=>match c7P f (o+l.length) fs with
   |some r=>some (l++r)|none=>none
  |_,_=>none
def c0g:TypeDesc→Bool
 |.int _|.bool|.string|.slice _=>true|_=>false
def b2d(P:Program):Nat→TypeId→Option (List TypeId)
 |0,_=>none
 |d+1,t=>match P.underlying t with
  |some (.struct fs)=>match c7P (b2d P d) 0 fs.toList with
   |some l=>match Nat.beq (P.cellsOf t) l.length with
    |true=>some l|false=>none
   |none=>none
  |some (.array n e)=>match b2d P d e with
   |some l=>match Nat.beq (P.cellsOf t) (c8X l n).length with
    |true=>some (c8X l n)|false=>none
   |none=>none
  |some d=>match c0g d,Nat.beq (P.cellsOf t) 1 with
   |true,true=>some [t]|_,_=>none
  |none=>none
theorem b1v(l:List TypeId): ∀n,(c8X l n).length=n*l.length
 |0=>by simp[c8X]
 |n+1=>by simp[c8X,b1v l n,Nat.succ_mul,Nat.add_comm]
theorem a4g{P:Program}: ∀{d:Nat} {t:TypeId} {l:List TypeId},b2d P d t=some l→P.cellsOf t=l.length
 |0,t,l,h=>by simp[b2d]at h
 |d+1,t,l,h=>by
  simp only[b2d]at h;split at h
  ·split at h
   ·split at h
    ·rename_i hb;simp only[Option.some.injEq]at h;subst h;exact Nat.eq_of_beq_eq_true hb
    ·cases h
   ·cases h
  ·split at h
   ·split at h
    ·rename_i hb;simp only[Option.some.injEq]at h;subst h;exact Nat.eq_of_beq_eq_true hb
    ·cases h
   ·cases h
  ·split at h
   ·rename_i hb;simp only[Option.some.injEq]at h;subst h;exact Nat.eq_of_beq_eq_true hb
   ·cases h
  ·cases h
theorem c8s{H:Type}{enc:TypeId×Value→H}{P:Program}{w:World}{base:Nat}{sp:Nat→Bool}{held:Bool}{n:Nat}{t:TypeId}{d:TypeDesc}(hu:P.underlying t=some d)(hd:c0g d=true){cs:List Value}{y:DataW H×List MemPlace}(hy:DataW.trod enc P w base sp held n t cs=some y):cs.length=1:=by
 cases d<;>simp[c0g]at hd
 ·obtain⟨b,rfl,_⟩:=DataW.trod_bool hu hy;rfl
 ·obtain⟨b,rfl,_⟩:=DataW.trod_int hu hy;rfl
 ·obtain⟨b,rfl,_⟩:=DataW.trod_string hu hy;rfl
 ·rcases DataW.trod_slice hu hy with⟨rfl,_⟩|⟨_,_,_,_,_,_,_,rfl,_⟩<;>rfl
section
variable{H:Type}{enc:TypeId×Value→H}{P:Program}{w:World}{base:Nat}{sp:Nat→Bool}{held:Bool}
def LeavesOK(enc:TypeId×Value→H)(P:Program)(w:World)(base:Nat)(sp:Nat→Bool)(held:Bool)(ts:List TypeId)(cs:List Value):Prop:=
 cs.length=ts.length∧ ∀(j:Nat) (u:TypeId),ts[j]? =some u→ ∃(v:Value) (n:Nat) (y:DataW H×List MemPlace),cs[j]? =some v∧DataW.trod enc P w base sp held n u [v]=some y
theorem LeavesOK.append{ts us:List TypeId}{cs:List Value}(h1:LeavesOK enc P w base sp held ts (cs.take ts.length))(h2:LeavesOK enc P w base sp held us (cs.drop ts.length))(hl:ts.length≤cs.length):LeavesOK enc P w base sp held (ts++us) cs:=by
 refine⟨?_,fun j u hj=> ?_⟩
 ·have:=h2.1;simp at this ⊢;omega
 ·rw[List.getElem?_append]at hj;split at hj
  ·rename_i hlt;obtain⟨v,n,y,g1,g2⟩:=h1.2 j u hj;rw[List.getElem?_take,if_pos hlt]at g1;exact⟨v,n,y,g1,g2⟩
  ·rename_i hlt;obtain⟨v,n,y,g1,g2⟩:=h2.2 _ u hj;rw[List.getElem?_drop,show ts.length+(j-ts.length)=j by omega]at g1;exact⟨v,n,y,g1,g2⟩
theorem c2c{d:Nat}(ih: ∀{t l n} {cs:List Value} {y:DataW H×List MemPlace},b2d P d t=some l→DataW.trod enc P w base sp held n t cs=some y→LeavesOK enc P w base sp held l cs){n:Nat}{cs:List Value}:
  ∀(fs:List Field) (o:Nat) (l:List TypeId),c7P (b2d P d) o fs=some l→o+l.length=cs.length→(∀(i:Nat) (f:Field),fs[i]? =some f→ ∃y,DataW.trod enc P w base sp held n f.type ((cs.drop f.offset).take (P.cellsOf f.type))=some y)→LeavesOK enc P w base sp held l (cs.drop o)
 | [],o,l,h,hl,_=>by simp only[c7P,Option.some.injEq]at h;subst h;refine⟨by simp at hl ⊢;omega,fun j u hj=>by simp at hj⟩
 |fd::fs,o,l,h,hl,hx=>by
  simp only[c7P]at h;split at h
  ·rename_i l0 hb h0;split at h
   ·rename_i r hr;simp only[Option.some.injEq]at h;subst h;have ho:=Nat.eq_of_beq_eq_true hb;have hc:=a4g h0;simp only[List.length_append]at hl;obtain⟨y,hy⟩:=hx 0 fd rfl;rw[ho,hc]at hy;have h1:=ih h0 hy;have h2:=c2c ih fs (o+l0.length) r hr (by omega) (fun i f hf=>hx (i+1) f hf);refine LeavesOK.append h1 ?_ (by simp;omega);rw[List.drop_drop];exact h2
   ·cases h
  ·cases h
theorem c5k{l:List TypeId}: ∀{n:Nat} {cs:List Value},cs.length=n*l.length→(∀i,i<n→LeavesOK enc P w base sp held l ((cs.drop (i*l.length)).take l.length))→LeavesOK enc P w base sp held (c8X l n) cs
 |0,cs,hl,_=>by refine⟨by simpa[c8X]using hl,fun j u hj=>by simp[c8X]at hj⟩
 |n+1,cs,hl,h=>by
  have hl':cs.length=n*l.length+l.length:=by rw[hl,Nat.succ_mul]
  simp only[c8X];refine LeavesOK.append ?_ ?_ (by omega)
  ·have:=h 0 (by omega);simpa using this
  ·refine c5k (by simp;omega) fun i hi=> ?_;have:=h (i+1) (by omega);rw[List.drop_drop];rw[show l.length+i*l.length=(i+1)*l.length by rw[Nat.succ_mul];omega];exact this
theorem b2S: ∀{d:Nat} {t:TypeId} {l:List TypeId} {n:Nat} {cs:List Value} {y:DataW H×List MemPlace},b2d P d t=some l→DataW.trod enc P w base sp held n t cs=some y→LeavesOK enc P w base sp held l cs
 |0,t,l,n,cs,y,h,_=>by simp[b2d]at h
 |d+1,t,l,n,cs,y,h,hy=>by
  have hcl:=a4g h;simp only[b2d]at h;split at h
  ·rename_i fs hu;split at h
   ·rename_i l' hl';split at h
    ·simp only[Option.some.injEq]at h;subst h;obtain⟨xs,m,_,_,hlen,hxs,hall⟩:=DataW.trod_struct hu hy
     have:=c2c (H:=H) (enc:=enc) (P:=P) (w:=w) (base:=base) (sp:=sp) (held:=held) (d:=d) (fun h1 h2=>b2S h1 h2) (n:=m) (cs:=cs) fs.toList 0 l' hl' (by rw[Nat.zero_add,hlen,hcl]) (fun i f hf=>by
      have hi:i<xs.length:=by rw[hxs];simpa using(List.getElem?_eq_some_iff.1 hf).1
      have:=hall i f (by simpa using hf);rw[List.getElem?_eq_getElem hi]at this
      exact⟨_,this⟩)
     simpa using this
    ·cases h
   ·cases h
  ·rename_i k e hu;split at h
   ·rename_i l' hl';split at h
    ·simp only[Option.some.injEq]at h;subst h;obtain⟨xs,m,_,_,hlen,hxs,hall⟩:=DataW.trod_array hu hy;have hce:=a4g hl';refine c5k (by rw[hlen,hcl,b1v]) fun i hi=> ?_;have:=hall i hi;rw[List.getElem?_eq_getElem (by omega),hce]at this;exact b2S hl' this
    ·cases h
   ·cases h
  ·rename_i dd hns hna hu;split at h
   ·rename_i hb _;simp only[Option.some.injEq]at h;subst h;have hlen:cs.length=1:=c8s hu hb hy
    match cs,hlen with
    | [v],_=>exact⟨rfl,fun j u hj=>by
      match j with
      |0=>cases hj;exact⟨v,_,_,rfl,hy⟩
      |j+1=>simp at hj⟩
   ·cases h
  ·cases h
end
end
end Go.Ev
