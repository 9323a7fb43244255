/- Engine, part 6: functions as automata over blocks that are there: contracts that tell new memory, or change blocks. -/
import Derived.Test.YtmmmknhdigapkaaEv5
namespace Go.Ev
set_option linter.unusedVariables false
noncomputable section
open Go.RowKit
theorem HSim.move[Ext]{w0:World}{φ:Phi}{ρ':Rho}{N n:Nat}{m:TT Nat}{a₁ a':VT}{H₁:VH}{l':TT VO}{ps:Prs}{E':Env}{tmps:Array Value}{w:World}(k2:TR φ a₁ tmps)(k3:HSim w0 φ H₁ w)(hs:mvS N n m a₁ H₁.locs a' l'=some ps)(hb:E'.blk=H₁.base.blk)
  (ha:agree N φ.ρ ρ') (hc: ∀p∈ps,Car φ.ρ ρ' p) (hE: ∀ψ:Phi,ψ.ρ=ρ'→EnvOK E' ψ w0):TR (φ.mv m ρ') a' tmps∧HSim w0 (φ.mv m ρ') ⟨E',l',n⟩ w:=by
 unfold mvS at hs;split at hs
 ·rename_i s1 s2 s3 s4;split at hs
  ·rename_i l s5
   have hl: ∀{j o},l'.get j=some o→(j,o)∈TT.ents l' 1 0 []:=fun{j o} h=>by have:=TT.ents_mem (a:=1) (b:=0) (l:=[]) h;simpa only[Nat.one_mul,Nat.add_zero]using this
   have ht: ∀{t y},a'.get t=some y→(t,y)∈TT.ents a' 1 0 []:=fun{t y} h=>by have:=TT.ents_mem (a:=1) (b:=0) (l:=[]) h;simpa only[Nat.one_mul,Nat.add_zero]using this
   have cl: ∀p∈l,Car φ.ρ ρ' p:=fun p hp=>hc p (b5E hs p hp);refine⟨fun t=> ?_,⟨hE _ rfl,fun r b h=>k3.base r b (by rw[←hb];exact h),k3.old,fun i inf hi=> ?_,Nat.le_of_ble_eq_true s3,fun j o hj=> ?_,fun i j oi oj inf jnf hi hj h1 h2 h3=> ?_,fun j hj=> ?_,fun i inf hi=> ?_⟩⟩
   ·have kt:=k2 t;have:=TT.all2_get (p:=e1V) rfl s1 t;cases hy:a'.get t with
    |none=>
     have hx:a₁.get t=none:=by
      rw[hy]at this;cases hx:a₁.get t with
      |none=>rfl
      |some x=>rw[hx]at this;cases this
     unfold a1I at kt ⊢;rw[hx]at kt;rw[hy];exact b3y (by rfl) kt
    |some y=>
     have e:a1I a' t=y:=by unfold a1I;rw[hy]
     rw[e];exact c6Z ha s5 cl t y (ht hy) _ kt
   ·obtain⟨i',_,h2⟩:=Phi.mv_of hi;exact k3.own i' inf h2
   ·obtain⟨i,o1,g1,g2,g3⟩:=b2N ha hs hc j o (hl hj);obtain⟨inf,x,h1,h2,h3,h4⟩:=k3.live i o1 g2;exact⟨inf,x,by rw[Phi.mv_at g1];exact h1,h2,g3 inf x h3,by show E'.blk inf.blk=none;rw[hb];exact h4⟩
   ·obtain⟨i1,o1,g1,g2,_⟩:=b2N ha hs hc i oi (hl hi);obtain⟨j1,o2,g3,g4,_⟩:=b2N ha hs hc j oj (hl hj);rw[Phi.mv_at g1]at h1;rw[Phi.mv_at g3]at h2;have:=k3.inj i1 j1 o1 o2 inf jnf g2 g4 h1 h2 h3;subst this;exact b4g s4 (hl hi) (hl hj) g1 g3
   ·show(match m.get j with|some i=>φ i|none=>none)=none;cases hm:m.get j with
    |none=>rfl
    |some i=>have:j<n:=TT.klt_get s2 hm;have hj':n≤j:=hj;omega
   ·obtain⟨i',_,h2⟩:=Phi.mv_of hi;exact k3.bound i' inf h2
  ·cases hs
 ·cases hs
structure Frm where
 w:World
 f:Nat→Option Inf
def Frm.S(F:Frm)(k:Nat):Prop:= ∃i inf,F.f i=some inf∧inf.blk=k
structure FrOK(F:Frm)(φ:Phi)(w:World):Prop where
 wk:WK F.w w
 frame: ∀k,k<F.w.heap.size→ ¬F.S k→w.heap[k]? =F.w.heap[k]?
 own: ∀i inf,φ i=some inf→F.S inf.blk∨F.w.heap.size≤inf.blk
 pin: ∀i inf,F.f i=some inf→φ i=some inf
theorem FrOK.step{F:Frm}{φ φ':Phi}{w w':World}(k:FrOK F φ w)(h:St φ w φ' w'):FrOK F φ' w':=by
 refine⟨k.wk.trans h.wk,fun i hi hs=> ?_,fun i inf hi=> ?_,fun i inf hi=>h.le.1 i inf (k.pin i inf hi)⟩
 ·rw[h.frame i (Nat.lt_of_lt_of_le hi k.wk.size) fun j jnf hj e=> ?_,k.frame i hi hs];rcases k.own j jnf hj with g|g
  ·exact hs (e▸g)
  ·omega
 ·rcases h.own i inf hi with⟨j,jnf,h1,h2⟩|h1
  ·rcases k.own j jnf h1 with g|g
   ·exact .inl (h2▸g)
   ·exact .inr (by omega)
  ·exact .inr (Nat.le_trans k.wk.size h1)
theorem FrOK.start{F:Frm}{ρ:Rho}:FrOK F ⟨F.f,ρ⟩ F.w:=⟨.refl _,fun _ _ _=>rfl,fun i inf h=>.inl ⟨i,inf,h,rfl⟩,fun _ _ h=>h⟩
theorem FrOK.mv{F:Frm}{φ:Phi}{w:World}{m:TT Nat}{ρ':Rho}(k:FrOK F φ w)(hm: ∀i inf,F.f i=some inf→m.get i=some i):FrOK F (φ.mv m ρ') w:=
 ⟨k.wk,k.frame,fun i inf hi=>let ⟨j,_,h2⟩:=Phi.mv_of hi;k.own j inf h2,fun i inf hi=>by rw[Phi.mv_at (hm i inf hi)];exact k.pin i inf hi⟩
def RSF[Ext](F:Frm)(w0:World)(R:Rho→Prop)(sz:Nat)(a:VT)(H:VH)(act:Act)(w:World):Prop:=
 ∃φ:Phi,R φ.ρ∧TR φ a act.tmps∧HSim w0 φ H w∧FrOK F φ w∧act.tmps.size=sz∧MarksOK (fun r=>F.w.heap.size≤r) w0 φ H w act.defers
theorem RSF.cs[Ext]{P:Program}{F:Frm}{w0:World}{R:Rho→Prop}{sz nt:Nat}{c:Code}{a a₁:VT}{H H₁:VH}{x:VX}(h:CS P nt c a H x a₁ H₁)(hnt:nt≤top)(hsz:nt≤sz){act:Act}{w:World}(k:RSF F w0 R sz a H act w):
  c.wpIn (Fr none) 0 P (fun e act' w'=>e=x.real∧H₁.base=H.base∧RSF F w0 R sz a₁ H₁ act' w') act w:=by
 obtain⟨φ,k1,k2,k3,k4,k5,k6⟩:=k;refine wpIn_mono (h hnt w0 φ act w k2 k3 (by omega) (fun r=>F.w.heap.size≤r) (fun _ r hr=>Nat.le_trans k4.wk.size hr) k6) ?_;rintro e act' w' ⟨φ',h1,h2,h3,h4,h5,h6,h7⟩;exact⟨h1,h5,φ',by rw[h2.le.2];exact k1,h3,h4,k4.step h2,h6.trans k5,h7⟩
theorem RSF.move[Ext]{F:Frm}{w0:World}{ρ ρ':Rho}{sz N n:Nat}{m:TT Nat}{a₁ a':VT}{H₁:VH}{l':TT VO}{ps:Prs}{E':Env}{act:Act}{w:World}(k:RSF F w0 (· =ρ) sz a₁ H₁ act w)(hm: ∀i inf,F.f i=some inf→m.get i=some i)(hs:mvS N n m a₁ H₁.locs a' l'=some ps)(hb:E'.blk=H₁.base.blk)
  (ha:agree N ρ ρ') (hc: ∀p∈ps,Car ρ ρ' p) (hE: ∀φ:Phi,φ.ρ=ρ'→EnvOK E' φ w0):RSF F w0 (· =ρ') sz a' ⟨E',l',n⟩ act w:=by
 obtain⟨φ,k1,k2,k3,k4,k5,rs,m1,m2,m3⟩:=k;subst k1;obtain⟨g1,g2⟩:=HSim.move k2 k3 hs hb ha hc hE;refine⟨φ.mv m ρ',rfl,g1,g2,k4.mv hm,k5,rs,m1,m2,fun r hr=> ?_⟩;obtain⟨q1,q2,q3,q4,q5⟩:=m3 r hr;exact⟨q1,q2,fun i inf hi=>let ⟨i',_,h2⟩:=Phi.mv_of hi;q3 i' inf h2,q4,by show E'.blk r=none;rw[hb];exact q5⟩
section
variable{P:Program}{Q:Exit→Act→World→Prop}{HD:Nat→Act→World→Prop}
end
def e1j:VX→Bool
 |.exit _=>false|_=>true
inductive RunsH[Ext](C:List CutP)(w0:World)(q':Nat)(ρ':Rho):Nat→Nat→Rho→Prop where
 |exit {p:Nat} {ρ:Rho} {c d:CutP} {xs:List VV}:a0H C p=some c→c.OK w0 ρ→a2V c.tr ρ.int= .goto q' xs→a0H C q'=some d→d.lab=none→agree d.N ρ ρ'→carry ρ ρ' xs d.ys→d.OK w0 ρ'→RunsH C w0 q' ρ' 0 p ρ
 |step {k p q:Nat} {ρ ρ1:Rho} {c d:CutP} {xs:List VV}:a0H C p=some c→c.OK w0 ρ→a2V c.tr ρ.int= .goto q xs→a0H C q=some d→d.lab≠none→agree d.N ρ ρ1→carry ρ ρ1 xs d.ys→RunsH C w0 q' ρ' k q ρ1→RunsH C w0 q' ρ' (k+1) p ρ
theorem RunsH.ok[Ext]{C:List CutP}{w0:World}{q':Nat}{ρ':Rho}{k p:Nat}{ρ:Rho}(h:RunsH C w0 q' ρ' k p ρ): ∃c,a0H C p=some c∧c.OK w0 ρ:=by
 cases h with
 |exit h1 h2 _ _ _ _ _ _=>exact⟨_,h1,h2⟩
 |step h1 h2 _ _ _ _ _ _=>exact⟨_,h1,h2⟩
section
variable{P:Program}
def HeadF[Ext](C:List CutP)(F:Frm)(w0:World)(q':Nat)(ρ':Rho)(nt:Nat)(k:Nat)(t:Nat)(act:Act)(w:World):Prop:=
 ∃j p c ρ,j≤k∧a0H C p=some c∧c.lab=some t∧RunsH C w0 q' ρ' j p ρ∧RSF F w0 (· =ρ) nt c.a0 ⟨c.env ρ,c.l,c.nH⟩ act w
theorem HeadF.mono[Ext]{C:List CutP}{F:Frm}{w0:World}{q':Nat}{ρ':Rho}{nt k k' t:Nat}(hk:k≤k'){act:Act}{w:World}(h:HeadF C F w0 q' ρ' nt k t act w):HeadF C F w0 q' ρ' nt k' t act w:=by obtain⟨j,p,c,ρ,h1,h2⟩:=h;exact⟨j,p,c,ρ,by omega,h2⟩
theorem FrOK.upd{F:Frm}{φ:Phi}{w w':World}{r:Nat}(k:FrOK F φ w)(g:WK w w')(hr:F.w.heap.size≤r)(h: ∀x,x≠r→w'.heap[x]? =w.heap[x]?):FrOK F φ w':=
 ⟨k.wk.trans g,fun i hi hs=>by rw[h i (by omega)];exact k.frame i hi hs,k.own,k.pin⟩
end
end
end Go.Ev
