/- Engine, part Ta: data in memory, typed: trees of values. -/
import Derived.Test.YtmmmknhdigapkaaEvQe
namespace Go.Ev
set_option linter.unusedVariables false
noncomputable section
open Go.RowKit
inductive G where
 |i (k:IntKind) (n:Int)
 |b (x:Bool)
 |s (x:ByteArray)
 |l (v:Value) (es:List (List G))
 |o (v:Value)
 |w (es:List (List G))
def G.val:G→Value
 |.i k n=>.int k n|.b x=>.bool x|.s x=>.string x|.l v _=>v|.o v=>v|.w _=>.bool false
def G.int:G→Int
 |.i _ n=>n|.w es=>es.length|_=>0
def G.bool:G→Bool
 |.b x=>x|_=>false
def G.str:G→ByteArray
 |.s x=>x|_=>.empty
def G.es:G→List (List G)
 |.l _ es=>es|.w es=>es|_=>[]
def G.len(g:G):Int:=g.es.length
def G.d:G:=.i .i64 0
instance:Inhabited G:=⟨.d⟩
inductive Ty where
 |i (k:IntKind)
 |b
 |s
 |l (ts:List Ty)
 |o
 |w (ts:List Ty)
def e1v:Ty→Bool
 |.o=>false|.w _=>false|_=>true
def b5r:List Ty→Bool
 | []=>true
 |t::l=>match e1v t with
  |true=>b5r l|false=>false
mutual
def TyOK:Ty→G→Prop
 |.i k,.i k' n=>k'=k∧k.min≤n∧n≤k.max|.b,.b _=>True|.s,.s x=>(x.size:Int)≤9223372036854775807|.l ts,.l v es=>TyLL ts es∧(es.length:Int)≤9223372036854775807∧ ∃a c,v= .slice a es.length c∧es.length≤c|.o,.o v=>v.oneCell'=true|.w ts,.w es=>TyLL ts es∧(es.length:Int)≤9223372036854775807∧b5r ts=true|_,_=>False
def TyLL(ts:List Ty):List (List G)→Prop
 | []=>True|x::es=>TyL ts x∧TyLL ts es
def TyL:List Ty→List G→Prop
 | [],[]=>True|t::ts,g::x=>TyOK t g∧TyL ts x|_,_=>False
end
mutual
def GM(w:World):G→Prop
 |.l v es=> ∃a c,v= .slice a es.length c∧((es= []∧(a=none∨c=0))∨ ∃B O,a=some ⟨B,O,none⟩∧(es= []∨(B<w.heap.size∧GME w B O es)))|.w es=>GMR w es|_=>True
def GMR(w:World):List (List G)→Prop
 | []=>True|x::es=>GMX w x∧GMR w es
def GMX(w:World):List G→Prop
 | []=>True|g::x=>GM w g∧GMX w x
def GME(w:World)(B O:Nat):List (List G)→Prop
 | []=>True|x::es=>GMC w B O x∧GME w B (O+x.length) es
def GMC(w:World)(B O:Nat):List G→Prop
 | []=>True|g::x=>w.cell? ⟨B,O,none⟩=some g.val∧GM w g∧GMC w B (O+1) x
end
def GML(w:World):List G→Prop
 | []=>True|g::x=>GM w g∧GML w x
def Sub(w w':World):Prop:=w.heap.size≤w'.heap.size∧ ∀a v,w.cell? a=some v→w'.cell? a=some v
theorem Sub.refl(w:World):Sub w w:=⟨Nat.le_refl _,fun _ _ h=>h⟩
theorem Sub.trans{a b c:World}(h:Sub a b)(k:Sub b c):Sub a c:=⟨Nat.le_trans h.1 k.1,fun x v hx=>k.2 x v (h.2 x v hx)⟩
mutual
theorem GM.sub{w w':World}(h:Sub w w'): ∀(g:G),GM w g→GM w' g
 |.l v es,k=>by
  simp only[GM]at k ⊢;obtain⟨a,c,rfl,k⟩:=k;refine⟨a,c,rfl, ?_⟩;rcases k with k|⟨B,O,k1,k2⟩
  ·exact .inl k
  ·refine .inr ⟨B,O,k1, ?_⟩;rcases k2 with k2|⟨k2,k3⟩
   ·exact .inl k2
   ·exact .inr ⟨Nat.lt_of_lt_of_le k2 h.1,GME.sub h es B O k3⟩
 |.w es,k=>by simp only[GM]at k ⊢;exact GMR.sub h es k
 |.i _ _,_=>by simp only[GM]
 |.b _,_=>by simp only[GM]
 |.s _,_=>by simp only[GM]
 |.o _,_=>by simp only[GM]
theorem GMR.sub{w w':World}(h:Sub w w'): ∀(es:List (List G)),GMR w es→GMR w' es
 | [],_=>by simp only[GMR]
 |x::es,k=>by simp only[GMR]at k ⊢;exact⟨GMX.sub h x k.1,GMR.sub h es k.2⟩
theorem GMX.sub{w w':World}(h:Sub w w'): ∀(x:List G),GMX w x→GMX w' x
 | [],_=>by simp only[GMX]
 |g::x,k=>by simp only[GMX]at k ⊢;exact⟨GM.sub h g k.1,GMX.sub h x k.2⟩
theorem GME.sub{w w':World}(h:Sub w w'): ∀(es:List (List G)) (B O:Nat),GME w B O es→GME w' B O es
 | [],_,_,_=>by simp only[GME]
 |x::es,B,O,k=>by simp only[GME]at k ⊢;exact⟨GMC.sub h x B O k.1,GME.sub h es B _ k.2⟩
theorem GMC.sub{w w':World}(h:Sub w w'): ∀(x:List G) (B O:Nat),GMC w B O x→GMC w' B O x
 | [],_,_,_=>by simp only[GMC]
 |g::x,B,O,k=>by simp only[GMC]at k ⊢;exact⟨h.2 _ _ k.1,GM.sub h g k.2.1,GMC.sub h x B _ k.2.2⟩
end
theorem GML.sub{w w':World}(h:Sub w w'): ∀{x:List G},GML w x→GML w' x
 | [],_=>trivial
 |g::x,k=>⟨k.1.sub h,GML.sub h k.2⟩
theorem GML.at{w:World}: ∀{x:List G} {j:Nat} {g:G},GML w x→x[j]? =some g→GM w g
 | [],j,g,_,h=>by simp at h
 |y::x,0,g,k,h=>by simp only[List.getElem?_cons_zero,Option.some.injEq]at h;rw[←h];exact k.1
 |y::x,j+1,g,k,h=>GML.at k.2 (by simpa using h)
theorem GML.app{w:World}: ∀{x y:List G},GML w x→GML w y→GML w (x++y)
 | [],_,_,k=>k|_::_,_,h,k=>⟨h.1,GML.app h.2 k⟩
theorem TyL.at: ∀{ts:List Ty} {x:List G} {j:Nat} {t:Ty},TyL ts x→ts[j]? =some t→ ∃g,x[j]? =some g∧TyOK t g
 | [],x,j,t,_,h=>by simp at h
 |u::ts,[],j,t,k,_=>by simp only[TyL]at k
 |u::ts,y::x,0,t,k,h=>by simp only[TyL]at k;simp only[List.getElem?_cons_zero,Option.some.injEq]at h;subst h;exact⟨y,rfl,k.1⟩
 |u::ts,y::x,j+1,t,k,h=>by simp only[TyL]at k;obtain⟨g,h1,h2⟩:=TyL.at k.2 (by simpa using h);exact⟨g,by simpa using h1,h2⟩
theorem TyL.len: ∀{ts:List Ty} {x:List G},TyL ts x→x.length=ts.length
 | [],[],_=>rfl
 | [],_::_,k=>by simp only[TyL]at k
 |_::_,[],k=>by simp only[TyL]at k
 |u::ts,y::x,k=>by simp only[TyL]at k;simp[TyL.len k.2]
theorem TyL.app: ∀{ts us:List Ty} {x y:List G},TyL ts x→TyL us y→TyL (ts++us) (x++y)
 | [],us,[],y,_,k=>k
 | [],_,_::_,_,k,_=>by simp only[TyL]at k
 |_::_,_,[],_,k,_=>by simp only[TyL]at k
 |t::ts,us,g::x,y,h,k=>by simp only[TyL]at h;show TyL (t::(ts++us)) (g::(x++y));simp only[TyL];exact⟨h.1,TyL.app h.2 k⟩
theorem TyLL.at{ts:List Ty}: ∀{es:List (List G)} {i:Nat} {x:List G},TyLL ts es→es[i]? =some x→TyL ts x
 | [],i,x,_,h=>by simp at h
 |y::es,0,x,k,h=>by simp only[TyLL]at k;simp only[List.getElem?_cons_zero,Option.some.injEq]at h;subst h;exact k.1
 |y::es,i+1,x,k,h=>by simp only[TyLL]at k;exact TyLL.at k.2 (by simpa using h)
theorem GME.at{w:World}{B:Nat}{ts:List Ty}: ∀{es:List (List G)} {O i:Nat} {x:List G},GME w B O es→TyLL ts es→es[i]? =some x→GMC w B (O+i*ts.length) x
 | [],O,i,x,_,_,h=>by simp at h
 |y::es,O,0,x,k,_,h=>by simp only[GME]at k;simp only[List.getElem?_cons_zero,Option.some.injEq]at h;subst h;simpa using k.1
 |y::es,O,i+1,x,k,t,h=>by simp only[GME]at k;simp only[TyLL]at t;have:=GME.at k.2 t.2 (i:=i) (by simpa using h);rw[TyL.len t.1]at this;rw[show O+(i+1)*ts.length=O+ts.length+i*ts.length by rw[Nat.add_mul,Nat.one_mul];omega];exact this
theorem GMC.cell{w:World}{B:Nat}: ∀{x:List G} {O j:Nat} {g:G},GMC w B O x→x[j]? =some g→w.cell? ⟨B,O+j,none⟩=some g.val∧GM w g
 | [],O,j,g,_,h=>by simp at h
 |y::x,O,0,g,k,h=>by simp only[GMC]at k;simp only[List.getElem?_cons_zero,Option.some.injEq]at h;subst h;exact⟨k.1,k.2.1⟩
 |y::x,O,j+1,g,k,h=>by simp only[GMC]at k;have:=GMC.cell k.2.2 (j:=j) (by simpa using h);rw[show O+(j+1)=O+1+j by omega];exact this
theorem GMC.all{w:World}{B:Nat}: ∀{x:List G} {O:Nat},(∀j g,x[j]? =some g→w.cell? ⟨B,O+j,none⟩=some g.val∧GM w g)→GMC w B O x
 | [],O,_=>by simp only[GMC]
 |y::x,O,h=>by simp only[GMC];have h0:=h 0 y rfl;refine⟨by simpa using h0.1,h0.2,GMC.all fun j g hj=> ?_⟩;have:=h (j+1) g (by simpa using hj);rw[show O+(j+1)=O+1+j by omega]at this;exact this
theorem GMC.gml{w:World}{B:Nat}: ∀{x:List G} {O:Nat},GMC w B O x→GML w x
 | [],_,_=>trivial
 |y::x,O,h=>by simp only[GMC]at h;exact⟨h.2.1,GMC.gml h.2.2⟩
theorem GME.all{w:World}{B n:Nat}: ∀{es:List (List G)} {O:Nat},(∀x∈es,x.length=n)→(∀i x,es[i]? =some x→GMC w B (O+i*n) x)→GME w B O es
 | [],O,_,_=>by simp only[GME]
 |y::es,O,hl,h=>by simp only[GME];have h0:=h 0 y rfl;refine⟨by simpa using h0, ?_⟩;rw[hl y List.mem_cons_self];refine GME.all (n:=n) (fun x hx=>hl x (List.mem_cons_of_mem _ hx)) fun i x hx=> ?_;have:=h (i+1) x (by simpa using hx);rw[show O+(i+1)*n=O+n+i*n by rw[Nat.add_mul,Nat.one_mul];omega]at this;exact this
theorem TyLL.drop{ts:List Ty}: ∀{m:Nat} {es:List (List G)},TyLL ts es→TyLL ts (es.drop m)
 |0,es,h=>by simpa using h
 |m+1,[],h=>by simpa using h
 |m+1,x::es,h=>by simp only[TyLL]at h;simpa using TyLL.drop (m:=m) h.2
theorem TyLL.take{ts:List Ty}: ∀{m:Nat} {es:List (List G)},TyLL ts es→TyLL ts (es.take m)
 |0,es,h=>by simp[TyLL]
 |m+1,[],h=>by simpa using h
 |m+1,x::es,h=>by simp only[TyLL]at h;rw[List.take_succ_cons];simp only[TyLL];exact⟨h.1,TyLL.take h.2⟩
theorem GME.drop{w:World}{B:Nat}{ts:List Ty}: ∀{m:Nat} {es:List (List G)} {O:Nat},GME w B O es→TyLL ts es→GME w B (O+m*ts.length) (es.drop m)
 |0,es,O,h,_=>by simpa using h
 |m+1,[],O,h,_=>by simp[GME]
 |m+1,x::es,O,h,t=>by simp only[GME]at h;simp only[TyLL]at t;rw[List.drop_succ_cons];have:=GME.drop (m:=m) h.2 t.2;rw[TyL.len t.1]at this;rw[show O+(m+1)*ts.length=O+ts.length+m*ts.length by rw[Nat.add_mul,Nat.one_mul];omega];exact this
theorem GME.take{w:World}{B:Nat}: ∀{m:Nat} {es:List (List G)} {O:Nat},GME w B O es→GME w B O (es.take m)
 |0,es,O,_=>by simp[GME]
 |m+1,[],O,h=>by simpa using h
 |m+1,x::es,O,h=>by simp only[GME]at h;rw[List.take_succ_cons];simp only[GME];exact⟨h.1,GME.take h.2⟩
theorem TyOK.one{t:Ty}{g:G}(h:TyOK t g):g.val.oneCell'=true:=by
 cases t<;>cases g<;>simp only[TyOK]at h<;>first|rfl|exact h.elim|skip
 ·obtain⟨_,_,a,c,rfl,_⟩:=h;rfl
 ·exact h
theorem GMX.gml{w:World}: ∀{x:List G},GMX w x→GML w x
 | [],_=>trivial
 |g::x,h=>by simp only[GMX]at h;exact⟨h.1,GMX.gml h.2⟩
theorem GMX.of{w:World}: ∀{x:List G},GML w x→GMX w x
 | [],_=>by simp only[GMX]
 |g::x,h=>by simp only[GMX];exact⟨h.1,GMX.of h.2⟩
theorem GMR.app{w:World}: ∀{a b:List (List G)},GMR w a→GMR w b→GMR w (a++b)
 | [],_,_,k=>k
 |x::a,b,h,k=>by simp only[GMR]at h;show GMR w (x::(a++b));simp only[GMR];exact⟨h.1,GMR.app h.2 k⟩
theorem TyLL.app{ts:List Ty}: ∀{a b:List (List G)},TyLL ts a→TyLL ts b→TyLL ts (a++b)
 | [],_,_,k=>k
 |x::a,b,h,k=>by simp only[TyLL]at h;show TyLL ts (x::(a++b));simp only[TyLL];exact⟨h.1,TyLL.app h.2 k⟩
def clV:G→Option VV
 |.i k n=>some (.int k n)|.b x=>some (.bool x)|.s x=>some (.string x)
 |.l v _=>match v with
  |.slice none n c=>some (.slice none n c)|.slice (some ⟨B,O,none⟩) n c=>some (.slice (some ⟨.base B,O⟩) n c)|.slice (some a) 0 0=>some (.odd a)|_=>none
 |_=>none
def clL:List G→Option (List VV)
 | []=>some []
 |g::x=>match clV g,clL x with
  |some y,some l=>some (y::l)|_,_=>none
def c4V:List (List G)→Option (List VV)
 | []=>some []
 |x::es=>match clL x,c4V es with
  |some a,some b=>some (a++b)|_,_=>none
theorem c2p{g:G}{y:VV}(h:clV g=some y):a9Z y=true∧(∀φ,VR φ y g.val)∧ ∀φ v,VR φ y v→v=g.val:=by
 unfold clV at h;split at h
 ·cases h;exact⟨rfl,fun φ=>by simp only[VR,G.val],fun φ v hv=>by simpa only[VR,G.val]using hv⟩
 ·cases h;exact⟨rfl,fun φ=>by simp only[VR,G.val],fun φ v hv=>by simpa only[VR,G.val]using hv⟩
 ·cases h;exact⟨rfl,fun φ=>by simp only[VR,G.val],fun φ v hv=>by simpa only[VR,G.val]using hv⟩
 ·split at h
  ·cases h;exact⟨rfl,fun φ=>by simp only[VR,G.val],fun φ v hv=>by simpa only[VR,G.val]using hv⟩
  ·cases h;refine⟨rfl,fun φ=> ?_,fun φ v hv=> ?_⟩
   ·simp only[VR,AR,G.val];exact⟨_,0,⟨rfl,rfl⟩,rfl⟩
   ·simp only[VR,AR]at hv;obtain⟨a',s,⟨rfl,rfl⟩,rfl⟩:=hv;rfl
  ·cases h;exact⟨rfl,fun φ=>by simp only[VR,G.val],fun φ v hv=>by simpa only[VR,G.val]using hv⟩
  ·cases h
 ·cases h
theorem d0N{w:World}{t:Ty}{g:G}(hc:e1v t=true)(ht:TyOK t g)(hm:GM w g): ∃y,clV g=some y:=by cases t<;>cases g<;>simp only[TyOK]at ht<;>first|exact ht.elim|(simp[e1v]at hc;done)|(simp only[GM]at hm;obtain⟨a,c,rfl,hm⟩:=hm;rcases hm with⟨he,h0⟩|⟨B,O,rfl,_⟩;(subst he;rcases h0 with rfl|rfl;exact⟨_,rfl⟩;rcases a with _|⟨B,O,_|s⟩<;>exact⟨_,rfl⟩);exact⟨_,rfl⟩)|exact⟨_,rfl⟩
theorem c2q{w:World}: ∀{ts:List Ty} {x:List G},b5r ts=true→TyL ts x→GMX w x→ ∃l,clL x=some l∧l.length=ts.length
 | [],[],_,_,_=>⟨[],rfl,rfl⟩
 | [],_::_,_,h,_=>by simp only[TyL]at h
 |_::_,[],_,h,_=>by simp only[TyL]at h
 |t::ts,g::x,hc,ht,hm=>by
  simp only[b5r]at hc;simp only[TyL]at ht;simp only[GMX]at hm;split at hc
  ·rename_i h1;obtain⟨y,y1⟩:=d0N h1 ht.1 hm.1;obtain⟨l,l1,l2⟩:=c2q hc ht.2 hm.2;exact⟨y::l,by simp only[clL,y1,l1],by simp[l2]⟩
  ·cases hc
theorem a8i{w:World}{ts:List Ty}(hc:b5r ts=true): ∀{es:List (List G)},TyLL ts es→GMR w es→ ∃l,c4V es=some l∧l.length=es.length*ts.length
 | [],_,_=>⟨[],rfl,by simp⟩
 |x::es,ht,hm=>by simp only[TyLL]at ht;simp only[GMR]at hm;obtain⟨a,a1,a2⟩:=c2q hc ht.1 hm.1;obtain⟨b,b1,b2⟩:=a8i hc ht.2 hm.2;exact⟨a++b,by simp only[c4V,a1,b1],by rw[List.length_append,a2,b2,List.length_cons,Nat.add_mul];omega⟩
theorem b4R: ∀{x:List G} {l:List VV},clL x=some l→ ∀y∈l,a9Z y=true
 | [],l,h,y,hy=>by simp only[clL,Option.some.injEq]at h;subst h;cases hy
 |g::x,l,h,y,hy=>by
  simp only[clL]at h;split at h
  ·rename_i a b h1 h2;cases h;rcases List.mem_cons.1 hy with rfl|hy
   ·exact(c2p h1).1
   ·exact b4R h2 y hy
  ·cases h
theorem b2v: ∀{es:List (List G)} {l:List VV},c4V es=some l→ ∀y∈l,a9Z y=true
 | [],l,h,y,hy=>by simp only[c4V,Option.some.injEq]at h;subst h;cases hy
 |x::es,l,h,y,hy=>by
  simp only[c4V]at h;split at h
  ·rename_i a b h1 h2;cases h;rcases List.mem_append.1 hy with hy|hy
   ·exact b4R h1 y hy
   ·exact b2v h2 y hy
  ·cases h
def c6M(v:Value):Value:=match v.oneCell' with|true=>v|false=>.bool false
theorem c6L(v:Value):(c6M v).oneCell'=true:=by
 unfold c6M;split
 ·assumption
 ·rfl
theorem b4w{v:Value}(h:v.oneCell'=true):c6M v=v:=by unfold c6M;rw[h]
def c9j(es:List (List G)):List VV:=match c4V es with
 |some l=>l|none=>[]
theorem c0W(es:List (List G)): ∀y∈c9j es,a9Z y=true:=fun y hy=>by
 unfold c9j at hy;split at hy
 ·rename_i l h;exact b2v h y hy
 ·cases hy
def a1s(σ:List G)(β:List (Nat×Nat)):Rho:=⟨fun k=>(σ.getD k .d).int,fun k=>c6M (σ.getD k .d).val,fun k=>(β.getD k (0,0)).1,fun k=>(β.getD k (0,0)).2,fun k=>c6L _,fun k=>c9j (σ.getD k .d).es,fun _ y h=>c0W _ y h⟩
def gG(σ:List G):VV→G
 |.int k n=>.i k n|.bool b=>.b b|.string s=>.s s|.sint k i=>.i k (σ.getD i .d).int|.sym i=>σ.getD i .d|.slice none _ _=>.l (.slice none 0 0) []|_=>.d
def c9w(a b:IntKind):Bool:=decide (a=b)
def d4C(k:IntKind)(n:Int):Bool:=match decide (k.min≤n),decide (n≤k.max)with|true,true=>true|_,_=>false
mutual
def a4A:Ty→Ty→Bool
 |.i a,.i b=>c9w a b|.b,.b=>true|.s,.s=>true|.l a,.l b=>tyEqs a b|.o,.o=>true|.w a,.w b=>tyEqs a b|_,_=>false
def tyEqs:List Ty→List Ty→Bool
 | [],[]=>true
 |a::l,c::m=>match a4A a c with
  |true=>tyEqs l m|false=>false
 |_,_=>false
end
mutual
theorem c5I: ∀{a c:Ty},a4A a c=true→a=c
 |.i a,.i b,h=>by simp only[a4A,c9w]at h;rw[of_decide_eq_true h]
 |.b,.b,_=>rfl
 |.s,.s,_=>rfl
 |.l a,.l b,h=>by simp only[a4A]at h;rw[tyEqs_eq h]
 |.o,.o,_=>rfl
 |.w a,.w b,h=>by simp only[a4A]at h;rw[tyEqs_eq h]
 |.i _,.w _,h=>by simp[a4A]at h
 |.w _,.i _,h=>by simp[a4A]at h
 |.b,.w _,h=>by simp[a4A]at h
 |.w _,.b,h=>by simp[a4A]at h
 |.s,.w _,h=>by simp[a4A]at h
 |.w _,.s,h=>by simp[a4A]at h
 |.l _,.w _,h=>by simp[a4A]at h
 |.w _,.l _,h=>by simp[a4A]at h
 |.o,.w _,h=>by simp[a4A]at h
 |.w _,.o,h=>by simp[a4A]at h
 |.i _,.b,h=>by simp[a4A]at h
 |.i _,.s,h=>by simp[a4A]at h
 |.i _,.l _,h=>by simp[a4A]at h
 |.i _,.o,h=>by simp[a4A]at h
 |.b,.i _,h=>by simp[a4A]at h
 |.b,.s,h=>by simp[a4A]at h
 |.b,.l _,h=>by simp[a4A]at h
 |.b,.o,h=>by simp[a4A]at h
 |.s,.i _,h=>by simp[a4A]at h
 |.s,.b,h=>by simp[a4A]at h
 |.s,.l _,h=>by simp[a4A]at h
 |.s,.o,h=>by simp[a4A]at h
 |.l _,.i _,h=>by simp[a4A]at h
 |.l _,.b,h=>by simp[a4A]at h
 |.l _,.s,h=>by simp[a4A]at h
 |.l _,.o,h=>by simp[a4A]at h
 |.o,.i _,h=>by simp[a4A]at h
 |.o,.b,h=>by simp[a4A]at h
 |.o,.s,h=>by simp[a4A]at h
 |.o,.l _,h=>by simp[a4A]at h
theorem tyEqs_eq: ∀{a b:List Ty},tyEqs a b=true→a=b
 | [],[],_=>rfl
 | [],_::_,h=>by simp[tyEqs]at h
 |_::_,[],h=>by simp[tyEqs]at h
 |a::l,c::m,h=>by
  simp only[tyEqs]at h;split at h
  ·rename_i h1;rw[c5I h1,tyEqs_eq h]
  ·cases h
end
def okY(tys:List Ty):Ty→VV→Bool
 |.i k,.int k' n=>match c9w k' k with
  |true=>d4C k n|false=>false
 |.i k,.sint k' j=>match c9w k' k,a0H tys j with
  |true,some (.i k₁)=>match d4C k k₁.min with
   |true=>d4C k k₁.max|false=>false
  |true,some (.w _)=>match d4C k 0 with
   |true=>d4C k 9223372036854775807|false=>false
  |_,_=>false
 |.b,.bool _=>true
 |.b,.sym j=>match a0H tys j with
  |some .b=>true|_=>false
 |.s,.string x=>decide ((x.size:Int)≤9223372036854775807)
 |.s,.sym j=>match a0H tys j with
  |some .s=>true|_=>false
 |.l ts,.sym j=>match a0H tys j with
  |some (.l ts')=>tyEqs ts' ts|_=>false
 |.l ts,.slice none l c=>match Nat.beq l 0 with
  |true=>Nat.beq c 0|false=>false
 |.o,.sym j=>match a0H tys j with
  |some .o=>true|_=>false
 |_,_=>false
theorem b2f{k:IntKind}{n:Int}(h:d4C k n=true):k.min≤n∧n≤k.max:=by
 unfold d4C at h;split at h
 ·rename_i h1 h2;exact⟨of_decide_eq_true h1,of_decide_eq_true h2⟩
 ·cases h
theorem a0N{α:Type}{l m:List α}{j:Nat}{d:α}(h:j<l.length):(l++m).getD j d=l.getD j d:=by rw[List.getD_eq_getElem?_getD,List.getD_eq_getElem?_getD,List.getElem?_append_left h]
theorem a1W{α:Type}{l m:List α}{x d:α}:(l++x::m).getD l.length d=x:=by
 rw[List.getD_eq_getElem?_getD,List.getElem?_append_right (Nat.le_refl _)]
 simp
theorem c2N{α:Type}{l:List α}{j:Nat}{x:α}(h:a0H l j=some x):j<l.length:=by rw[a0K]at h;exact(List.getElem?_eq_some_iff.1 h).1
theorem getD_of{α:Type}{l:List α}{j:Nat}{x d:α}(h:l[j]? =some x):l.getD j d=x:=by rw[List.getD_eq_getElem?_getD,h];rfl
theorem a3k{tys:List Ty}{σ:List G}(ht:TyL tys σ){t:Ty}{x:VV}(h:okY tys t x=true):TyOK t (gG σ x)∧(∀w,GML w σ→GM w (gG σ x))∧ ∀τ β,a0g (a1s (σ++τ) β) x=some (gG σ x).val:=by
 have at_: ∀{j:Nat} {u:Ty},a0H tys j=some u→ ∃g,σ[j]? =some g∧TyOK u g∧j<σ.length:=fun{j u} hj=>by rw[a0K]at hj;obtain⟨g,h1,h2⟩:=ht.at hj;exact⟨g,h1,h2,(List.getElem?_eq_some_iff.1 h1).1⟩
 have sy: ∀{j:Nat} {u:Ty},a0H tys j=some u→TyOK u (σ.getD j .d)∧(∀w,GML w σ→GM w (σ.getD j .d))∧ ∀τ β,a0g (a1s (σ++τ) β) (.sym j)=some (σ.getD j .d).val:=fun{j u} hj=>by obtain⟨g,h1,h2,h3⟩:=at_ hj;refine⟨by rw[getD_of h1];exact h2,fun w hw=>by rw[getD_of h1];exact hw.at h1,fun τ β=> ?_⟩;simp only[a0g,a1s,Option.some.injEq];rw[a0N h3,getD_of h1,b4w h2.one]
 unfold okY at h;split at h
 ·split at h
  ·rename_i h1;have e:=of_decide_eq_true h1;subst e;exact⟨by simp only[gG,TyOK];exact⟨trivial,b2f h⟩,fun w _=>by simp only[gG,GM],fun τ β=>rfl⟩
  ·cases h
 ·split at h
  ·rename_i k₁ h1 h2;have e:=of_decide_eq_true h1;subst e;obtain⟨g,g1,g2,g3⟩:=at_ h2;split at h
   ·rename_i h4;have a1:=b2f h4;have a2:=b2f h;cases g<;>simp only[TyOK]at g2<;>try exact g2.elim
    obtain⟨_,b1,b2⟩:=g2;refine⟨?_,fun w _=>by simp only[gG,GM],fun τ β=> ?_⟩
    ·simp only[gG,TyOK,getD_of g1,G.int];exact⟨trivial,Int.le_trans a1.1 b1,Int.le_trans b2 a2.2⟩
    ·simp only[gG,a0g,a1s,G.val,a0N g3]
   ·cases h
  ·rename_i ts h1 h2;have e:=of_decide_eq_true h1;subst e;obtain⟨g,g1,g2,g3⟩:=at_ h2;split at h
   ·rename_i h4;have a1:=b2f h4;have a2:=b2f h;cases g<;>simp only[TyOK]at g2<;>try exact g2.elim
    obtain⟨_,b1,_⟩:=g2;refine⟨?_,fun w _=>by simp only[gG,GM],fun τ β=> ?_⟩
    ·simp only[gG,TyOK,getD_of g1,G.int];exact⟨trivial,by omega,by omega⟩
    ·simp only[gG,a0g,a1s,G.val,a0N g3]
   ·cases h
  ·cases h
 ·exact⟨by simp only[gG,TyOK],fun w _=>by simp only[gG,GM],fun τ β=>rfl⟩
 ·split at h
  ·rename_i h1;exact sy h1
  ·cases h
 ·exact⟨by simp only[gG,TyOK];exact of_decide_eq_true h,fun w _=>by simp only[gG,GM],fun τ β=>rfl⟩
 ·split at h
  ·rename_i h1;exact sy h1
  ·cases h
 ·split at h
  ·rename_i h1;rw[tyEqs_eq h]at h1;exact sy h1
  ·cases h
 ·split at h
  ·rename_i h1;rw[Nat.eq_of_beq_eq_true h1,Nat.eq_of_beq_eq_true h];refine⟨?_,fun w _=> ?_,fun τ β=>rfl⟩
   ·simp only[gG,TyOK,TyLL];exact⟨trivial,(by decide),none,0,rfl,Nat.le_refl _⟩
   ·simp only[gG,GM];exact⟨none,0,rfl,.inl ⟨trivial,.inl rfl⟩⟩
  ·cases h
 ·split at h
  ·rename_i h1;exact sy h1
  ·cases h
 ·cases h
def a0s{α:Type}(k:Nat):List (Nat×α)→Option α
 | []=>none
 |p::l=>match Nat.beq k p.1 with
  |true=>some p.2|false=>a0s k l
theorem a0h{α:Type}{k:Nat}{a:α}: ∀{l:List (Nat×α)},a0s k l=some a→(k,a)∈l
 | [],h=>by cases h
 |p::l,h=>by
  simp only[a0s]at h;split at h
  ·rename_i hb;cases h;rw[Nat.eq_of_beq_eq_true hb];exact List.mem_cons_self
  ·exact List.mem_cons_of_mem _ (a0h h)
def tvv(bs:List (Nat×Bool))(j:Nat):Ty→VV
 |.i k=>.sint k j
 |.b=>match a0s j bs with
  |some b=>.bool b|none=>.sym j
 |.w _=>.any|_=>.sym j
def pat(bs:List (Nat×Bool)):Nat→List Ty→List VV
 |_,[]=>[]|j,t::ts=>tvv bs j t::pat bs (j+1) ts
inductive Sh where
 |d (t:Ty)
 |st (ts:List Ty)
def a0F:List Sh→List Ty
 | []=>[]|.d t::l=>t::a0F l|.st ts::l=>ts++a0F l
def a3e:List Sh→List G→List Value
 | [],_=>[]|.d _::l,x=>(x.headD .d).val::a3e l x.tail|.st ts::l,x=>.agg ⟨(x.take ts.length).map G.val⟩::a3e l (x.drop ts.length)
def vvS:List Sh→List VV→List VV
 | [],_=>[]|.d _::l,x=>x.headD .nilFunc::vvS l x.tail|.st ts::l,x=>.agg (x.take ts.length)::vvS l (x.drop ts.length)
def e1G:List Value→Value
 | [v]=>v|l=>.tuple ⟨l⟩
def a8w(sh:List Sh)(gs:List G):Value:=e1G (a3e sh gs)
structure Ct where
 f:FuncId
 sh:List Sh
 rs:List Sh
 pre:List G→Prop
 post:List G→List G
inductive GE where
 |v (x:VV)
 |sl (x:VV) (es:List (List GE))
 |app (x:VV) (j:Nat) (es:List (List GE))
 |ow (x:VV) (j:Option Nat) (es:List (List GE))
inductive Vt where
 |bin (op:BinOp) (k:IntKind) (x y:VV) (t:Vt)
 |conv (k:IntKind) (x:VV) (t:Vt)
 |un (op:UnOp) (k:IntKind) (x:VV) (t:Vt)
 |lss (x y:VV) (t f:Vt)
 |eql (x y:VV) (t f:Vt)
 |eqs (x y:VV) (t f:Vt)
 |fb (j:Nat) (t f:Vt)
 |len (x:VV) (t:Vt)
 |slen (x:VV) (t:Vt)
 |elt (x i:VV) (ts:List Ty) (t:Vt)
 |cat (x y:VV) (t:Vt)
 |sub (x lo hi:VV) (t:Vt)
 |sidx (x i:VV) (t:Vt)
 |cut (ts:List Ty) (x:VV) (lo hi:Option VV) (t:Vt)
 |mn (k:IntKind) (x y:VV) (t:Vt)
 |mx (k:IntKind) (x y:VV) (t:Vt)
 |call (c:Nat) (xs:List VV) (t:Vt)
 |goto (h:Nat) (m:List (Option Nat)) (xs:List GE)
 |ret (xs:List GE)
 |no
inductive Res where
 |goto (h:Nat) (l:List G)
 |ret (l:List G)
def b6e(k:IntKind)(b:Int):Nat:=min b.toNat k.bits
def aop(op:BinOp)(k:IntKind)(a b:Int):Option Int:=match op with
 |.add=>some (k.wrap (a+b))|.sub=>some (k.wrap (a-b))|.mul=>some (k.wrap (a*b))|.and=>some (k.wrap (BitVec.ofInt k.bits a&&&BitVec.ofInt k.bits b).toNat)|.or=>some (k.wrap (BitVec.ofInt k.bits a|||BitVec.ofInt k.bits b).toNat)|.xor=>some (k.wrap (BitVec.ofInt k.bits a^^^BitVec.ofInt k.bits b).toNat)|.andNot=>some (k.wrap (BitVec.ofInt k.bits a&&& ~~~(BitVec.ofInt k.bits b)).toNat)
 |.quo=>if b=0 then none else some (k.wrap (a.tdiv b))
 |.rem=>if b=0 then none else some (a.tmod b)
 |.shl=>if b<0 then none else some (k.wrap (a*2^b6e k b))
 |.shr=>if b<0 then none else some (a.fdiv (2^b6e k b))
 |_=>none
def uop(op:UnOp)(k:IntKind)(a:Int):Option Int:=match op with
 |.neg=>some (k.wrap (0-a))|.xor=>some (k.wrap (BitVec.ofInt k.bits (if k.signed then -1 else k.max)^^^BitVec.ofInt k.bits a).toNat)|_=>none
def d3M(σ:List G):Option Nat→List (List G)
 |some j=>(σ.getD j .d).es|none=>[]
mutual
def a7q(σ:List G):List GE→(List G→Prop)→Prop
 | [],Q=>Q []
 |g::l,Q=>allG1 σ g fun u=>a7q σ l fun us=>Q (u::us)
def allG1(σ:List G):GE→(G→Prop)→Prop
 |.v x,Q=>Q (gG σ x)
 |.sl _ es,Q=>allGG σ es fun us=> ∀v,Q (.l v us)
 |.app _ j es,Q=>allGG σ es fun us=> ∀v,Q (.l v ((σ.getD j .d).es++us))
 |.ow _ j es,Q=>allGG σ es fun us=>Q (.w (d3M σ j++us))
def allGG(σ:List G):List (List GE)→(List (List G)→Prop)→Prop
 | [],Q=>Q []
 |x::l,Q=>a7q σ x fun u=>allGG σ l fun us=>Q (u::us)
end
def a0l(σ:List G)(d:Int):Option VV→Int
 |none=>d|some x=>(gG σ x).int
def b9g(g:G)(i:Int):List G:=g.es.getD i.toNat []
def a0z:Nat→List G→List G
 |0,_=>[]|n+1,x=>x.headD .d::a0z n x.tail
def cutV(sz:Nat)(v:Value)(m n:Int):Value:=match v with
 |.slice a _ c=>.slice (if c=m.toNat then a else a.map (·.add (m.toNat*sz))) (n.toNat-m.toNat) (c-m.toNat)|v=>v
def wp(C:Nat→Ct):Vt→List G→(Res→Prop)→Prop
 |.bin op k x y t,σ,Q=> ∃r,aop op k (gG σ x).int (gG σ y).int=some r∧wp C t (σ++ [.i k r]) Q|.conv k x t,σ,Q=>wp C t (σ++ [.i k (k.wrap (gG σ x).int)]) Q|.un op k x t,σ,Q=> ∃r,uop op k (gG σ x).int=some r∧wp C t (σ++ [.i k r]) Q|.lss x y t f,σ,Q=>((gG σ x).int<(gG σ y).int→wp C t σ Q)∧((gG σ y).int≤(gG σ x).int→wp C f σ Q)|.eql x y t f,σ,Q=>((gG σ x).int=(gG σ y).int→wp C t σ Q)∧((gG σ x).int≠(gG σ y).int→wp C f σ Q)|.eqs x y t f,σ,Q=>((gG σ x).str=(gG σ y).str→wp C t σ Q)∧((gG σ x).str≠(gG σ y).str→wp C f σ Q)|.fb j t f,σ,Q=>((σ.getD j .d).bool=true→wp C t σ Q)∧((σ.getD j .d).bool=false→wp C f σ Q)|.len x t,σ,Q=>wp C t (σ++ [.i .i64 (gG σ x).len]) Q|.slen x t,σ,Q=>wp C t (σ++ [.i .i64 (gG σ x).str.size]) Q|.elt x i ts t,σ,Q=>0≤(gG σ i).int∧(gG σ i).int<(gG σ x).len∧wp C t (σ++a0z ts.length (b9g (gG σ x) (gG σ i).int)) Q|.cat x y t,σ,Q=>(((gG σ x).str++(gG σ y).str).size:Int)≤9223372036854775807∧wp C t (σ++ [.s ((gG σ x).str++(gG σ y).str)]) Q|.sub x lo hi t,σ,Q=>0≤(gG σ lo).int∧(gG σ lo).int≤(gG σ hi).int∧(gG σ hi).int≤(gG σ x).str.size∧wp C t (σ++ [.s ((gG σ x).str.extract (gG σ lo).int.toNat (gG σ hi).int.toNat)]) Q|.sidx x i t,σ,Q=>0≤(gG σ i).int∧(gG σ i).int<(gG σ x).str.size∧wp C t (σ++ [.i .u8 (((gG σ x).str.data.toList.getD (gG σ i).int.toNat 0).toNat:Int)]) Q
 |.cut ts x lo hi t,σ,Q=>0≤a0l σ 0 lo∧a0l σ 0 lo≤a0l σ (gG σ x).len hi∧a0l σ (gG σ x).len hi≤(gG σ x).len∧
   wp C t (σ++ [.l (cutV ts.length (gG σ x).val (a0l σ 0 lo) (a0l σ (gG σ x).len hi)) (((gG σ x).es.drop (a0l σ 0 lo).toNat).take ((a0l σ (gG σ x).len hi).toNat-(a0l σ 0 lo).toNat))]) Q
 |.mn k x y t,σ,Q=>wp C t (σ++ [.i k (if(gG σ y).int<(gG σ x).int then(gG σ y).int else(gG σ x).int)]) Q|.mx k x y t,σ,Q=>wp C t (σ++ [.i k (if(gG σ y).int>(gG σ x).int then(gG σ y).int else(gG σ x).int)]) Q|.call c xs t,σ,Q=>(C c).pre (xs.map (gG σ))∧wp C t (σ++(C c).post (xs.map (gG σ))) Q
 |.goto h m xs,σ,Q=>a7q σ xs fun l=>Q (.goto h l)
 |.ret xs,σ,Q=>a7q σ xs fun l=>Q (.ret l)
 |.no,_,_=>False
def c5t:Ty→Bool
 |.l _=>false|.o=>false|.w _=>false|_=>true
def b1R:List Ty→Bool
 | []=>true
 |t::l=>match c5t t with
  |true=>b1R l|false=>false
structure CtOK(P:Program)(c:Ct):Prop where
 pl:b1R (a0F c.rs)=true
 ty: ∀gs,TyL (a0F c.sh) gs→c.pre gs→TyL (a0F c.rs) (c.post gs)
 ok: ∀w gs,TyL (a0F c.sh) gs→GML w gs→c.pre gs→Calls P c.f ⟨a3e c.sh gs⟩ w fun e w'=>e= .returned (a8w c.rs (c.post gs))∧Below w.heap.size w w'
theorem c1r{w:World}: ∀{ts:List Ty} {gs:List G},b1R ts=true→TyL ts gs→GML w gs
 | [],[],_,_=>trivial
 | [],_::_,_,h=>by simp only[TyL]at h
 |_::_,[],_,h=>by simp only[TyL]at h
 |t::ts,g::gs,hp,h=>by
  simp only[TyL]at h;simp only[b1R]at hp;split at hp
  ·rename_i h1;refine⟨?_,c1r hp h.2⟩;have h0:=h.1;cases t<;>cases g<;>simp only[TyOK]at h0<;>first|exact h0.elim|(simp only[GM];done)|(simp[c5t]at h1;done)
  ·cases hp
def a5C(tys:List Ty):List Ty→List VV→Bool
 | [],[]=>true
 |t::ts,x::xs=>match okY tys t x with
  |true=>a5C tys ts xs|false=>false
 |_,_=>false
theorem c0M{tys:List Ty}{σ:List G}(ht:TyL tys σ): ∀{ts:List Ty} {xs:List VV},a5C tys ts xs=true→TyL ts (xs.map (gG σ))∧ ∀w,GML w σ→GML w (xs.map (gG σ))
 | [],[],_=>⟨trivial,fun _ _=>trivial⟩
 | [],_::_,h=>by simp[a5C]at h
 |_::_,[],h=>by simp[a5C]at h
 |t::ts,x::xs,h=>by
  simp only[a5C]at h;split at h
  ·rename_i h1;obtain⟨a1,a2,_⟩:=a3k ht h1;obtain⟨b1,b2⟩:=c0M ht h;exact⟨⟨a1,b1⟩,fun w hw=>⟨a2 w hw,b2 w hw⟩⟩
  ·cases h
structure CallI where
 f:FuncId
 sh:List Sh
 xs:List VV
 j:Nat
 rs:List Sh
def d2g(bs:List (Nat×Bool)):VV→VV
 |.sym j=>match a0s j bs with
  |some b=>.bool b|none=>.sym j
 |x=>x
def d2o:List VV→VV
 | [x]=>x|l=>.tuple l
def CallI.ke(bs:List (Nat×Bool))(c:CallI):KE:=⟨c.f,vvS c.sh (c.xs.map (d2g bs)),[],d2o (vvS c.rs (pat bs c.j (a0F c.rs)))⟩
def e2c(P:Program)(S:Nat→Prop)(w:World)(f:FuncId)(args:List Value)(r:Value):Prop:=
 ∀w':World,w.heap.size≤w'.heap.size→(∀k,k<w.heap.size→ ¬S k→w'.heap[k]? =w.heap[k]?)→Calls P f ⟨args⟩ w' fun e w''=>e= .returned r∧Below w'.heap.size w' w''
theorem b9w{P:Program}{S:Nat→Prop}{w:World}{σ:List G}{β:List (Nat×Nat)}{φ:Phi}{tys:List Ty}{bs:List (Nat×Bool)}(hφ:φ.ρ=a1s σ β)(ht:TyL tys σ)(hb: ∀q∈bs,σ[q.1]? =some (.b q.2)){t:Ty}{x:VV}(hx:okY tys t x=true){v:Value}(h:VR φ (d2g bs x) v):v=(gG σ x).val:=by
 obtain⟨_,_,hs⟩:=a3k ht hx;have hs:=hs [] β;rw[List.append_nil]at hs;unfold d2g at h;split at h
 ·rename_i j;split at h
  ·rename_i b hl;have:=hb _ (a0h hl);simp only at this;simp only[VR]at h;simp only[gG];rw[h,getD_of this];rfl
  ·exact a0q (by rw[hφ];exact hs) h
 ·exact a0q (by rw[hφ];exact hs) h
theorem a1A{φ:Phi}{x:VV}{xs:List VV}{vs:List Value}(h:VRs φ (x::xs) vs): ∃v us,vs=v::us∧VR φ x v∧VRs φ xs us:=by simpa only[VRs]using h
theorem c5S{P:Program}{S:Nat→Prop}{w:World}{σ:List G}{β:List (Nat×Nat)}{φ:Phi}{tys:List Ty}{bs:List (Nat×Bool)}(hφ:φ.ρ=a1s σ β)(ht:TyL tys σ)(hb: ∀q∈bs,σ[q.1]? =some (.b q.2)): ∀{ts:List Ty} {xs:List VV} {vs:List Value},a5C tys ts xs=true→VRs φ (xs.map (d2g bs)) vs→vs=(xs.map (gG σ)).map G.val
 | [],[],vs,_,h=>by simpa only[List.map_nil,VRs]using h
 | [],_::_,_,h,_=>by simp[a5C]at h
 |_::_,[],_,h,_=>by simp[a5C]at h
 |t::ts,x::xs,vs,h,hv=>by
  simp only[a5C]at h;split at h
  ·rename_i h1;obtain⟨v,us,rfl,g1,g2⟩:=a1A (by simpa only[List.map_cons]using hv);rw[b9w (P:=P) (S:=S) (w:=w) hφ ht hb h1 g1,c5S (P:=P) (S:=S) (w:=w) hφ ht hb h g2];rfl
  ·cases h
theorem b3u{tys us:List Ty}: ∀{ts:List Ty} {xs:List VV},a5C tys (ts++us) xs=true→a5C tys ts (xs.take ts.length)=true∧a5C tys us (xs.drop ts.length)=true
 | [],xs,h=>⟨rfl,by simpa using h⟩
 |t::ts,[],h=>by simp[a5C]at h
 |t::ts,x::xs,h=>by
  simp only[List.cons_append,a5C]at h;split at h
  ·rename_i h1;obtain⟨a,b⟩:=b3u h;refine⟨?_,by simpa using b⟩;simp only[List.length_cons,List.take_succ_cons,a5C,h1];exact a
  ·cases h
theorem b4i{P:Program}{S:Nat→Prop}{w:World}{σ:List G}{β:List (Nat×Nat)}{φ:Phi}{tys:List Ty}{bs:List (Nat×Bool)}(hφ:φ.ρ=a1s σ β)(ht:TyL tys σ)(hb: ∀q∈bs,σ[q.1]? =some (.b q.2)): ∀{sh:List Sh} {xs:List VV} {vs:List Value},a5C tys (a0F sh) xs=true→VRs φ (vvS sh (xs.map (d2g bs))) vs→vs=a3e sh (xs.map (gG σ))
 | [],xs,vs,_,h=>by simp only[vvS,VRs]at h;rw[h];rfl
 |.d t::sh,[],vs,h,_=>by simp[a0F,a5C]at h
 |.d t::sh,x::xs,vs,h,hv=>by
  simp only[a0F,a5C]at h;split at h
  ·rename_i h1;simp only[vvS,List.map_cons,List.headD_cons,List.tail_cons]at hv;obtain⟨v,us,rfl,g1,g2⟩:=a1A hv;rw[b9w (P:=P) (S:=S) (w:=w) hφ ht hb h1 g1,b4i (P:=P) (S:=S) (w:=w) hφ ht hb h g2];rfl
  ·cases h
 |.st ts::sh,xs,vs,h,hv=>by simp only[a0F]at h;obtain⟨a,b⟩:=b3u h;simp only[vvS]at hv;obtain⟨v,us,rfl,g1,g2⟩:=a1A hv;rw[VR]at g1;obtain⟨cs,c1,rfl⟩:=g1;rw[←List.map_take]at c1;rw[←List.map_drop]at g2;rw[c5S (P:=P) (S:=S) (w:=w) hφ ht hb a c1,b4i (P:=P) (S:=S) (w:=w) hφ ht hb b g2];simp only[a3e,List.map_take,List.map_drop]
theorem b9b{φ:Phi}: ∀{n:Nat} {xs:List VV} {vs:List Value},VRs φ xs vs→VRs φ (xs.take n) (vs.take n)∧VRs φ (xs.drop n) (vs.drop n)
 |0,xs,vs,h=>⟨by simp[VRs],by simpa using h⟩
 |n+1,[],vs,h=>by simp only[VRs]at h;subst h;simp[VRs]
 |n+1,x::xs,vs,h=>by obtain⟨v,us,rfl,h1,h2⟩:=a1A h;obtain⟨a,b⟩:=b9b (n:=n) h2;refine⟨?_,by simpa using b⟩;simp only[List.take_succ_cons,VRs];exact⟨v,_,rfl,h1,a⟩
theorem b1O{φ:Phi}: ∀{sh:List Sh} {xs:List VV} {gs:List G},TyL (a0F sh) gs→VRs φ xs (gs.map G.val)→VRs φ (vvS sh xs) (a3e sh gs)
 | [],_,_,_,_=>by simp[vvS,a3e,VRs]
 |.d t::sh,[],gs,ht,h=>by
  cases gs with
  |nil=>simp[a0F,TyL]at ht
  |cons g gs=>simp[VRs]at h
 |.d t::sh,x::xs,[],ht,h=>by simp[a0F,TyL]at ht
 |.d t::sh,x::xs,g::gs,ht,h=>by simp only[a0F,TyL]at ht;obtain⟨v,us,e,h1,h2⟩:=a1A h;cases e;simp only[vvS,a3e,List.headD_cons,List.tail_cons,VRs];exact⟨_,_,rfl,h1,b1O ht.2 h2⟩
 |.st ts::sh,xs,gs,ht,h=>by
  simp only[a0F]at ht;obtain⟨a,b⟩:=b9b (n:=ts.length) h;rw[←List.map_take]at a;rw[←List.map_drop]at b
  have tl: ∀{ts us:List Ty} {gs:List G},TyL (ts++us) gs→TyL us (gs.drop ts.length):=by
   intro ts
   induction ts with
   |nil=>intro us gs h;simpa using h
   |cons t ts ih=>
    intro us gs h;cases gs with
    |nil=>simp[TyL]at h
    |cons g gs=>simp only[List.cons_append,TyL]at h;simpa using ih h.2
  simp only[vvS,a3e,VRs];refine⟨_,_,rfl, ?_,b1O (tl ht) b⟩;rw[VR];exact⟨_,a,rfl⟩
structure PI where
 tys:List Ty
 fs:List Fact
 sb:List (Nat×Nat×List Ty)
 nb:Nat
 bs:List (Nat×Bool)
 pts:List (Nat×Int)
 bd:List (Nat×Int)
 calls:List CallI
def ivP(tys:List Ty)(pts bd:List (Nat×Int))(j:Nat):Int×Int:=match a0s j pts with
 |some c=>(c,c)
 |none=>match a0H tys j with
  |some (.i k)=>(k.min,k.max)
  |some (.w _)=>match a0s j bd with
   |some n=>(0,n)|none=>(0,9223372036854775807)
  |_=>(0,0)
def PI.env(p:PI):Env:=⟨fun _=>none,ivP p.tys p.pts p.bd,p.fs,fun k=>match a0s k p.sb with
 |some (j,ts)=>some (pat p.bs j ts)
 |none=>none⟩
def PI.ke(p:PI):List KE:=p.calls.map (CallI.ke p.bs)
def a6v(σ:List G)(j n:Nat):List G:=(σ.drop j).take n
structure PIok(P:Program)(S:Nat→Prop)(w:World)(σ:List G)(β:List (Nat×Nat))(p:PI):Prop where
 ty:TyL p.tys σ
 mem:GML w σ
 fs: ∀f∈p.fs,∀τ γ,FactOK (a1s (σ++τ) (β++γ)) f
 nb:β.length=p.nb
 sb: ∀q∈p.sb,∃B O,β[q.1]? =some (B,O)∧B<w.heap.size∧ ∀j t,q.2.2[j]? =some t→w.cell? ⟨B,O+j,none⟩=some (σ.getD (q.2.1+j) .d).val∧p.tys[q.2.1+j]? =some t
 bs: ∀q∈p.bs,σ[q.1]? =some (.b q.2)
 pts: ∀q∈p.pts,q.1<σ.length∧(σ.getD q.1 .d).int=q.2
 bd: ∀q∈p.bd,q.1<σ.length∧(σ.getD q.1 .d).int≤q.2
 calls: ∀c∈p.calls,a5C p.tys (a0F c.sh) c.xs=true∧(∀q t,(a0F c.rs)[q]? =some t→p.tys[c.j+q]? =some t)∧e2c P S w c.f (a3e c.sh (c.xs.map (gG σ))) (a8w c.rs (a6v σ c.j (a0F c.rs).length))
section
variable{P:Program}{S:Nat→Prop}{w:World}{σ:List G}{β:List (Nat×Nat)}{p:PI}
theorem PIok.at(h:PIok P S w σ β p){j:Nat}{t:Ty}(hj:p.tys[j]? =some t): ∃g,σ[j]? =some g∧TyOK t g:=h.ty.at hj
theorem PIok.len(h:PIok P S w σ β p):σ.length=p.tys.length:=h.ty.len
theorem c5J(h:PIok P S w σ β p){j:Nat}{t:Ty}(hj:p.tys[j]? =some t)(f:Nat→Option Inf):VR ⟨f,a1s σ β⟩ (tvv p.bs j t) (σ.getD j .d).val:=by
 obtain⟨g,h1,h2⟩:=h.at hj;rw[getD_of h1]
 have sy:VR ⟨f,a1s σ β⟩ (.sym j) g.val:=by simp only[VR,a1s];rw[getD_of h1,b4w h2.one]
 unfold tvv;split
 ·cases g<;>simp only[TyOK]at h2<;>try exact h2.elim
  rename_i k k' n;obtain⟨rfl,_⟩:=h2;simp only[VR,a1s,getD_of h1,G.int,G.val]
 ·split
  ·rename_i b hb;have:=h.bs _ (a0h hb);rw[h1]at this;cases this;simp only[VR,G.val]
  ·exact sy
 ·simp only[VR]
 ·exact sy
theorem d1I{bs:List (Nat×Bool)}: ∀{ts:List Ty} {j q:Nat} {x:VV},(pat bs j ts)[q]? =some x→ ∃t,ts[q]? =some t∧x=tvv bs (j+q) t
 | [],j,q,x,h=>by simp[pat]at h
 |t::ts,j,0,x,h=>by simp only[pat,List.getElem?_cons_zero,Option.some.injEq]at h;exact⟨t,rfl,h.symm⟩
 |t::ts,j,q+1,x,h=>by obtain⟨u,h1,h2⟩:=d1I (ts:=ts) (j:=j+1) (q:=q) (by simpa[pat]using h);exact⟨u,by simpa using h1,by rw[h2];congr 1;omega⟩
theorem c3v{k:IntKind}{g:G}(h:TyOK (.i k) g):k.min≤g.int∧g.int≤k.max:=by
 cases g<;>simp only[TyOK]at h<;>try exact h.elim
 exact h.2
theorem e1Z{ts:List Ty}{g:G}(h:TyOK (.w ts) g):0≤g.int∧g.int≤9223372036854775807:=by
 cases g<;>simp only[TyOK]at h<;>try exact h.elim
 rename_i es;have:=h.2.1;show(0:Int)≤es.length∧(es.length:Int)≤_;exact⟨by omega,this⟩
theorem e1a{t:Ty}{g:G}(h:TyOK t g)(h1: ∀k,t≠ .i k)(h2: ∀ts,t≠ .w ts):g.int=0:=by cases t<;>cases g<;>simp only[TyOK]at h<;>first|exact h.elim|exact absurd rfl (h1 _)|exact absurd rfl (h2 _)|rfl
theorem PIok.iv(h:PIok P S w σ β p)(j:Nat):(ivP p.tys p.pts p.bd j).1≤(σ.getD j .d).int∧(σ.getD j .d).int≤(ivP p.tys p.pts p.bd j).2:=by
 unfold ivP;split
 ·rename_i c hc;have:=(h.pts _ (a0h hc)).2;simp only at this;omega
 ·by_cases hj:j<p.tys.length
  ·obtain⟨g,h1,h2⟩:=h.at (List.getElem?_eq_getElem hj);rw[getD_of h1,a0K,List.getElem?_eq_getElem hj];split
   ·rename_i k hk;simp only[Option.some.injEq]at hk;rw[hk]at h2;exact c3v h2
   ·rename_i ts hk;simp only[Option.some.injEq]at hk;rw[hk]at h2;have h3:=e1Z h2;split
    ·rename_i n hn;have:=(h.bd _ (a0h hn)).2;simp only[getD_of h1]at this;exact⟨h3.1,this⟩
    ·exact h3
   ·rename_i e1 e2;rw[e1a h2 (fun k e=>e1 k (by rw[e])) fun ts e=>e2 ts (by rw[e])];exact⟨Int.le_refl _,Int.le_refl _⟩
  ·have e1:σ.getD j .d= .d:=by
    rw[List.getD_eq_getElem?_getD,List.getElem?_eq_none (by rw[h.len];omega)];rfl
   rw[e1,a0K,List.getElem?_eq_none (by omega)];exact⟨Int.le_refl _,Int.le_refl _⟩
theorem c5z(h:PIok P S w σ β p)(f:Nat→Option Inf): ∀{rs:List Ty} {j:Nat},(∀q t,rs[q]? =some t→p.tys[j+q]? =some t)→VRs ⟨f,a1s σ β⟩ (pat p.bs j rs) ((a6v σ j rs.length).map G.val)
 | [],j,_=>by simp[pat,a6v,VRs]
 |t::rs,j,hj=>by
  have h0:=hj 0 t rfl;obtain⟨g,g1,g2⟩:=h.at (j:=j) (by simpa using h0)
  have e:a6v σ j (rs.length+1)=g::a6v σ (j+1) rs.length:=by unfold a6v;have hlt:=(List.getElem?_eq_some_iff.1 g1);obtain⟨h1,h2⟩:=hlt;rw[List.drop_eq_getElem_cons h1,h2,List.take_succ_cons]
  rw[List.length_cons,e];simp only[pat,List.map_cons,VRs];have h1:=c5J h (j:=j) (by simpa using h0) f;rw[getD_of g1]at h1
  exact⟨_,_,rfl,h1,c5z h f fun q u hq=>by
   have:=hj (q+1) u (by simpa using hq);rw[show j+1+q=j+(q+1)by omega]
   exact this⟩
theorem c5O(h:PIok P S w σ β p): ∀{rs:List Ty} {j:Nat},(∀q t,rs[q]? =some t→p.tys[j+q]? =some t)→TyL rs (a6v σ j rs.length)
 | [],j,_=>by simp[a6v,TyL]
 |t::rs,j,hj=>by
  have h0:=hj 0 t rfl;obtain⟨g,g1,g2⟩:=h.at (j:=j) (by simpa using h0)
  have e:a6v σ j (rs.length+1)=g::a6v σ (j+1) rs.length:=by unfold a6v;obtain⟨h1,h2⟩:=List.getElem?_eq_some_iff.1 g1;rw[List.drop_eq_getElem_cons h1,h2,List.take_succ_cons]
  rw[List.length_cons,e];simp only[TyL]
  exact⟨g2,c5O h fun q u hq=>by
   have:=hj (q+1) u (by simpa using hq);rw[show j+1+q=j+(q+1)by omega]
   exact this⟩
theorem d6Y{φ:Phi}{sh:List Sh}{l:List VV}{gs:List G}(ht:TyL (a0F sh) gs)(h:VRs φ l (gs.map G.val)):VR φ (d2o (vvS sh l)) (a8w sh gs):=by
 have k:=b1O ht h;unfold a8w;generalize vvS sh l=xs at k;generalize a3e sh gs=vs at k
 match xs,vs,k with
 | [],[],_=>simp[d2o,e1G,VR,VRs]
 | [],_::_,h=>simp[VRs]at h
 |_::_,[],h=>simp[VRs]at h
 | [x],[g],h=>obtain⟨v,us,e,h1,_⟩:=a1A h;cases e;exact h1
 | [x],_::_::_,h=>simp[VRs]at h
 |_::_::_,[g],h=>obtain⟨y,ys,e,_,h2⟩:=a1A h;cases e;simp[VRs]at h2
 |x::y::l,g::g'::gs,h=>show VR φ (.tuple _) (.tuple _);rw[VR];exact⟨_,h,rfl⟩
theorem PIok.ke_ok(h:PIok P S w σ β p): ∀e∈p.ke,c4j P (a1s σ β) w e S:=by intro e he;obtain⟨c,hc,rfl⟩:=List.mem_map.1 he;obtain⟨h1,h2,h3⟩:=h.calls c hc;intro φ vs w' hφ hs ho hv _;obtain⟨f,ρ⟩:=φ;simp only at hφ;subst hφ;have:=b4i (P:=P) (S:=S) (w:=w) (φ:=⟨f,a1s σ β⟩) rfl h.ty h.bs h1 hv;subst this;refine(h3 w' hs ho).mono ?_;rintro en w'' ⟨rfl,hb⟩;exact⟨_,rfl,d6Y (c5O h h2) (c5z h f h2),hb⟩
theorem PIok.envOK(h:PIok P S w σ β p)(f:Nat→Option Inf): @EnvOK (XK P p.ke S) p.env ⟨f,a1s σ β⟩ w:=by
 have e0:a1s (σ++ []) (β++ [])=a1s σ β:=by rw[List.append_nil,List.append_nil]
 refine @EnvOK.mk (XK P p.ke S) _ _ _ h.ke_ok h.iv (fun x hx=>FactOK.w (by have:=h.fs x hx [] [];rw[e0]at this;exact this)) fun k c hk=> ?_;simp only[PI.env]at hk;split at hk
 ·rename_i j ts hl;obtain⟨B,O,h1,h2,h3⟩:=h.sb _ (a0h hl);simp only[Option.some.injEq]at hk;subst hk;have eb:(a1s σ β).blk k=B:=by show(β.getD k (0,0)).1=B;rw[getD_of h1]
  have eo:(a1s σ β).off k=O:=by show(β.getD k (0,0)).2=O;rw[getD_of h1]
  refine⟨by show(a1s σ β).blk k<_;rw[eb];exact h2,fun q x hx=> ?_⟩;obtain⟨t,t1,rfl⟩:=d1I hx;obtain⟨g1,g2⟩:=h3 q t t1;exact⟨_,by show w.cell? ⟨(a1s σ β).blk k,(a1s σ β).off k+q,none⟩=_;rw[eb,eo];exact g1,c5J h g2 f⟩
 ·cases hk
end
def b7p:VV→IntKind
 |.int k _=>k|.sint k _=>k|_=>.i64
def PI.fact(p:PI)(f:Fact):PI:={p with fs:=f::p.fs}
def PI.sym(p:PI)(t:Ty)(f:Fact):PI:={p with tys:=p.tys++ [t],fs:=f::p.fs}
def PI.pt(p:PI)(x y:VV):PI:=match x,y with
 |.sint k j,.int _ c=>match a0H p.tys j with
  |some (.i k')=>match c9w k k' with
   |true=>{p with pts:=(j,c)::p.pts}|false=>p
  |_=>p
 |_,_=>p
def okI(p:PI)(x:VV):Bool:=okY p.tys (.i (b7p x)) x
def d9W(p:PI)(x y:VV):Bool:=match c9w (b7p x) (b7p y),okI p x with
 |true,true=>okI p y|_,_=>false
def d9E:VV→Option Nat
 |.sym j=>some j|_=>none
def d9a(p:PI)(x:VV)(ts:List Ty):Bool:=match d9E x with
 |some _=>okY p.tys (.l ts) x|none=>false
def e1Q(p:PI)(x:VV):Bool:=match d9E x with
 |some j=>match a0H p.tys j with
  |some (.l _)=>true|_=>false
 |none=>false
def okB(p:PI):Option VV→Bool
 |none=>true|some x=>okI p x
def k2(op:BinOp)(k:IntKind)(y:VV):IntKind:=match op with
 |.shl=>b7p y|.shr=>b7p y|_=>k
def a0x(C:Nat→Ct)(leaf:PI→Vt→Bool):Vt→PI→Bool
 |.bin op k x y t,p=>match okY p.tys (.i k) x,okY p.tys (.i (k2 op k y)) y with
  |true,true=>a0x C leaf t (p.sym (.i k) (.bin op x y (.sint k p.tys.length)))|_,_=>false
 |.conv k x t,p=>match okI p x with
  |true=>a0x C leaf t (p.sym (.i k) (.fn (.conv k) [x] (.sint k p.tys.length)))|false=>false
 |.un op k x t,p=>match okY p.tys (.i k) x with
  |true=>a0x C leaf t (p.sym (.i k) (.fn (.un op) [x] (.sint k p.tys.length)))|false=>false
 |.lss x y t f,p=>match d9W p x y,a0x C leaf t (p.fact (.bin .lss x y (.bool true)))with
  |true,true=>a0x C leaf f (p.fact (.bin .lss x y (.bool false)))|_,_=>false
 |.eql x y t f,p=>match d9W p x y,a0x C leaf t ((p.fact (.bin .eql x y (.bool true))).pt x y)with
  |true,true=>a0x C leaf f (p.fact (.bin .eql x y (.bool false)))|_,_=>false
 |.eqs x y t f,p=>match okY p.tys .s x,okY p.tys .s y,a0x C leaf t ((p.fact (.bin .eql x y (.bool true))).fact (.bin .neq x y (.bool false)))with
  |true,true,true=>a0x C leaf f ((p.fact (.bin .eql x y (.bool false))).fact (.bin .neq x y (.bool true)))|_,_,_=>false
 |.fb j t f,p=>match a0H p.tys j with
  |some .b=>match a0x C leaf t {p with bs:=(j,true)::p.bs,fs:=.fn .isB [.sym j] (.bool true)::p.fs}with
   |true=>a0x C leaf f {p with bs:=(j,false)::p.bs,fs:=.fn .isB [.sym j] (.bool false)::p.fs}|false=>false
  |_=>false
 |.len x t,p=>match e1Q p x with
  |true=>a0x C leaf t (p.sym (.i .i64) (.len false x (.sint .i64 p.tys.length)))|false=>false
 |.slen x t,p=>match okY p.tys .s x with
  |true=>a0x C leaf t (p.sym (.i .i64) (.len true x (.sint .i64 p.tys.length)))|false=>false
 |.elt x i ts t,p=>match d9a p x ts,okI p i with
  |true,true=>a0x C leaf t {p with tys:=p.tys++ts,fs:=.at ts.length x i ⟨.sym p.nb,0⟩::p.fs,sb:=(p.nb,p.tys.length,ts)::p.sb,nb:=p.nb+1}|_,_=>false
 |.cat x y t,p=>match okY p.tys .s x,okY p.tys .s y with
  |true,true=>a0x C leaf t (p.sym .s (.bin .add x y (.sym p.tys.length)))|_,_=>false
 |.sub x lo hi t,p=>match okY p.tys .s x,okI p lo,okI p hi with
  |true,true,true=>a0x C leaf t (p.sym .s (.fn .cutS [x,lo,hi] (.sym p.tys.length)))|_,_,_=>false
 |.sidx x i t,p=>match okY p.tys .s x,okI p i with
  |true,true=>a0x C leaf t (p.sym (.i .u8) (.fn .sidx [x,i] (.sint .u8 p.tys.length)))|_,_=>false
 |.cut ts x lo hi t,p=>match d9a p x ts,okB p lo,okB p hi with
  |true,true,true=>a0x C leaf t (p.sym (.l ts) (.cut ts.length x lo hi (.sym p.tys.length)))|_,_,_=>false
 |.mn k x y t,p=>match okY p.tys (.i k) x,okY p.tys (.i k) y with
  |true,true=>a0x C leaf t (p.sym (.i k) (.fn .min [x,y] (.sint k p.tys.length)))|_,_=>false
 |.mx k x y t,p=>match okY p.tys (.i k) x,okY p.tys (.i k) y with
  |true,true=>a0x C leaf t (p.sym (.i k) (.fn .max [x,y] (.sint k p.tys.length)))|_,_=>false
 |.call c xs t,p=>match a5C p.tys (a0F (C c).sh) xs with
  |true=>a0x C leaf t {p with tys:=p.tys++a0F (C c).rs,calls:=⟨(C c).f,(C c).sh,xs,p.tys.length,(C c).rs⟩::p.calls}|false=>false
 |.no,_=>true|t,p=>leaf p t
theorem a6l{α:Type}{l m:List α}{j:Nat}{x:α}(h:a0H l j=some x):a0H (l++m) j=some x:=by have hlt:=c2N h;rw[a0K]at h ⊢;rw[List.getElem?_append_left hlt];exact h
theorem d3N{tys us:List Ty}{t:Ty}{x:VV}(h:okY tys t x=true):okY (tys++us) t x=true:=by
 unfold okY at h ⊢;split at h
 ·exact h
 ·split at h
  ·rename_i k1 h1 h2;simp only[h1,a6l h2];exact h
  ·rename_i k1 h1 h2;simp only[h1,a6l h2];exact h
  ·cases h
 ·rfl
 ·split at h
  ·rename_i h1;simp only[a6l h1]
  ·cases h
 ·exact h
 ·split at h
  ·rename_i h1;simp only[a6l h1]
  ·cases h
 ·split at h
  ·rename_i h1;simp only[a6l h1];exact h
  ·cases h
 ·exact h
 ·split at h
  ·rename_i h1;simp only[a6l h1]
  ·cases h
 ·cases h
theorem b4x{tys us:List Ty}: ∀{ts:List Ty} {xs:List VV},a5C tys ts xs=true→a5C (tys++us) ts xs=true
 | [],[],_=>rfl
 | [],_::_,h=>by simp[a5C]at h
 |_::_,[],h=>by simp[a5C]at h
 |t::ts,x::xs,h=>by
  simp only[a5C]at h ⊢;split at h
  ·rename_i h1;rw[d3N h1];exact b4x h
  ·cases h
theorem d6m{tys:List Ty}{σ τ:List G}(ht:TyL tys σ){t:Ty}{x:VV}(h:okY tys t x=true):gG (σ++τ) x=gG σ x:=by
 have at_: ∀{j:Nat} {u:Ty},a0H tys j=some u→(σ++τ).getD j .d=σ.getD j .d:=fun{j u} hj=>by have:=c2N hj;exact a0N (by rw[ht.len];exact this)
 unfold okY at h;split at h
 ·rfl
 ·split at h
  ·rename_i k1 h1 h2;simp only[gG,at_ h2]
  ·rename_i k1 h1 h2;simp only[gG,at_ h2]
  ·cases h
 ·rfl
 ·split at h
  ·rename_i h1;simp only[gG,at_ h1]
  ·cases h
 ·rfl
 ·split at h
  ·rename_i h1;simp only[gG,at_ h1]
  ·cases h
 ·split at h
  ·rename_i h1;simp only[gG,at_ h1]
  ·cases h
 ·rfl
 ·split at h
  ·rename_i h1;simp only[gG,at_ h1]
  ·cases h
 ·cases h
theorem c0N{tys:List Ty}{σ τ:List G}(ht:TyL tys σ): ∀{ts:List Ty} {xs:List VV},a5C tys ts xs=true→xs.map (gG (σ++τ))=xs.map (gG σ)
 | [],[],_=>rfl
 | [],_::_,h=>by simp[a5C]at h
 |_::_,[],h=>by simp[a5C]at h
 |t::ts,x::xs,h=>by
  simp only[a5C]at h;split at h
  ·rename_i h1;simp only[List.map_cons,d6m ht h1,c0N ht h]
  ·cases h
theorem c5P{σ τ:List G}{j n:Nat}(h:n=0∨j+n≤σ.length):a6v (σ++τ) j n=a6v σ j n:=by
 unfold a6v;rcases h with rfl|h
 ·rw[List.take_zero,List.take_zero]
 ·by_cases h0:n=0
  ·subst h0;rw[List.take_zero,List.take_zero]
  ·rw[List.drop_append_of_le_length (by omega),List.take_append_of_le_length (by rw[List.length_drop];omega)]
theorem a7r(k:IntKind)(n:Int):k.min≤k.wrap n∧k.wrap n≤k.max:=by cases k<;>simp only[IntKind.min,IntKind.max,IntKind.wrap,IntKind.signed,IntKind.bits]<;>simp<;>(try split)<;>omega
section
variable{P:Program}{S:Nat→Prop}{w:World}{σ:List G}{β:List (Nat×Nat)}{p:PI}
theorem PIok.ext(h:PIok P S w σ β p){ts:List Ty}{gs:List G}(ht:TyL ts gs)(hm:GML w gs):PIok P S w (σ++gs) β {p with tys:=p.tys++ts}:=by
 refine⟨TyL.app h.ty ht,GML.app h.mem hm,fun f hf τ γ=>by rw[List.append_assoc];exact h.fs f hf _ γ,h.nb,fun q hq=> ?_,fun q hq=> ?_,fun q hq=> ?_,fun q hq=> ?_,fun c hc=> ?_⟩
 ·obtain⟨B,O,h1,h2,h3⟩:=h.sb q hq;refine⟨B,O,h1,h2,fun j t hj=> ?_⟩;obtain⟨g1,g2⟩:=h3 j t hj;have hlt:=(List.getElem?_eq_some_iff.1 g2).1;exact⟨by rw[a0N (by rw[h.len];exact hlt)];exact g1,by show(p.tys++ts)[q.2.1+j]? =_;rw[List.getElem?_append_left hlt];exact g2⟩
 ·have:=h.bs q hq;rw[List.getElem?_append_left (List.getElem?_eq_some_iff.1 this).1];exact this
 ·obtain⟨a,b⟩:=h.pts q hq;exact⟨by rw[List.length_append];omega,by rw[a0N a];exact b⟩
 ·obtain⟨a,b⟩:=h.bd q hq;exact⟨by rw[List.length_append];omega,by rw[a0N a];exact b⟩
 ·obtain⟨h1,h2,h3⟩:=h.calls c hc;refine⟨b4x h1,fun q t hq=> ?_, ?_⟩
  ·have:=h2 q t hq;show(p.tys++ts)[c.j+q]? =_;rw[List.getElem?_append_left (List.getElem?_eq_some_iff.1 this).1];exact this
  ·rw[c0N h.ty h1,c5P]
   ·exact h3
   ·by_cases h0:(a0F c.rs).length=0
    ·exact .inl h0
    ·right;have:=h2 ((a0F c.rs).length-1) _ (List.getElem?_eq_getElem (by omega));have:=(List.getElem?_eq_some_iff.1 this).1;rw[h.len];omega
theorem PIok.fact(h:PIok P S w σ β p){f:Fact}(hf: ∀τ γ,FactOK (a1s (σ++τ) (β++γ)) f):PIok P S w σ β (p.fact f):=
 ⟨h.ty,h.mem,fun g hg=>by
  rcases List.mem_cons.1 hg with rfl|hg
  ·exact hf
  ·exact h.fs g hg,h.nb,h.sb,h.bs,h.pts,h.bd,h.calls⟩
theorem PIok.sym(h:PIok P S w σ β p){t:Ty}{g:G}{f:Fact}(ht:TyOK t g)(hm:GM w g)(hf: ∀τ γ,FactOK (a1s (σ++g::τ) (β++γ)) f):PIok P S w (σ++ [g]) β (p.sym t f):=
 (h.ext (ts:=[t]) (gs:=[g]) ⟨ht,trivial⟩ ⟨hm,trivial⟩).fact fun τ γ=>by rw[List.append_assoc];exact hf τ γ
theorem PIok.sv(h:PIok P S w σ β p){t:Ty}{x:VV}(hx:okY p.tys t x=true)(τ:List G)(β':List (Nat×Nat)):a0g (a1s (σ++τ) β') x=some (gG σ x).val:=(a3k h.ty hx).2.2 τ β'
theorem PIok.svI(h:PIok P S w σ β p){k:IntKind}{x:VV}(hx:okY p.tys (.i k) x=true)(τ:List G)(β':List (Nat×Nat)):a0g (a1s (σ++τ) β') x=some (.int k (gG σ x).int):=by
 rw[h.sv hx];have:=(a3k h.ty hx).1;generalize gG σ x=g at this ⊢;cases g<;>simp only[TyOK]at this<;>try exact this.elim
 obtain⟨rfl,_⟩:=this;rfl
theorem PIok.svS(h:PIok P S w σ β p){x:VV}(hx:okY p.tys .s x=true)(τ:List G)(β':List (Nat×Nat)):a0g (a1s (σ++τ) β') x=some (.string (gG σ x).str):=by
 rw[h.sv hx];have:=(a3k h.ty hx).1;generalize gG σ x=g at this ⊢;cases g<;>simp only[TyOK]at this<;>try exact this.elim
 rfl
theorem PIok.new(h:PIok P S w σ β p){g:G}(τ:List G):(σ++g::τ).getD p.tys.length .d=g:=by rw[←h.len];exact a1W
theorem PIok.newI(h:PIok P S w σ β p){k:IntKind}{r:Int}(τ:List G)(β':List (Nat×Nat)):a0g (a1s (σ++ .i k r::τ) β') (.sint k p.tys.length)=some (.int k r):=by simp only[a0g,a1s,h.new τ,G.int]
theorem PIok.newS(h:PIok P S w σ β p){g:G}(hg:g.val.oneCell'=true)(τ:List G)(β':List (Nat×Nat)):a0g (a1s (σ++g::τ) β') (.sym p.tys.length)=some g.val:=by simp only[a0g,a1s,h.new τ,b4w hg]
theorem d4E{k:IntKind}{a m:Int}(h:k.min≤a∧a≤k.max)(hm:0<m):k.min≤a.fdiv m∧a.fdiv m≤k.max:=by
 have h0:k.min≤0∧0≤k.max:=by cases k<;>decide
 rw[Int.fdiv_eq_ediv_of_nonneg _ (Int.le_of_lt hm)];rcases Int.lt_or_le a 0 with ha|ha
 ·have h1:a≤a/m:=Int.le_ediv_of_mul_le hm (by
   have:=Int.mul_le_mul_of_nonpos_left (a:=a) (b:=m) (c:=1) (by omega) (by omega)
   omega)
  have h2:a/m<0:=Int.ediv_neg_of_neg_of_pos ha hm;omega
 ·have h1:0≤a/m:=Int.ediv_nonneg ha (Int.le_of_lt hm);have h2:a/m≤a:=Int.ediv_le_self m ha;omega
theorem c7j{a b:Int}(ha:0≤a):a%b≤a:=by
 have key: ∀{b:Int},0<b→a%b≤a:=fun{b} hb=>by have h1:=Int.emod_add_mul_ediv a b;have h2:=Int.mul_nonneg (Int.le_of_lt hb) (Int.ediv_nonneg ha (Int.le_of_lt hb));omega
 rcases Int.lt_or_le b 0 with hb|hb
 ·rw[←Int.emod_neg];exact key (by omega)
 ·by_cases h:b=0
  ·subst h
   simp
  ·exact key (by omega)
theorem d2c{k:IntKind}{a b:Int}(h:k.min≤a∧a≤k.max):k.min≤a.tmod b∧a.tmod b≤k.max:=by
 have h0:k.min≤0∧0≤k.max:=by cases k<;>decide
 rcases Int.lt_or_le a 0 with ha|ha
 ·have e:a.tmod b= -((-a).tmod b):=by rw[Int.neg_tmod,Int.neg_neg]
  have h1:0≤(-a).tmod b:=Int.tmod_nonneg b (by omega)
  have h2:(-a).tmod b≤ -a:=by rw[Int.tmod_eq_emod_of_nonneg (by omega)];exact c7j (by omega)
  omega
 ·have h1:0≤a.tmod b:=Int.tmod_nonneg b ha
  have h2:a.tmod b≤a:=by rw[Int.tmod_eq_emod_of_nonneg ha];exact c7j ha
  omega
theorem d8X{op:BinOp}{k:IntKind}{a b r:Int}(h:aop op k a b=some r)(ha:k.min≤a∧a≤k.max):k.min≤r∧r≤k.max:=by
 have hp: ∀n:Nat,(0:Int)<2^n:=fun n=>Int.pow_pos (by decide)
 cases op<;>simp only[aop]at h<;>first
  |(simp only[Option.some.injEq]at h;subst h;exact a7r _ _)
  |(split at h<;>first|(cases h;done)|(simp only[Option.some.injEq]at h;subst h;first|exact a7r _ _|exact d2c ha|exact d4E ha (hp _)))
  |cases h
theorem d5B{op:BinOp}{k k':IntKind}{a b r:Int}(h:aop op k a b=some r)(hk:k'=k∨op= .shl∨op= .shr)(P:Program)(t:TypeId)(w:World):(binOp op t (.int k a) (.int k' b)).run P w= .ok (.int k r) w:=by
 by_cases hs:op= .shl∨op= .shr
 ·rcases hs with rfl|rfl
  ·simp only[aop]at h;split at h
   ·cases h
   ·rename_i hb;simp only[Option.some.injEq]at h;subst h;simp only[binOp,Op.shift,if_neg hb];rfl
  ·simp only[aop]at h;split at h
   ·cases h
   ·rename_i hb;simp only[Option.some.injEq]at h;subst h;simp only[binOp,Op.shift,if_neg hb];rfl
 ·have hk:k'=k:=hk.elim id fun h=>absurd h hs;subst hk
  cases op<;>simp only[aop]at h<;>first
   |(simp only[Option.some.injEq]at h;subst h;simp[binOp,Op.intArith,Op.intBits];done)
   |(split at h<;>first|(cases h;done)|(rename_i hb;simp only[Option.some.injEq]at h;subst h;simp[binOp,Op.intDiv,hb];done))
   |(cases h;done)
   |(exact absurd (by simp) hs)
theorem d6E{op:UnOp}{k:IntKind}{a r:Int}(h:uop op k a=some r):k.min≤r∧r≤k.max:=by
 cases op<;>simp only[uop]at h<;>first
  |(simp only[Option.some.injEq]at h;subst h;exact a7r _ _)
  |cases h
theorem d2X{op:UnOp}{k:IntKind}{a r:Int}(h:uop op k a=some r)(P:Program)(w:World):(Op.unary op (.int k a)).run P w= .ok (.int k r) w:=by
 cases op<;>simp only[uop]at h<;>first
  |(simp only[Option.some.injEq]at h;subst h;simp[Op.unary,Op.intArith,Op.intBits];done)
  |cases h
theorem e1W{op:BinOp}{k:IntKind}{y:VV}:k2 op k y=k∨op= .shl∨op= .shr:=by cases op<;>simp[k2]
theorem d0x{k:IntKind}{r:Int}(h:k.min≤r∧r≤k.max):TyOK (.i k) (.i k r):=by simp only[TyOK];exact⟨trivial,h⟩
theorem d1Y{w:World}{k:IntKind}{r:Int}:GM w (.i k r):=by simp only[GM]
theorem e3C{w:World}{x:ByteArray}:GM w (.s x):=by simp only[GM]
theorem c8y(a b:ByteArray)(P:Program)(t:TypeId)(w:World):(binOp .eql t (.string a) (.string b)).run P w= .ok (.bool (decide (a=b))) w:=by
 have:(a.toList==b.toList)=decide (a=b):=by
  rw[ByteArray.toList_eq,ByteArray.toList_eq]
  by_cases h:a=b
  ·subst h
   simp
  ·rw[decide_eq_false h];rw[beq_eq_false_iff_ne];intro e;apply h;obtain⟨⟨a⟩⟩:=a;obtain⟨⟨b⟩⟩:=b;simp only at e;rw[e]
 rw[←this];simp[binOp,Op.stringOp]
theorem c8x(a b:ByteArray)(P:Program)(t:TypeId)(w:World):(binOp .neq t (.string a) (.string b)).run P w= .ok (.bool (!decide (a=b))) w:=by
 have:(a.toList==b.toList)=decide (a=b):=by
  rw[ByteArray.toList_eq,ByteArray.toList_eq]
  by_cases h:a=b
  ·subst h
   simp
  ·rw[decide_eq_false h];rw[beq_eq_false_iff_ne];intro e;apply h;obtain⟨⟨a⟩⟩:=a;obtain⟨⟨b⟩⟩:=b;simp only at e;rw[e]
 rw[←this];simp[binOp,Op.stringOp]
theorem c8z(a b:ByteArray)(h:((a++b).size:Int)≤9223372036854775807)(P:Program)(t:TypeId)(w:World):(binOp .add t (.string a) (.string b)).run P w= .ok (.string (a++b)) w:=by rw[ByteArray.size_append]at h;simp[binOp,Op.stringOp];omega
theorem PIok.isList(h:PIok P S w σ β p){ts:List Ty}{x:VV}(hx:okY p.tys (.l ts) x=true): ∃a c es,gG σ x= .l (.slice a es.length c) es∧TyLL ts es∧(es.length:Int)≤9223372036854775807∧es.length≤c∧((es= []∧(a=none∨c=0))∨ ∃B O,a=some ⟨B,O,none⟩∧(es= []∨(B<w.heap.size∧GME w B O es))):=by
 obtain⟨h1,h2,_⟩:=a3k h.ty hx;have h2:=h2 w h.mem;generalize gG σ x=g at h1 h2 ⊢;cases g<;>simp only[TyOK]at h1<;>try exact h1.elim
 rename_i v es;obtain⟨t1,t2,a,c,rfl,t3⟩:=h1;simp only[GM]at h2;obtain⟨a',c',e,h2⟩:=h2;cases e;exact⟨a,c,es,rfl,t1,t2,t3,h2⟩
theorem d3c{x:VV}(h:e1Q p x=true): ∃j ts,x= .sym j∧okY p.tys (.l ts) x=true:=by
 unfold e1Q at h;split at h
 ·rename_i j hj;split at h
  ·rename_i ts ht;cases x<;>simp only[d9E]at hj<;>cases hj;refine⟨j,ts,rfl, ?_⟩;unfold okY;simp only[ht]
   have: ∀l:List Ty,tyEqs l l=true:=fun l=>by
    have rf: ∀t:Ty,a4A t t=true:=fun t=>by exact Ty.rec (motive_1:=fun t=>a4A t t=true) (motive_2:=fun l=>tyEqs l l=true) (fun k=>by simp[a4A,c9w]) rfl rfl (fun l hl=>by simpa only[a4A]using hl) rfl (fun l hl=>by simpa only[a4A]using hl) rfl (fun t l h1 h2=>by simp only[tyEqs,h1,h2]) t
    induction l with
    |nil=>rfl
    |cons t l ih=>simp only[tyEqs,rf t,ih]
   exact this ts
  ·cases h
 ·cases h
theorem c6l{x:VV}{ts:List Ty}(h:d9a p x ts=true): ∃j,x= .sym j∧okY p.tys (.l ts) x=true:=by
 unfold d9a at h;split at h
 ·rename_i j hj;cases x<;>simp only[d9E]at hj<;>cases hj;exact⟨j,rfl,h⟩
 ·cases h
theorem c2s: ∀{n:Nat} {x:List G},x.length=n→a0z n x=x
 |0,[],_=>rfl
 |0,_::_,h=>by simp at h
 |n+1,[],h=>by simp at h
 |n+1,g::x,h=>by simp only[a0z,List.headD_cons,List.tail_cons];rw[c2s (by simpa using h)]
end
theorem sv1{ρ:Rho}{x:VV}{a:Value}(h:a0g ρ x=some a):a3S ρ [x]=some [a]:=by simp only[a3S,h]
theorem sv2{ρ:Rho}{x y:VV}{a b:Value}(h:a0g ρ x=some a)(k:a0g ρ y=some b):a3S ρ [x,y]=some [a,b]:=by simp only[a3S,h,k]
theorem sv3{ρ:Rho}{x y z:VV}{a b c:Value}(h:a0g ρ x=some a)(k:a0g ρ y=some b)(l:a0g ρ z=some c):a3S ρ [x,y,z]=some [a,b,c]:=by simp only[a3S,h,k,l]
theorem d7O{a b:IntKind}(h:c9w a b=true):a=b:=of_decide_eq_true h
theorem c6O{p:PI}{x y:VV}(h:d9W p x y=true): ∃k,okY p.tys (.i k) x=true∧okY p.tys (.i k) y=true:=by
 unfold d9W at h;split at h
 ·rename_i h1 h2;refine⟨b7p x,h2, ?_⟩;rw[d7O h1];exact h
 ·cases h
def d7Q:Vt→Prop
 |.goto _ _ _=>True|.ret _=>True|_=>False
section
variable{P:Program}{S:Nat→Prop}{w:World}{C:Nat→Ct}{leaf:PI→Vt→Bool}{Q:Res→Prop}
theorem d3d(k:IntKind)(a b:Int)(P:Program)(t:TypeId)(w:World):(binOp .lss t (.int k a) (.int k b)).run P w= .ok (.bool (decide (a<b))) w:=by simp[binOp,Op.intCmp]
theorem d4K(k:IntKind)(a b:Int)(P:Program)(t:TypeId)(w:World):(binOp .eql t (.int k a) (.int k b)).run P w= .ok (.bool (decide (a=b))) w:=by simp[binOp,Op.intCmp];rfl
theorem walk(hC: ∀c,CtOK P (C c))(hS: ∀a v,w.cell? a=some v→ ¬S a.block): ∀(t:Vt) {p:PI} {σ:List G} {β:List (Nat×Nat)},a0x C leaf t p=true→PIok P S w σ β p→wp C t σ Q→
  ∃t' p' τ γ us,d7Q t'∧leaf p' t'=true∧PIok P S w (σ++τ) (β++γ) p'∧p'.tys=p.tys++us∧wp C t' (σ++τ) Q
 |.bin op k x y t,p,σ,β,hc,h,hw=>by
  simp only[a0x]at hc;split at hc
  ·rename_i h1 h2;simp only[wp]at hw;obtain⟨r,hr,hw⟩:=hw
   have k1:=h.sym (t:=.i k) (g:=.i k r) (f:=.bin op x y (.sint k p.tys.length)) (d0x (d8X hr (c3v (a3k h.ty h1).1))) d1Y fun τ γ=>⟨_,_,_,h.svI h1 _ _,h.svI h2 _ _,h.newI τ _,(fun cs hh=>by cases hh),(fun hh=>by cases hh),fun P t w=>d5B hr e1W P t w⟩
   obtain⟨t',p',τ,γ,us,a1,a2,a3,a4,a5⟩:=walk hC hS t hc k1 hw;exact⟨t',p',[.i k r]++τ,γ,[.i k]++us,a1,a2,by rw[←List.append_assoc];exact a3,by rw[a4];show(p.tys++ [.i k])++us=_;rw[List.append_assoc],by rw[←List.append_assoc];exact a5⟩
  ·cases hc
 |.conv k x t,p,σ,β,hc,h,hw=>by
  simp only[a0x]at hc;split at hc
  ·rename_i h1;simp only[wp]at hw
   have k1:=h.sym (t:=.i k) (g:=.i k (k.wrap (gG σ x).int)) (f:=.fn (.conv k) [x] (.sint k p.tys.length)) (d0x (a7r _ _)) d1Y fun τ γ=>⟨[_],_,sv1 (h.svI h1 _ _),h.newI τ _,rfl⟩
   obtain⟨t',p',τ,γ,us,a1,a2,a3,a4,a5⟩:=walk hC hS t hc k1 hw;exact⟨t',p',[_]++τ,γ,[.i k]++us,a1,a2,by rw[←List.append_assoc];exact a3,by rw[a4];show(p.tys++ [.i k])++us=_;rw[List.append_assoc],by rw[←List.append_assoc];exact a5⟩
  ·cases hc
 |.un op k x t,p,σ,β,hc,h,hw=>by
  simp only[a0x]at hc;split at hc
  ·rename_i h1;simp only[wp]at hw;obtain⟨r,hr,hw⟩:=hw
   have k1:=h.sym (t:=.i k) (g:=.i k r) (f:=.fn (.un op) [x] (.sint k p.tys.length)) (d0x (d6E hr)) d1Y fun τ γ=>⟨[_],_,sv1 (h.svI h1 _ _),h.newI τ _,fun P w=>d2X hr P w⟩
   obtain⟨t',p',τ,γ,us,a1,a2,a3,a4,a5⟩:=walk hC hS t hc k1 hw;exact⟨t',p',[_]++τ,γ,[.i k]++us,a1,a2,by rw[←List.append_assoc];exact a3,by rw[a4];show(p.tys++ [.i k])++us=_;rw[List.append_assoc],by rw[←List.append_assoc];exact a5⟩
  ·cases hc
 |.lss x y t f,p,σ,β,hc,h,hw=>by
  simp only[a0x]at hc;split at hc
  ·rename_i h1 h2;obtain⟨k,x1,y1⟩:=c6O h1;simp only[wp]at hw
   have ft: ∀b,decide ((gG σ x).int<(gG σ y).int)=b→ ∀τ γ,FactOK (a1s (σ++τ) (β++γ)) (.bin .lss x y (.bool b)):=fun b hb τ γ=>⟨_,_,_,h.svI x1 _ _,h.svI y1 _ _,rfl,(fun cs hh=>by cases hh),(fun hh=>by cases hh),fun P t w=>by rw[d3d,hb]⟩
   by_cases hlt:(gG σ x).int<(gG σ y).int
   ·have r:=walk hC hS t h2 (h.fact (ft true (decide_eq_true hlt))) (hw.1 hlt);exact r
   ·have r:=walk hC hS f hc (h.fact (ft false (decide_eq_false hlt))) (hw.2 (by omega));exact r
  ·cases hc
 |.eql x y t f,p,σ,β,hc,h,hw=>by
  simp only[a0x]at hc;split at hc
  ·rename_i h1 h2;obtain⟨k,x1,y1⟩:=c6O h1;simp only[wp]at hw
   have ft: ∀b,decide ((gG σ x).int=(gG σ y).int)=b→ ∀τ γ,FactOK (a1s (σ++τ) (β++γ)) (.bin .eql x y (.bool b)):=fun b hb τ γ=>⟨_,_,_,h.svI x1 _ _,h.svI y1 _ _,rfl,(fun cs hh=>by cases hh),(fun hh=>by cases hh),fun P t w=>by rw[d4K,hb]⟩
   by_cases hlt:(gG σ x).int=(gG σ y).int
   ·have k1:=h.fact (ft true (decide_eq_true hlt))
    have k2:PIok P S w σ β ((p.fact (.bin .eql x y (.bool true))).pt x y):=by
     unfold PI.pt;split
     ·rename_i k' j k'' c;split
      ·rename_i k3 h3;split
       ·refine⟨k1.ty,k1.mem,k1.fs,k1.nb,k1.sb,k1.bs,fun q hq=> ?_,k1.bd,k1.calls⟩;rcases List.mem_cons.1 hq with rfl|hq
        ·refine⟨?_,hlt⟩;have:=c2N h3;rw[k1.len];exact this
        ·exact k1.pts q hq
       ·exact k1
      ·exact k1
     ·exact k1
    have e:((p.fact (.bin .eql x y (.bool true))).pt x y).tys=p.tys:=by
     unfold PI.pt;split
     ·split
      ·split<;>rfl
      ·rfl
     ·rfl
    obtain⟨t',p',τ,γ,us,a1,a2,a3,a4,a5⟩:=walk hC hS t h2 k2 (hw.1 hlt);exact⟨t',p',τ,γ,us,a1,a2,a3,by rw[a4,e],a5⟩
   ·have r:=walk hC hS f hc (h.fact (ft false (decide_eq_false hlt))) (hw.2 hlt);exact r
  ·cases hc
 |.eqs x y t f,p,σ,β,hc,h,hw=>by
  simp only[a0x]at hc;split at hc
  ·rename_i x1 y1 h2;simp only[wp]at hw
   have ft: ∀b,decide ((gG σ x).str=(gG σ y).str)=b→ ∀τ γ,FactOK (a1s (σ++τ) (β++γ)) (.bin .eql x y (.bool b)):=fun b hb τ γ=>⟨_,_,_,h.svS x1 _ _,h.svS y1 _ _,rfl,(fun cs hh=>by cases hh),(fun hh=>by cases hh),fun P t w=>by rw[c8y,hb]⟩
   have fn: ∀b c,decide ((gG σ x).str=(gG σ y).str)=b→c= !b→ ∀τ γ,FactOK (a1s (σ++τ) (β++γ)) (.bin .neq x y (.bool c)):=fun b c hb hc τ γ=>⟨_,_,_,h.svS x1 _ _,h.svS y1 _ _,rfl,(fun cs hh=>by cases hh),(fun hh=>by cases hh),fun P t w=>by rw[c8x,hb,hc]⟩
   by_cases hlt:(gG σ x).str=(gG σ y).str
   ·have r:=walk hC hS t h2 ((h.fact (ft true (decide_eq_true hlt))).fact (fn true false (decide_eq_true hlt) rfl)) (hw.1 hlt);exact r
   ·have r:=walk hC hS f hc ((h.fact (ft false (decide_eq_false hlt))).fact (fn false true (decide_eq_false hlt) rfl)) (hw.2 hlt);exact r
  ·cases hc
 |.fb j t f,p,σ,β,hc,h,hw=>by
  simp only[a0x]at hc;split at hc
  ·rename_i hj;split at hc
   ·rename_i h2;simp only[wp]at hw;rw[a0K]at hj;obtain⟨g,g1,g2⟩:=h.at hj;rw[getD_of g1]at hw;cases g<;>simp only[TyOK]at g2<;>try exact g2.elim
    rename_i b
    have go: ∀c,b=c→PIok P S w σ β {p with bs:=(j,c)::p.bs,fs:=.fn .isB [.sym j] (.bool c)::p.fs}:=fun c hbc=>by
     subst hbc;refine⟨h.ty,h.mem,fun f hf τ γ=> ?_,h.nb,h.sb,fun q hq=> ?_,h.pts,h.bd,h.calls⟩
     ·rcases List.mem_cons.1 hf with rfl|hf
      ·have e:a0g (a1s (σ++τ) (β++γ)) (.sym j)=some (.bool b):=by
        simp only[a0g,a1s];rw[a0N (List.getElem?_eq_some_iff.1 g1).1,getD_of g1];rfl
       exact⟨[.bool b],.bool b,by simp only[a3S,e],rfl,rfl⟩
      ·exact h.fs f hf τ γ
     ·rcases List.mem_cons.1 hq with rfl|hq
      ·exact g1
      ·exact h.bs q hq
    cases b with
    |true=>have r:=walk hC hS t h2 (go true rfl) (hw.1 rfl);exact r
    |false=>have r:=walk hC hS f hc (go false rfl) (hw.2 rfl);exact r
   ·cases hc
  ·cases hc
 |.len x t,p,σ,β,hc,h,hw=>by
  simp only[a0x]at hc;split at hc
  ·rename_i h1;obtain⟨j,ts,rfl,x1⟩:=d3c h1;obtain⟨a,c,es,e,_,e2,_,_⟩:=h.isList x1;simp only[wp]at hw;have el:(gG σ (.sym j)).len=es.length:=by rw[e];rfl
   have k1:=h.sym (t:=.i .i64) (g:=.i .i64 (gG σ (.sym j)).len) (f:=.len false (.sym j) (.sint .i64 p.tys.length)) (d0x (by rw[el];exact⟨by show(-9223372036854775808:Int)≤_;omega,by show _≤(9223372036854775807:Int);omega⟩)) d1Y fun τ γ=>⟨_,es.length,h.sv x1 (_::τ) _,by rw[e];exact⟨a,c,rfl⟩,by rw[h.newI τ,el]⟩
   obtain⟨t',p',τ,γ,us,a1,a2,a3,a4,a5⟩:=walk hC hS t hc k1 hw;exact⟨t',p',[_]++τ,γ,[.i .i64]++us,a1,a2,by rw[←List.append_assoc];exact a3,by rw[a4];show(p.tys++ [.i .i64])++us=_;rw[List.append_assoc],by rw[←List.append_assoc];exact a5⟩
  ·cases hc
 |.slen x t,p,σ,β,hc,h,hw=>by
  simp only[a0x]at hc;split at hc
  ·rename_i x1;simp only[wp]at hw
   have hb:((gG σ x).str.size:Int)≤9223372036854775807:=by have:=(a3k h.ty x1).1;generalize gG σ x=g at this ⊢;cases g<;>simp only[TyOK]at this<;>first|exact this.elim|exact this
   have k1:=h.sym (t:=.i .i64) (g:=.i .i64 (gG σ x).str.size) (f:=.len true x (.sint .i64 p.tys.length)) (d0x ⟨by show(-9223372036854775808:Int)≤_;omega,by show _≤(9223372036854775807:Int);omega⟩) d1Y fun τ γ=>⟨_,(gG σ x).str.size,h.svS x1 (_::τ) _,⟨_,rfl,rfl⟩,h.newI τ _⟩
   obtain⟨t',p',τ,γ,us,a1,a2,a3,a4,a5⟩:=walk hC hS t hc k1 hw;exact⟨t',p',[_]++τ,γ,[.i .i64]++us,a1,a2,by rw[←List.append_assoc];exact a3,by rw[a4];show(p.tys++ [.i .i64])++us=_;rw[List.append_assoc],by rw[←List.append_assoc];exact a5⟩
  ·cases hc
 |.elt x i ts t,p,σ,β,hc,h,hw=>by
  simp only[a0x]at hc;split at hc
  ·rename_i h1 i1;obtain⟨j,rfl,x1⟩:=c6l h1;obtain⟨a,c,es,e,e1,e2,_,e3⟩:=h.isList x1;simp only[wp]at hw;obtain⟨w1,w2,hw⟩:=hw;have el:(gG σ (.sym j)).len=es.length:=by rw[e];rfl
   rw[el]at w2;have hlt:(gG σ i).int.toNat<es.length:=by omega
   have hx:=List.getElem?_eq_getElem hlt
   have ex:b9g (gG σ (.sym j)) (gG σ i).int=es[(gG σ i).int.toNat]:=by unfold b9g;rw[e];exact getD_of hx
   have tx:=e1.at hx;rcases e3 with⟨e3,_⟩|⟨B,O,rfl,e3|⟨hB,e3⟩⟩
   ·subst e3;simp at hlt
   ·subst e3;simp at hlt
   ·have m1:=e3.at e1 hx;rw[ex,c2s tx.len]at hw;have k0:=(h.ext tx m1.gml)
    have k1:PIok P S w (σ++es[(gG σ i).int.toNat]) (β++ [(B,O+(gG σ i).int.toNat*ts.length)]) {p with tys:=p.tys++ts,fs:=.at ts.length (.sym j) i ⟨.sym p.nb,0⟩::p.fs,sb:=(p.nb,p.tys.length,ts)::p.sb,nb:=p.nb+1}:=by
     refine⟨k0.ty,k0.mem,fun f hf τ γ=> ?_,by rw[List.length_append,h.nb];rfl,fun q hq=> ?_,k0.bs,k0.pts,k0.bd,k0.calls⟩
     ·rcases List.mem_cons.1 hf with rfl|hf
      ·have eb:(β++ [(B,O+(gG σ i).int.toNat*ts.length)]++γ).getD p.nb (0,0)=(B,O+(gG σ i).int.toNat*ts.length):=by
        rw[List.append_assoc,←h.nb];exact a1W
       refine⟨⟨B,O,none⟩,es.length,c,b7p i,(gG σ i).int,p.nb, ?_,rfl, ?_,w1,w2,rfl, ?_, ?_⟩
       ·rw[List.append_assoc,h.sv x1,e];rfl
       ·rw[List.append_assoc];exact h.svI i1 _ _
       ·show((β++ [(B,O+(gG σ i).int.toNat*ts.length)]++γ).getD p.nb (0,0)).1=B;rw[eb]
       ·show((β++ [(B,O+(gG σ i).int.toNat*ts.length)]++γ).getD p.nb (0,0)).2+0=_;rw[eb];rfl
      ·rw[List.append_assoc β];exact k0.fs f hf τ _
     ·rcases List.mem_cons.1 hq with rfl|hq
      ·refine⟨B,O+(gG σ i).int.toNat*ts.length, ?_,hB,fun q t hq=> ?_⟩
       ·show(β++ [_])[p.nb]? =_;rw[←h.nb,List.getElem?_append_right (Nat.le_refl _)]
        simp
       ·obtain⟨g,g1,g2⟩:=tx.at hq;refine⟨?_, ?_⟩
        ·rw[(m1.cell g1).1]
         congr 2
         rw[List.getD_eq_getElem?_getD,List.getElem?_append_right (by rw[h.len];exact Nat.le_add_right _ _),h.len];show _=(es[(gG σ i).int.toNat][p.tys.length+q-p.tys.length]?).getD G.d;rw[Nat.add_sub_cancel_left,g1];rfl
        ·show(p.tys++ts)[p.tys.length+q]? =some t;rw[List.getElem?_append_right (Nat.le_add_right _ _),Nat.add_sub_cancel_left];exact hq
      ·obtain⟨B',O',b1,b2,b3⟩:=k0.sb q hq;refine⟨B',O', ?_,b2,b3⟩;rw[List.getElem?_append_left (List.getElem?_eq_some_iff.1 b1).1];exact b1
    obtain⟨t',p',τ,γ,us,a1,a2,a3,a4,a5⟩:=walk hC hS t hc k1 hw;exact⟨t',p',es[(gG σ i).int.toNat]++τ,[(B,O+(gG σ i).int.toNat*ts.length)]++γ,ts++us,a1,a2,by rw[←List.append_assoc σ,←List.append_assoc β];exact a3,by rw[a4];show(p.tys++ts)++us=_;rw[List.append_assoc],by rw[←List.append_assoc];exact a5⟩
  ·cases hc
 |.cat x y t,p,σ,β,hc,h,hw=>by
  simp only[a0x]at hc;split at hc
  ·rename_i x1 y1;simp only[wp]at hw;obtain⟨hb,hw⟩:=hw
   have k1:=h.sym (t:=.s) (g:=.s ((gG σ x).str++(gG σ y).str)) (f:=.bin .add x y (.sym p.tys.length)) (by simp only[TyOK];exact hb) e3C fun τ γ=>⟨_,_,_,h.svS x1 _ _,h.svS y1 _ _,h.newS rfl τ _,(fun cs hh=>by cases hh),(fun hh=>by cases hh),fun P t w=>c8z _ _ hb P t w⟩
   obtain⟨t',p',τ,γ,us,a1,a2,a3,a4,a5⟩:=walk hC hS t hc k1 hw;exact⟨t',p',[_]++τ,γ,[.s]++us,a1,a2,by rw[←List.append_assoc];exact a3,by rw[a4];show(p.tys++ [.s])++us=_;rw[List.append_assoc],by rw[←List.append_assoc];exact a5⟩
  ·cases hc
 |.sub x lo hi t,p,σ,β,hc,h,hw=>by
  simp only[a0x]at hc;split at hc
  ·rename_i x1 l1 u1;simp only[wp]at hw;obtain⟨b1,b2,b3,hw⟩:=hw;have hx:=(a3k h.ty x1).1
   have hsz:((gG σ x).str.size:Int)≤9223372036854775807:=by generalize gG σ x=g at hx ⊢;cases g<;>simp only[TyOK]at hx<;>first|exact hx.elim|exact hx
   have k1:=h.sym (t:=.s) (g:=.s ((gG σ x).str.extract (gG σ lo).int.toNat (gG σ hi).int.toNat)) (f:=.fn .cutS [x,lo,hi] (.sym p.tys.length)) (by
    simp only[TyOK];rw[ByteArray.size_extract]
    omega) e3C fun τ γ=>
    ⟨[_,_,_],_,sv3 (h.svS x1 _ _) (h.svI l1 _ _) (h.svI u1 _ _),h.newS rfl τ _,b1,b2,b3,rfl⟩
   obtain⟨t',p',τ,γ,us,a1,a2,a3,a4,a5⟩:=walk hC hS t hc k1 hw;exact⟨t',p',[_]++τ,γ,[.s]++us,a1,a2,by rw[←List.append_assoc];exact a3,by rw[a4];show(p.tys++ [.s])++us=_;rw[List.append_assoc],by rw[←List.append_assoc];exact a5⟩
  ·cases hc
 |.sidx x i t,p,σ,β,hc,h,hw=>by
  simp only[a0x]at hc;split at hc
  ·rename_i x1 i1;simp only[wp]at hw;obtain⟨b1,b2,hw⟩:=hw
   have hlt:(gG σ i).int.toNat<(gG σ x).str.data.toList.length:=by have:(gG σ x).str.data.toList.length=(gG σ x).str.size:=Array.length_toList;omega
   have k1:=h.sym (t:=.i .u8) (g:=.i .u8 (((gG σ x).str.data.toList.getD (gG σ i).int.toNat 0).toNat:Int)) (f:=.fn .sidx [x,i] (.sint .u8 p.tys.length)) (d0x (by
    have:((gG σ x).str.data.toList.getD (gG σ i).int.toNat 0).toNat<256:=UInt8.toNat_lt _
    exact⟨by show(0:Int)≤_;omega,by show _≤(255:Int);omega⟩)) d1Y fun τ γ=>
    ⟨[_,_],_,sv2 (h.svS x1 _ _) (h.svI i1 _ _),h.newI τ _,b1,_,by rw[List.getElem?_eq_getElem hlt],by rw[getD_of (List.getElem?_eq_getElem hlt)]⟩
   obtain⟨t',p',τ,γ,us,a1,a2,a3,a4,a5⟩:=walk hC hS t hc k1 hw;exact⟨t',p',[_]++τ,γ,[.i .u8]++us,a1,a2,by rw[←List.append_assoc];exact a3,by rw[a4];show(p.tys++ [.i .u8])++us=_;rw[List.append_assoc],by rw[←List.append_assoc];exact a5⟩
  ·cases hc
 |.cut ts x lo hi t,p,σ,β,hc,h,hw=>by
  simp only[a0x]at hc;split at hc
  ·rename_i h1 l1 u1;obtain⟨j,rfl,x1⟩:=c6l h1;obtain⟨a,c,es,e,e1,e2,ec,e3⟩:=h.isList x1;simp only[wp]at hw;have el:(gG σ (.sym j)).len=es.length:=by rw[e];rfl
   have ee:(gG σ (.sym j)).es=es:=by rw[e];rfl
   have ev:(gG σ (.sym j)).val= .slice a es.length c:=by rw[e];rfl
   rw[el,ee,ev]at hw;obtain⟨b1,b2,b3,hw⟩:=hw
   have sb: ∀{d:Int} {o:Option VV},okB p o=true→ ∀τ γ (n:Nat),d=n→b1t (a1s (σ++τ) γ) n o=some (a0l σ d o):=fun{d o} ho τ γ n hd=>by
    cases o with
    |none=>rw[hd];rfl
    |some u=>have:=h.svI (k:=b7p u) ho τ γ;simp only[b1t,this,a0l]
   have sl:=sb (d:=0) l1;have su:=sb (d:=(es.length:Int)) u1;generalize a0l σ 0 lo=m at*;generalize a0l σ (es.length:Int) hi=n at*
   have hl:((es.drop m.toNat).take (n.toNat-m.toNat)).length=n.toNat-m.toNat:=by rw[List.length_take,List.length_drop];omega
   have ht:TyOK (.l ts) (.l (cutV ts.length (.slice a es.length c) m n) ((es.drop m.toNat).take (n.toNat-m.toNat))):=by simp only[TyOK,cutV,hl];exact⟨e1.drop.take,by omega,_,_,rfl,by omega⟩
   have hm:GM w (.l (cutV ts.length (.slice a es.length c) m n) ((es.drop m.toNat).take (n.toNat-m.toNat))):=by
    simp only[GM,cutV,hl];refine⟨_,_,rfl, ?_⟩;rcases e3 with⟨rfl,h0⟩|⟨B,O,rfl,e3⟩
    ·left;refine⟨by simp, ?_⟩;rcases h0 with rfl|rfl
     ·exact .inl (by split<;>rfl)
     ·exact .inr (Nat.zero_sub _)
    ·right
     by_cases h0:(es.drop m.toNat).take (n.toNat-m.toNat)= []
     ·split
      ·exact⟨B,O,rfl,.inl h0⟩
      ·exact⟨B,O+m.toNat*ts.length,by show some (Addr.add ⟨B,O,none⟩ (m.toNat*ts.length))=_;rw[Addr.add_lit],.inl h0⟩
     ·have h1:0<n.toNat-m.toNat:=by
       rw[←hl];exact List.length_pos_iff.2 h0
      rw[if_neg (by omega)];refine⟨B,O+m.toNat*ts.length,by show some (Addr.add ⟨B,O,none⟩ (m.toNat*ts.length))=_;rw[Addr.add_lit], ?_⟩;rcases e3 with rfl|⟨hB,e3⟩
      ·simp at h0
      ·exact .inr ⟨hB,(e3.drop e1).take⟩
   have k1:=h.sym (t:=.l ts) (g:=.l (cutV ts.length (.slice a es.length c) m n) ((es.drop m.toNat).take (n.toNat-m.toNat))) (f:=.cut ts.length (.sym j) lo hi (.sym p.tys.length)) ht hm fun τ γ=>⟨a,es.length,c,m,n,by rw[h.sv x1,e];rfl,sl _ _ 0 rfl,su _ _ es.length rfl,b1,b2,by omega,h.newS ht.one τ _⟩
   obtain⟨t',p',τ,γ,us,a1,a2,a3,a4,a5⟩:=walk hC hS t hc k1 hw;exact⟨t',p',[_]++τ,γ,[.l ts]++us,a1,a2,by rw[←List.append_assoc];exact a3,by rw[a4];show(p.tys++ [.l ts])++us=_;rw[List.append_assoc],by rw[←List.append_assoc];exact a5⟩
  ·cases hc
 |.mn k x y t,p,σ,β,hc,h,hw=>by
  simp only[a0x]at hc;split at hc
  ·rename_i x1 y1;simp only[wp]at hw
   have hr:k.min≤(if(gG σ y).int<(gG σ x).int then(gG σ y).int else(gG σ x).int)∧(if(gG σ y).int<(gG σ x).int then(gG σ y).int else(gG σ x).int)≤k.max:=by
    have h1:=(a3k h.ty x1).1;have h2:=(a3k h.ty y1).1;have h1:=c3v h1;have h2:=c3v h2;split
    ·exact h2
    ·exact h1
   have k1:=h.sym (t:=.i k) (g:=.i k (if(gG σ y).int<(gG σ x).int then(gG σ y).int else(gG σ x).int)) (f:=.fn .min [x,y] (.sint k p.tys.length)) (d0x hr) d1Y fun τ γ=>⟨[_,_],_,sv2 (h.svI x1 _ _) (h.svI y1 _ _),h.newI τ _,rfl⟩
   obtain⟨t',p',τ,γ,us,a1,a2,a3,a4,a5⟩:=walk hC hS t hc k1 hw;exact⟨t',p',[_]++τ,γ,[.i k]++us,a1,a2,by rw[←List.append_assoc];exact a3,by rw[a4];show(p.tys++ [.i k])++us=_;rw[List.append_assoc],by rw[←List.append_assoc];exact a5⟩
  ·cases hc
 |.mx k x y t,p,σ,β,hc,h,hw=>by
  simp only[a0x]at hc;split at hc
  ·rename_i x1 y1;simp only[wp]at hw
   have hr:k.min≤(if(gG σ y).int>(gG σ x).int then(gG σ y).int else(gG σ x).int)∧(if(gG σ y).int>(gG σ x).int then(gG σ y).int else(gG σ x).int)≤k.max:=by
    have h1:=(a3k h.ty x1).1;have h2:=(a3k h.ty y1).1;have h1:=c3v h1;have h2:=c3v h2;split
    ·exact h2
    ·exact h1
   have k1:=h.sym (t:=.i k) (g:=.i k (if(gG σ y).int>(gG σ x).int then(gG σ y).int else(gG σ x).int)) (f:=.fn .max [x,y] (.sint k p.tys.length)) (d0x hr) d1Y fun τ γ=>⟨[_,_],_,sv2 (h.svI x1 _ _) (h.svI y1 _ _),h.newI τ _,rfl⟩
   obtain⟨t',p',τ,γ,us,a1,a2,a3,a4,a5⟩:=walk hC hS t hc k1 hw;exact⟨t',p',[_]++τ,γ,[.i k]++us,a1,a2,by rw[←List.append_assoc];exact a3,by rw[a4];show(p.tys++ [.i k])++us=_;rw[List.append_assoc],by rw[←List.append_assoc];exact a5⟩
  ·cases hc
 |.call c xs t,p,σ,β,hc,h,hw=>by
  simp only[a0x]at hc;split at hc
  ·rename_i h1;simp only[wp]at hw;obtain⟨hp,hw⟩:=hw;obtain⟨g1,g2⟩:=c0M h.ty h1;have rt:=(hC c).ty _ g1 hp;have rm:=c1r (w:=w) (hC c).pl rt;have k0:=h.ext rt rm
   have k1:PIok P S w (σ++(C c).post (xs.map (gG σ))) β {p with tys:=p.tys++a0F (C c).rs,calls:=⟨(C c).f,(C c).sh,xs,p.tys.length,(C c).rs⟩::p.calls}:=by
    refine⟨k0.ty,k0.mem,k0.fs,k0.nb,k0.sb,k0.bs,k0.pts,k0.bd,fun e he=> ?_⟩;rcases List.mem_cons.1 he with rfl|he
    ·refine⟨b4x h1,fun q t hq=> ?_,fun w' hs ho=> ?_⟩
     ·show(p.tys++a0F (C c).rs)[p.tys.length+q]? =_;rw[List.getElem?_append_right (Nat.le_add_right _ _),Nat.add_sub_cancel_left];exact hq
     ·have sub:Sub w w':=⟨hs,fun a v hv=>by
       rw[←hv];unfold World.cell?
       have hlt:a.block<w.heap.size:=by
        rcases Nat.lt_or_ge a.block w.heap.size with h|h
        ·exact h
        ·unfold World.cell? at hv;rw[Array.getElem?_eq_none h]at hv;cases hv
       rw[ho _ hlt (hS a v hv)]⟩
      rw[c0N h.ty h1]
      have e:a6v (σ++(C c).post (xs.map (gG σ))) p.tys.length (a0F (C c).rs).length=(C c).post (xs.map (gG σ)):=by unfold a6v;rw[←h.len,List.drop_left,←rt.len,List.take_length]
      rw[e];exact(hC c).ok w' _ g1 ((g2 w h.mem).sub sub) hp
    ·exact k0.calls e he
   obtain⟨t',p',τ,γ,us,a1,a2,a3,a4,a5⟩:=walk hC hS t hc k1 hw;exact⟨t',p',_++τ,γ,a0F (C c).rs++us,a1,a2,by rw[←List.append_assoc];exact a3,by rw[a4];show(p.tys++a0F (C c).rs)++us=_;rw[List.append_assoc],by rw[←List.append_assoc];exact a5⟩
  ·cases hc
 |.goto h m xs,p,σ,β,hc,hp,hw=>⟨.goto h m xs,p,[],[],[],trivial,hc,by rw[List.append_nil,List.append_nil];exact hp,by rw[List.append_nil],by rw[List.append_nil];exact hw⟩|.ret xs,p,σ,β,hc,hp,hw=>⟨.ret xs,p,[],[],[],trivial,hc,by rw[List.append_nil,List.append_nil];exact hp,by rw[List.append_nil],by rw[List.append_nil];exact hw⟩
 |.no,p,σ,β,hc,hp,hw=>by simp only[wp]at hw
end
end
end Go.Ev
