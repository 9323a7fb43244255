/- Engine, part 1: a function as an automaton: cuts at heads of loops, trees of cases between them. -/
import Derived.Test.YtmmmknhdigapkaaEv0
namespace Go.Ev
set_option linter.unusedVariables false
noncomputable section
open Go.RowKit
inductive TrX(α:Type) where
 |leaf (o:α)
 |cut (i:Nat) (c:Int) (l r:TrX α)
 |rel (k:IntKind) (i j:Nat) (l r:TrX α)
section
variable{α:Type}
def TrX.tr:TrX α→Tr
 |.leaf _=>.leaf|.cut i c l r=>.cut i c l.tr r.tr|.rel k i j l r=>.rel k i j l.tr r.tr
def a0p(out:Ivs→List Fact→α→Bool):TrX α→Ivs→List Fact→Bool
 |.leaf b,iv,fs=>out iv fs b
 |.cut i c l r,iv,fs=>match a0p out l (a2K iv i c) fs with
  |true=>a0p out r (a0n iv i (c+1)) fs|false=>false
 |.rel k i j l r,iv,fs=>match a0p out l iv (.bin .lss (.sint k i) (.sint k j) (.bool true)::fs)with
  |true=>a0p out r iv (.bin .lss (.sint k i) (.sint k j) (.bool false)::fs)|false=>false
def a2V:TrX α→(Nat→Int)→α
 |.leaf b,_=>b
 |.cut i c l r,v=>if v i≤c then a2V l v else a2V r v
 |.rel _ i j l r,v=>if v i<v j then a2V l v else a2V r v
theorem a0O{out:Ivs→List Fact→α→Bool}{i:Nat}{c:Int}{l r:TrX α}{iv:Ivs}{fs:List Fact}(h1:a0p out l (a2K iv i c) fs=true)(h2:a0p out r (a0n iv i (c+1)) fs=true):a0p out (.cut i c l r) iv fs=true:=by simp only[a0p,h1,h2]
theorem b1Z{out:Ivs→List Fact→α→Bool}{k:IntKind}{i j:Nat}{l r:TrX α}{iv:Ivs}{fs:List Fact}(h1:a0p out l iv (.bin .lss (.sint k i) (.sint k j) (.bool true)::fs)=true)(h2:a0p out r iv (.bin .lss (.sint k i) (.sint k j) (.bool false)::fs)=true):a0p out (.rel k i j l r) iv fs=true:=by simp only[a0p,h1,h2]
theorem b1i{out:Ivs→List Fact→α→Bool}{v:Nat→Int}: ∀{t:TrX α} {iv:Ivs} {fs:List Fact},a0p out t iv fs=true→out (a2W t.tr v iv fs).1 (a2W t.tr v iv fs).2 (a2V t v)=true
 |.leaf b,iv,fs,h=>h
 |.cut i c l r,iv,fs,h=>by
  simp only[a0p]at h;split at h
  ·rename_i h1;simp only[TrX.tr,a2W,a2V];split
   ·exact b1i h1
   ·exact b1i h
  ·cases h
 |.rel k i j l r,iv,fs,h=>by
  simp only[a0p]at h;split at h
  ·rename_i h1;simp only[TrX.tr,a2W,a2V];split
   ·exact b1i h1
   ·exact b1i h
  ·cases h
theorem a8P{ρ:Rho}: ∀{t:Tr} {iv:Ivs} {fs:List Fact},IvOK iv ρ→b1H fs ρ→IvOK (a2W t ρ.int iv fs).1 ρ∧b1H (a2W t ρ.int iv fs).2 ρ
 |.leaf,iv,fs,h1,h2=>⟨h1,h2⟩
 |.cut i c l r,iv,fs,h1,h2=>by
  simp only[a2W];split
  ·exact a8P (h1.hi ‹_›) h2
  ·exact a8P (h1.lo (by omega)) h2
 |.rel k i j l r,iv,fs,h1,h2=>by
  simp only[a2W];split
  ·rename_i hlt;refine a8P h1 fun f hf=> ?_;rcases List.mem_cons.1 hf with rfl|hf
   ·exact c7S (decide_eq_true hlt)
   ·exact h2 f hf
  ·rename_i hlt;refine a8P h1 fun f hf=> ?_;rcases List.mem_cons.1 hf with rfl|hf
   ·exact c7S (decide_eq_false hlt)
   ·exact h2 f hf
end
inductive Fr1 where
 |sq (y:Code) (n:Nat)
 |bk (id:Nat)
 |lp (c:Code) (n:Nat)
theorem d4v{a b:Nat}(h:a<b):Nat.blt a b=true:=Nat.ble_eq_true_of_le h
theorem a8W{a b:Nat}(h:Nat.blt a b=false):b≤a:=by
 rcases Nat.lt_or_ge a b with k|k
 ·rw[d4v k]at h;cases h
 ·exact k
theorem d8Q{a b:Nat}(h:b≤a):Nat.blt a b=false:=by
 cases hb:Nat.blt a b with
 |false=>rfl
 |true=>exact absurd (a0G hb) (by omega)
theorem d4x{a b:Nat}(h:a≠b):Nat.beq a b=false:=by
 cases hb:Nat.beq a b with
 |false=>rfl
 |true=>exact absurd (Nat.eq_of_beq_eq_true hb) h
def nl:Code→Nat
 |.seq x y=>nl x+nl y|.cond _ x y=>nl x+nl y|.block _ c=>nl c|.loop c=>nl c+1|_=>0
def ctx(t:Nat):Code→Nat→List Fr1→Option (Code×List Fr1)
 |.seq x y,n,K=>match Nat.blt t (n+nl x)with
  |true=>ctx t x n (.sq y (n+nl x)::K)|false=>ctx t y (n+nl x) K
 |.cond _ x y,n,K=>match Nat.blt t (n+nl x)with
  |true=>ctx t x n K|false=>ctx t y (n+nl x) K
 |.block id c,n,K=>ctx t c n (.bk id::K)
 |.loop c,n,K=>match Nat.beq t n with
  |true=>some (c,K)|false=>ctx t c (n+1) (.lp c n::K)
 |_,_,_=>none
inductive Pop where
 |code (y:Code) (n:Nat) (K:List Fr1)
 |head (n:Nat)
 |done (x:VX)
def pop:VX→List Fr1→Pop
 |x,[]=>.done x
 |x,.sq y n::K=>match x with
  |.normal=>.code y n K|x=>pop x K
 |x,.bk id::K=>match x with
  |.exit j=>match Nat.beq j id with
   |true=>pop .normal K|false=>pop (.exit j) K
  |x=>pop x K
 |x,.lp _ n::K=>match x with
  |.normal=>.head n|x=>pop x K
inductive SegO where
 |cut (t:Nat) (a:VT) (H:VH)
 |out (x:VX) (a:VT) (H:VH)
def c7M(S:List Nat)(n:Nat):Nat→Bool
 |0=>false
 |m+1=>match a9z n S with
  |true=>true|false=>c7M S (n+1) m
def seg(rc:CE)(nt:Nat)(S:List Nat):Nat→Code→Nat→List Fr1→VT→VH→Option SegO
 |0,_,_,_,_,_=>none
 |f+1,c,n,K,a,H=>match c7M S n (nl c)with
  |false=>match rc nt c a H with
   |some (x,a',H')=>match pop x K with
    |.code y n K=>seg rc nt S f y n K a' H'|.head n=>some (.cut n a' H')|.done x=>some (.out x a' H')
   |none=>none
  |true=>match c with
   |.seq x y=>seg rc nt S f x n (.sq y (n+nl x)::K) a H|.block id c=>seg rc nt S f c n (.bk id::K) a H
   |.cond o x y=>match a0A a o with
    |some (.bool b)=>match b with
     |true=>seg rc nt S f x n K a H|false=>seg rc nt S f y (n+nl x) K a H
    |_=>none
   |.loop _=>some (.cut n a H)|_=>none
section
variable{P:Program}{Q:Exit→Act→World→Prop}{HD:Nat→Act→World→Prop}
def a0S(P:Program)(HD:Nat→Act→World→Prop)(Q:Exit→Act→World→Prop):List Fr1→Exit→Act→World→Prop
 | [],e,act,w=>Q e act w|.sq y _::K,e,act,w=>Exit.then (y.wpIn (Fr none) 0 P (a0S P HD Q K)) (a0S P HD Q K) e act w|.bk id::K,e,act,w=>Exit.inBlock id (a0S P HD Q K) e act w|.lp _ n::K,e,act,w=>Exit.then (HD n) (a0S P HD Q K) e act w
theorem a4C{K K':Act→World→Prop}{Q Q':Exit→Act→World→Prop}(h1: ∀act w,K act w→K' act w)(h2: ∀e act w,Q e act w→Q' e act w): ∀e act w,Exit.then K Q e act w→Exit.then K' Q' e act w:=by intro e act w h;cases e<;>simp only[Exit.then]at h ⊢ <;>first|exact h1 _ _ h|exact h2 _ _ _ h
theorem b7z{id:Nat}{Q Q':Exit→Act→World→Prop}(h2: ∀e act w,Q e act w→Q' e act w): ∀e act w,Exit.inBlock id Q e act w→Exit.inBlock id Q' e act w:=by intro e act w h;cases e<;>simp only[Exit.inBlock]at h ⊢ <;>first|exact h2 _ _ _ h|(split at h<;>rename_i hh<;>simp only[hh,if_true,if_false]<;>exact h2 _ _ _ h)
theorem a1k{HD HD':Nat→Act→World→Prop}{Q:Exit→Act→World→Prop}(h: ∀n act w,HD n act w→HD' n act w): ∀(K:List Fr1) e act w,a0S P HD Q K e act w→a0S P HD' Q K e act w
 | [],e,act,w,k=>k|.sq y n::K,e,act,w,k=>a4C (fun act w k=>wpIn_mono k (a1k h K)) (a1k h K) e act w k|.bk id::K,e,act,w,k=>b7z (a1k h K) e act w k|.lp c n::K,e,act,w,k=>a4C (h n) (a1k h K) e act w k
def At1(body:Code)(c:Code)(n:Nat)(K:List Fr1):Prop:= ∀t,n≤t→t<n+nl c→ctx t body 0 []=ctx t c n K
def KOK(body:Code):List Fr1→Prop
 | []=>True|.sq y n::K=>At1 body y n K∧KOK body K|.bk _::K=>KOK body K|.lp _ _::K=>KOK body K
theorem At1.seq{body x y:Code}{n:Nat}{K:List Fr1}(h:At1 body (.seq x y) n K):At1 body x n (.sq y (n+nl x)::K)∧At1 body y (n+nl x) K:=by
 refine⟨fun t h1 h2=> ?_,fun t h1 h2=> ?_⟩
 ·rw[h t h1 (by simp only[nl];omega)];have:Nat.blt t (n+nl x)=true:=d4v h2;simp only[ctx,this]
 ·rw[h t (by omega) (by simp only[nl];omega)];have:Nat.blt t (n+nl x)=false:=d8Q h1;simp only[ctx,this]
theorem At1.cond{body x y:Code}{o:Operand}{n:Nat}{K:List Fr1}(h:At1 body (.cond o x y) n K):At1 body x n K∧At1 body y (n+nl x) K:=by
 refine⟨fun t h1 h2=> ?_,fun t h1 h2=> ?_⟩
 ·rw[h t h1 (by simp only[nl];omega)];have:Nat.blt t (n+nl x)=true:=d4v h2;simp only[ctx,this]
 ·rw[h t (by omega) (by simp only[nl];omega)];have:Nat.blt t (n+nl x)=false:=d8Q h1;simp only[ctx,this]
theorem At1.block{body c:Code}{id n:Nat}{K:List Fr1}(h:At1 body (.block id c) n K):At1 body c n (.bk id::K):=fun t h1 h2=>by rw[h t h1 (by simpa only[nl]using h2)];simp only[ctx]
theorem At1.loop{body c:Code}{n:Nat}{K:List Fr1}(h:At1 body (.loop c) n K):ctx n body 0 []=some (c,K)∧At1 body c (n+1) (.lp c n::K):=by
 refine⟨?_,fun t h1 h2=> ?_⟩
 ·rw[h n (Nat.le_refl _) (by simp only[nl];omega)];have:Nat.beq n n=true:=by simp
  simp only[ctx,this]
 ·rw[h t (by omega) (by simp only[nl];omega)]
  have:Nat.beq t n=false:=by exact d4x (by omega)
  simp only[ctx,this]
theorem b0V{body:Code}: ∀{x:Code} {n:Nat} {K:List Fr1} {t:Nat} {c:Code} {K':List Fr1},At1 body x n K→KOK body K→n≤t→t<n+nl x→ctx t x n K=some (c,K')→At1 body (.loop c) t K'∧KOK body K'
 |.seq x y,n,K,t,c,K',h,hk,h1,h2,hc=>by
  simp only[ctx]at hc;simp only[nl]at h2;split at hc
  ·rename_i hb;exact b0V h.seq.1 ⟨h.seq.2,hk⟩ h1 (a0G hb) hc
  ·rename_i hb;exact b0V h.seq.2 hk (a8W hb) (by omega) hc
 |.cond o x y,n,K,t,c,K',h,hk,h1,h2,hc=>by
  simp only[ctx]at hc;simp only[nl]at h2;split at hc
  ·rename_i hb;exact b0V h.cond.1 hk h1 (a0G hb) hc
  ·rename_i hb;exact b0V h.cond.2 hk (a8W hb) (by omega) hc
 |.block id x,n,K,t,c,K',h,hk,h1,h2,hc=>by simp only[ctx]at hc;simp only[nl]at h2;exact b0V (K:=.bk id::K) h.block hk h1 h2 hc
 |.loop x,n,K,t,c,K',h,hk,h1,h2,hc=>by
  simp only[ctx]at hc;simp only[nl]at h2;split at hc
  ·rename_i hb;have e:=Nat.eq_of_beq_eq_true hb;subst e;simp only[Option.some.injEq,Prod.mk.injEq]at hc;obtain⟨rfl,rfl⟩:=hc;exact⟨h,hk⟩
  ·rename_i hb;have:t≠n:=fun e=>by rw[e]at hb;simp at hb
   exact b0V (K:=.lp x n::K) h.loop.2 hk (by omega) (by omega) hc
 |.skip,n,K,t,c,K',h,hk,h1,h2,hc=>by simp[ctx]at hc
 |.region ..,n,K,t,c,K',h,hk,h1,h2,hc=>by simp[ctx]at hc
 |.exit _,n,K,t,c,K',h,hk,h1,h2,hc=>by simp[ctx]at hc
 |.ret,n,K,t,c,K',h,hk,h1,h2,hc=>by simp[ctx]at hc
 |.rangeFunc ..,n,K,t,c,K',h,hk,h1,h2,hc=>by simp[ctx]at hc
 |.goto _,n,K,t,c,K',h,hk,h1,h2,hc=>by simp[ctx]at hc
 |.label _,n,K,t,c,K',h,hk,h1,h2,hc=>by simp[ctx]at hc
end
end
end Go.Ev
