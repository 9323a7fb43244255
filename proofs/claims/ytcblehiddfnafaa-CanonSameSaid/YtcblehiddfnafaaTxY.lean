/-
  Chapter 28: equality of effects and of players.
-/
import Derived.Test.YtcblehiddfnafaaTxX
import Derived.Laws.StructEq
import Derived.ChangeKeysEq
import Derived.Test.YtcblehiddfnafaaTxQ
namespace Go.Proofs.Ytcblehiddfnafaa.canonSame
open Go.Shelf Go.RowKit Go.Lib Go.Sort
theorem b8v(x y:Efd)(W:World):Sem.run Try.prog (Op.equalIn 10000 97 (.agg (efV x).toArray) (.agg (efV y).toArray)) W= .ok (decide (x=y)) W:=by
 have u3:=Try.underlying3
 have a3:=Try.isAgg3
 have z3:=Try.sizeOf3
 have hS:Try.prog.underlying 97=some (.struct (Try.prog.fieldsOf 97)):=by kernel_rfl
 have hp:Try.prog.stoodInHeld 97=false:=by kernel_rfl
 rw[show(10000:Nat)=9999+1 from rfl,run_equalIn_agg W 9999 97 _ _ hS hp]
 simp only[Program.fieldsOf,Try.underlying97]
 obtain⟨a,b,c,d⟩:=x
 obtain⟨a',b',c',d'⟩:=y
 simp only[efV]
 by_cases h1:a=a'<;>by_cases h2:b=b'<;>by_cases h3:c=c'<;>by_cases h4:d=d'<;>go_simp
theorem b8y(a b c d a' b' c' d':Int)(W:World):Sem.run Try.prog (Op.equalIn 9999 64 (.agg #[.int .i64 a,.int .i64 b,.int .i64 c,.int .i64 d]) (.agg #[.int .i64 a',.int .i64 b',.int .i64 c',.int .i64 d'])) W= .ok (decide ((a,b,c,d)=(a',b',c',d'))) W:=by
 have u3:=Try.underlying3
 have a3:=Try.isAgg3
 have z3:=Try.sizeOf3
 have hc:Try.prog.cellsOf 3=1:=by kernel_rfl
 obtain⟨i,z,hi,_⟩:=b5I
 rw[show(9999:Nat)=9998+1 from rfl,run_equalIn_array W 9998 _ _ Try.underlying64 hi,hc]
 have hr:List.range 4= [0,1,2,3]:=by decide
 rw[hr]
 simp only[Op.eqItems]
 clear hr hi hc
 by_cases h1:a=a'<;>by_cases h2:b=b'<;>by_cases h3:c=c'<;>by_cases h4:d=d'<;>go_simp
theorem b8x(x y:Pld)(W:World):Sem.run Try.prog (Op.equalIn 10000 66 (.agg (plV x).toArray) (.agg (plV y).toArray)) W= .ok (decide (x=y)) W:=by
 have u3:=Try.underlying3
 have a3:=Try.isAgg3
 have z3:=Try.sizeOf3
 have u4:=Try.underlying4
 have a4:=Try.isAgg4
 have z4:=Try.sizeOf4
 have a64:=Try.isAgg64
 have z64:=Try.sizeOf64
 have hS:Try.prog.underlying 66=some (.struct (Try.prog.fieldsOf 66)):=by kernel_rfl
 have hp:Try.prog.stoodInHeld 66=false:=by kernel_rfl
 rw[show(10000:Nat)=9999+1 from rfl,run_equalIn_agg W 9999 66 _ _ hS hp]
 simp only[Program.fieldsOf,Try.underlying66]
 obtain⟨l,a,b,c,d,p,q,r⟩:=x
 obtain⟨l',a',b',c',d',p',q',r'⟩:=y
 have q64:=b8y a b c d a' b' c' d'
 have hd:decide ((⟨l,a,b,c,d,p,q,r⟩:Pld)=⟨l',a',b',c',d',p',q',r'⟩)=(decide (l=l')&&(decide ((a,b,c,d)=(a',b',c',d'))&&(decide (p=p')&&(decide (q=q')&&decide (r=r'))))):=by
  rw[Bool.eq_iff_iff]
  simp only[decide_eq_true_eq,Bool.and_eq_true,Pld.mk.injEq,Prod.mk.injEq]
  constructor
  ·rintro⟨h1,h2,h3,h4,h5,h6⟩
   exact⟨h1,⟨h2,h3,h4,h5⟩,h6⟩
  ·rintro⟨h1,⟨h2,h3,h4,h5⟩,h6⟩
   exact⟨h1,h2,h3,h4,h5,h6⟩
 rw[hd]
 clear hd
 generalize decide ((a,b,c,d)=(a',b',c',d'))=m at q64 ⊢
 simp only[plV]
 by_cases h1:l=l'<;>cases m<;>by_cases h3:p=p'<;>by_cases h4:q=q'<;>by_cases h5:r=r'<;>go_simp
end Go.Proofs.Ytcblehiddfnafaa.canonSame
namespace Go.Proofs.Ytcblehiddfnafaa.canonSame
open Go.Shelf Go.RowKit Go.Lib Go.Sort
theorem ne97(x y:Efd)(W:World):Sem.run Try.prog (binOp .neq 97 (.agg (efV x).toArray) (.agg (efV y).toArray)) W= .ok (.bool (!(decide (x=y)))) W:=by
 rw[run_neq_struct,b8v]
 rfl
theorem ne66(x y:Pld)(W:World):Sem.run Try.prog (binOp .neq 66 (.agg (plV x).toArray) (.agg (plV y).toArray)) W= .ok (.bool (!(decide (x=y)))) W:=by
 rw[run_neq_struct,b8x]
 rfl
theorem g97: ∀s t (xs ys:Array Value) W,Sem.run Try.prog (eqGuard .neq 97 s t (.agg xs) (.agg ys)) W= .ok () W:=fun s t xs ys W=>run_eqGuard_agg W .neq 97 s t xs ys (by kernel_rfl)
theorem g66: ∀s t (xs ys:Array Value) W,Sem.run Try.prog (eqGuard .neq 66 s t (.agg xs) (.agg ys)) W= .ok () W:=fun s t xs ys W=>run_eqGuard_agg W .neq 66 s t xs ys (by kernel_rfl)
abbrev En(n:Nat):Prop:= ∀args w,(callFunc n args).run Try.prog w= .ok (.enter n args) w
theorem en7:En 7:=enters_of Try.func7 (by kernel_rfl) rfl
theorem en8:En 8:=enters_of Try.func8 (by kernel_rfl) rfl
theorem en9:En 9:=enters_of Try.func9 (by kernel_rfl) rfl
theorem b9l:En 10:=enters_of Try.func10 (by kernel_rfl) rfl
theorem b9k:En 11:=enters_of Try.func11 (by kernel_rfl) rfl
theorem b9j:En 12:=enters_of Try.func12 (by kernel_rfl) rfl
theorem b9i:En 13:=enters_of Try.func13 (by kernel_rfl) rfl
theorem b9h:En 14:=enters_of Try.func14 (by kernel_rfl) rfl
theorem en6:En 6:=enters_of Try.func6 (by kernel_rfl) rfl
theorem b9g:En 15:=enters_of Try.func15 (by kernel_rfl) rfl
theorem b9f:En 16:=enters_of Try.func16 (by kernel_rfl) rfl
theorem b9e:En 17:=enters_of Try.func17 (by kernel_rfl) rfl
theorem b9d:En 18:=enters_of Try.func18 (by kernel_rfl) rfl
theorem b9c:En 19:=enters_of Try.func19 (by kernel_rfl) rfl
theorem b9b:En 20:=enters_of Try.func20 (by kernel_rfl) rfl
theorem b9a:En 28:=enters_of Try.func28 (by kernel_rfl) rfl
theorem b9Z:En 29:=enters_of Try.func29 (by kernel_rfl) rfl
theorem b9Y:En 30:=enters_of Try.func30 (by kernel_rfl) rfl
theorem b9X:En 31:=enters_of Try.func31 (by kernel_rfl) rfl
theorem b8Z:En 32:=enters_of Try.func32 (by kernel_rfl) rfl
theorem b9W:En 33:=enters_of Try.func33 (by kernel_rfl) rfl
theorem b9V:En 34:=enters_of Try.func34 (by kernel_rfl) rfl
theorem b9U:En 35:=enters_of Try.func35 (by kernel_rfl) rfl
theorem b9T:En 37:=enters_of Try.func37 (by kernel_rfl) rfl
theorem b9S:En 38:=enters_of Try.func38 (by kernel_rfl) rfl
theorem b9R:En 39:=enters_of Try.func39 (by kernel_rfl) rfl
theorem b9Q:En 40:=enters_of Try.func40 (by kernel_rfl) rfl
theorem b7g:En 41:=enters_of Try.func41 (by kernel_rfl) rfl
theorem b9P:En 42:=enters_of Try.func42 (by kernel_rfl) rfl
theorem b8Y:En 43:=enters_of Try.func43 (by kernel_rfl) rfl
theorem b9O:En 44:=enters_of Try.func44 (by kernel_rfl) rfl
theorem b8X:En 45:=enters_of Try.func45 (by kernel_rfl) rfl
theorem b9E:En 68:=enters_of Try.func68 (by kernel_rfl) rfl
theorem b8V:En 69:=enters_of Try.func69 (by kernel_rfl) rfl
theorem b9D:En 70:=enters_of Try.func70 (by kernel_rfl) rfl
theorem b8U:En 71:=enters_of Try.func71 (by kernel_rfl) rfl
theorem a5U{w:World}{lo hh:Nat}(hhh:hh≤w.heap.size){W:World}(h:Below w.heap.size w W):Kp lo hh w W:=(Kp.below h lo).mono (Nat.le_refl _) hhh
theorem b4K(A:Lcs)(S:Std)(w:World)(hB:Bo S){lo hh:Nat}(hhh:hh≤w.heap.size)(hI:StI lo hh w A S):
  Calls Try.prog 7 #[.agg (stV A S).toArray] w fun e w'=> ∃lv,e= .returned lv∧w'.ownsRow w.heap.size 3 1 lv (ord S).length (a0J (ord S))∧Below w.heap.size w w':=by
 have ho:S.obs.length≤900:=by have:=hB.obs;omega
 exact b0I a1L (by decide) rfl rfl rfl Try.func7 b9e b9d b9c b9b b5I a9K A S w hB hhh hI
  (fun ia ids ic lv l W bs h1 h2 h3 h4 h5 h6 h7=>b5s a1L rfl rfl b5I A S w hhh hI ho ia ids ic lv l W bs h1 h2 h3 h4 h5 h6 h7)
  (fun A ls p W h=>b8D A ls p W h)
  (fun n W h=>find_ok a1L rfl Try.func19 A S W (Nat.le_trans hhh h.size) (hI.kp (a5U hhh h)) ho n)
  (fun v l n W bs h1 h2=>by
   obtain⟨a,c,rfl⟩:=a0o h2
   exact a9M l a c n W (by omega) (RowsI.rows (a0u (f:=fun n:Int=>[Value.int .i64 n]) (by rw[a1D];exact h2) rfl fun _=>rfl) (Nat.le_refl _)))
theorem b4D(A:Lcs)(S:Std)(w:World)(hB:Bd S){lo hh:Nat}(hhh:hh≤w.heap.size)(hI:StI lo hh w A S):
  Calls Try.prog 40 #[.agg (stV A S).toArray] w fun e w'=> ∃A',e= .returned (.agg (stV A' S).toArray)∧StI w.heap.size w'.heap.size w' A' S∧Below w.heap.size w w':=
 b2B a1L (by decide) rfl rfl rfl rfl Try.func40 b9E b8V b9D b8U b7Q b5y b7P
  (fun A ls w h1 h2 _ _ h3 h4=>a7x a1L Try.func68 Try.func69 b8V b5I b0R A ls w h1 h2 h3 h4)
  (fun ia l ic w h1 _ _ h2=>a7T a1L Try.func69 b5I ia l ic w h1 h2)
  (fun A xs w h1 h2 _ _ h3 h4=>a8A a1L rfl rfl Try.func70 Try.func71 b8U a9K b4g A xs w h1 h2 h3 h4)
  (fun ia l ic w h1 _ _ h2=>a5r a1L Try.func71 b4g ia l ic w h1 h2)
  A S w hB hhh hI
theorem h41: ∀(oa:Option Addr) (l:List Int) (oc:Nat) (n:Int) (W:World) (lo hh:Nat) (_:l.length≤900) (_:hh≤W.heap.size) (_:a2o lo hh W oa l),Calls Try.prog 41 #[.slice oa l.length oc,.int .i64 n] W fun e w'=>e= .returned (.int .i64 (nam l n))∧w'=W:=fun oa l oc n W lo hh h1 h2 h3=>b5q oa l oc n W lo hh h1 h2 h3
theorem h43: ∀(oa:Option Addr) (o:List Int) (oc:Nat) (ia:Option Addr) (l:List Int) (ic:Nat) (w:World) (lo hh lo' hh':Nat) (_:o.length≤900) (_:l.length≤900) (_:hh≤w.heap.size) (_:hh'≤w.heap.size) (_:a2o lo hh w oa o) (_:a2o lo' hh' w ia l),Calls Try.prog 43 #[.slice oa o.length oc,.slice ia l.length ic] w fun e w'=> ∃lv,e= .returned lv∧w'.ownsRow w.heap.size 3 1 lv l.length (a0J (l.map (nam o)))∧Below w.heap.size w w':=
 fun oa o oc ia l ic w lo hh lo' hh' h1 h2 h3 h4 h5 h6=>b4Q a1L Try.func43 b7g b5I h41 oa o oc ia l ic w lo hh lo' hh' h1 h2 h3 h4 h5 h6
theorem h45: ∀(oa:Option Addr) (o:List Int) (oc:Nat) (ia:Option Addr) (l:List (Int×Int)) (ic:Nat) (w:World) (lo hh lo' hh':Nat) (_:o.length≤900) (_:l.length≤900) (_:hh≤w.heap.size) (_:hh'≤w.heap.size) (_:a2o lo hh w oa o) (_:a9n lo' hh' w ia l),Calls Try.prog 45 #[.slice oa o.length oc,.slice ia l.length ic] w fun e w'=> ∃lv,e= .returned lv∧w'.ownsRow w.heap.size 45 2 lv l.length (a3F (l.map fun p=>(p.1,nam o p.2)))∧Below w.heap.size w w':=
 fun oa o oc ia l ic w lo hh lo' hh' h1 h2 h3 h4 h5 h6=>b1W a1L Try.func45 b7g b4g h41 oa o oc ia l ic w lo hh lo' hh' h1 h2 h3 h4 h5 h6
theorem h42: ∀(oa:Option Addr) (o:List Int) (oc:Nat) (A:Loc) (ls:List (List Int)) (w:World) (lo hh lo' hh':Nat) (_:o.length≤900) (_:ls.length≤900) (_: ∀l∈ls,l.length≤900) (_:hh≤w.heap.size) (_:hh'≤w.heap.size) (_:a2o lo hh w oa o) (_:LstI lo' hh' w A ls),Calls Try.prog 42 #[.slice oa o.length oc,.slice A.a ls.length A.c] w fun e w'=> ∃A':Loc,e= .returned (.slice A'.a ls.length A'.c)∧LstI w.heap.size w'.heap.size w' A' (ls.map (·.map (nam o)))∧Below w.heap.size w w':=
 fun oa o oc A ls w lo hh lo' hh' h1 h2 h3 h4 h5 h6 h7=>b4V a1L Try.func42 b8Y b0R h43 oa o oc A ls w lo hh lo' hh' h1 h2 h3 h4 h5 h6 h7
theorem h44: ∀(oa:Option Addr) (o:List Int) (oc:Nat) (A:Loc) (xs:List Itm) (w:World) (lo hh lo' hh':Nat) (_:o.length≤900) (_:xs.length≤900) (_: ∀x∈xs,x.ts.length≤900) (_:hh≤w.heap.size) (_:hh'≤w.heap.size) (_:a2o lo hh w oa o) (_:ItsI lo' hh' w A xs),Calls Try.prog 44 #[.slice oa o.length oc,.slice A.a xs.length A.c] w fun e w'=> ∃A':Loc,e= .returned (.slice A'.a xs.length A'.c)∧ItsI w.heap.size w'.heap.size w' A' (xs.map (nmI (nam o)))∧Below w.heap.size w w':=
 fun oa o oc A xs w lo hh lo' hh' h1 h2 h3 h4 h5 h6 h7=>b4Y a1L rfl rfl Try.func44 b7g b8X a9K h41 h45 oa o oc A xs w lo hh lo' hh' h1 h2 h3 h4 h5 h6 h7
theorem a7J(A:Lcs)(S:Std)(w:World)(hB:Bd S)(hO:Bo S){lo hh:Nat}(hhh:hh≤w.heap.size)(hI:StI lo hh w A S):
  Calls Try.prog 11 #[.agg (stV A S).toArray] w fun e w'=> ∃A',e= .returned (.agg (stV A' (a6t (nam (ord S)) S)).toArray)∧StI w.heap.size w'.heap.size w' A' (a6t (nam (ord S)) S)∧Below w.heap.size w w':=
 a8x a1L (by decide) rfl rfl rfl rfl Try.func11 en7 b9Q b7g b9P b8Y b9O b8X b5y h41 h42 h43 h44 h45 A S w hB (by have:=b2f hO;omega) hhh hI
  (fun W h=>b4K A S W hO (Nat.le_trans hhh h.size) (hI.kp (a5U hhh h)))
  (fun W h=>b4D A S W hB (Nat.le_trans hhh h.size) (hI.kp (a5U hhh h)))
theorem a6R(o:List Int):nmF (nmO o)=nam o:=funext (b5p o)
theorem a7N(A:Lcs)(S:Std)(w:World)(hB:Bd S)(hO:Bo S){lo hh:Nat}(hhh:hh≤w.heap.size)(hI:StI lo hh w A S):
  Calls Try.prog 10 #[.agg (stV A S).toArray] w fun e w'=> ∃A',e= .returned (.agg (stV A' (a6t (nam (ord S)) S)).toArray)∧StI w.heap.size w'.heap.size w' A' (a6t (nam (ord S)) S)∧Below w.heap.size w w':=
 a7m a1L (by decide) rfl rfl rfl Try.func10 Try.isAgg34 Try.sizeOf34 Try.underlying54 Try.isAgg54 Try.sizeOf54 Try.zeroValue54 Try.underlying60 en8 b9W b9V b9U b9T b9S b9R A S w hB (by have:=b2f hO;omega)
  (fun W h=>(a8y A S W hO (Nat.le_trans hhh h.size) (hI.kp (a5U hhh h))).mono fun e w' ⟨b,h1,h2,h3,h4⟩=>⟨b,h1,⟨h2,h3,h4⟩⟩)
  (fun W h=>(b4G A S W hB (Nat.le_trans hhh h.size) (hI.kp (a5U hhh h))).mono fun e w' ⟨O,h1,h2⟩=>⟨O,h1,h2⟩)
  (fun bn bm k W h=>by have:=a5h k W h;rwa [a6R]at this)
  (fun lo hi c a T rv W h1 h2 h3=>b2R h1 h2 h3 rv)
  (fun bn bm lo hi lv v l Ta Tb W h1 h2 h3 h4 h5=>by have:=b2o h1 h2 h3 h4 h5;rwa [a6R]at this)
  (fun bn bm lo hi v l W h1 h2 h3 h4 h5=>by have:=b2r h1 h2 h3 h4 h5;rwa [a6R]at this)
  (fun bn bm lo hi v T W h1 h2 h3 h4 h5 h6=>by have:=b1r h1 h2 h3 h4 h5 h6;rwa [a6R]at this)
  (fun bn bm lo hi v l W h1 h2 h3 h4 h5=>by have:=b1V h1 h2 h3 h4 h5;rwa [a6R]at this)
theorem b4C(A A':Lcs)(S S':Std)(w:World)(hB:Bd S){lo hh lo' hh':Nat}(h1:hh≤w.heap.size)(h2:hh'≤w.heap.size)(hA:StI lo hh w A S)(hB':StI lo' hh' w A' S'):
  Calls Try.prog 9 #[.agg (stV A S).toArray,.agg (stV A' S').toArray] w fun e w'=>e= .returned (.bool (decide (S=S')))∧Gr w w':=
 b1d a1L (by decide) rfl rfl rfl Try.func9 b9a b9Z b9Y b9X b8Z ne66 g66
  (fun l m A B w _ _ _ _ h1 h2 h3 h4 h5 h6=>a6x a1L (by decide) rfl rfl rfl Try.func28 ne97 g97 l m A B w h1 h2 h3 h4 h5 h6)
  (fun l m A B w _ _ _ _ h1 h2 h3 h4 h5 h6=>a5y l m A B w h1 h2 h3 h4 h5 h6)
  (fun l m a b c d w _ _ _ _ h1 h2 h3 h4 h5=>a3s l m a b c d w h1 h2 h3 h4 h5)
  (fun l m A B w _ _ _ _ h1 h2 h3 h4 h5 h6=>a5z a1L rfl rfl Try.func31 b8Z (fun l m a b c d w _ _ _ _ h1 h2 h3 h4 h5=>a2e l m a b c d w h1 h2 h3 h4 h5) l m A B w h1 h2 h3 h4 h5 h6)
  (fun l m a b c d w _ _ _ _ h1 h2 h3 h4 h5=>a2e l m a b c d w h1 h2 h3 h4 h5)
  A A' S S' w hB h1 h2 hA hB'
theorem b7W(A:Lcs)(S:Std)(w:World)(hC:CapS A S){lo hh:Nat}(hhh:hh≤w.heap.size)(hI:StI lo hh w A S):
  Calls Try.prog 6 #[.agg (stV A S).toArray] w fun e w'=> ∃A',e= .returned (.agg (stV A' (a5m S)).toArray)∧StX hh (w.heap.size+1) w' A' (a5m S)∧Below w.heap.size w w':=
 b3V a1L (by decide) rfl rfl Try.func6 b9g b9f
  (fun A ls w h1 h2 _ _ h3 h4=>a7w a1L Try.func15 b0R A ls w h1 h2 h3 h4)
  (fun A xs w h1 h2 _ _ h3 h4=>a7z a1L rfl rfl Try.func16 a9K A xs w h1 h2 h3 h4)
  A S w hC hhh hI
end Go.Proofs.Ytcblehiddfnafaa.canonSame
