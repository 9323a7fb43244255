/-
  Chapter 28: equality of effects and of players.
-/
import Derived.Test.YtcblehiddfnafaaTxX
import Derived.Laws.StructEq
import Derived.ChangeKeysEq
import Derived.Test.YtcblehiddfnafaaTxQ
namespace Go.Proofs.Ytcblehiddfnafaa.canonNames
open Go.Shelf Go.RowKit Go.Lib Go.Sort
theorem eq97(x y:Efd)(W:World):Sem.run Try.prog (Op.equalIn 10000 97 (.agg (efV x).toArray) (.agg (efV y).toArray)) W= .ok (decide (x=y)) W:=by
 have u3:=Try.underlying3
 have a3:=Try.isAgg3
 have z3:=Try.sizeOf3
 have hS:Try.prog.underlying 97=some (.struct (Try.prog.fieldsOf 97)):=by kernel_rfl
 have hp:Try.prog.stoodInHeld 97=false:=by kernel_rfl
 rw[show(10000:Nat)=9999+1 from rfl,run_equalIn_agg W 9999 97 _ _ hS hp]
 simp only[Program.fieldsOf,Try.underlying97]
 obtain⟨a,b,c,d⟩:=x
 obtain⟨a',b',c',d'⟩:=y
 simp only[efV]
 by_cases h1:a=a'<;>by_cases h2:b=b'<;>by_cases h3:c=c'<;>by_cases h4:d=d'<;>go_simp
theorem eq64(a b c d a' b' c' d':Int)(W:World):Sem.run Try.prog (Op.equalIn 9999 64 (.agg #[.int .i64 a,.int .i64 b,.int .i64 c,.int .i64 d]) (.agg #[.int .i64 a',.int .i64 b',.int .i64 c',.int .i64 d'])) W= .ok (decide ((a,b,c,d)=(a',b',c',d'))) W:=by
 have u3:=Try.underlying3
 have a3:=Try.isAgg3
 have z3:=Try.sizeOf3
 have hc:Try.prog.cellsOf 3=1:=by kernel_rfl
 obtain⟨i,z,hi,_⟩:=inf3
 rw[show(9999:Nat)=9998+1 from rfl,run_equalIn_array W 9998 _ _ Try.underlying64 hi,hc]
 have hr:List.range 4= [0,1,2,3]:=by decide
 rw[hr]
 simp only[Op.eqItems]
 clear hr hi hc
 by_cases h1:a=a'<;>by_cases h2:b=b'<;>by_cases h3:c=c'<;>by_cases h4:d=d'<;>go_simp
theorem eq66(x y:Pld)(W:World):Sem.run Try.prog (Op.equalIn 10000 66 (.agg (plV x).toArray) (.agg (plV y).toArray)) W= .ok (decide (x=y)) W:=by
 have u3:=Try.underlying3
 have a3:=Try.isAgg3
 have z3:=Try.sizeOf3
 have u4:=Try.underlying4
 have a4:=Try.isAgg4
 have z4:=Try.sizeOf4
 have a64:=Try.isAgg64
 have z64:=Try.sizeOf64
 have hS:Try.prog.underlying 66=some (.struct (Try.prog.fieldsOf 66)):=by kernel_rfl
 have hp:Try.prog.stoodInHeld 66=false:=by kernel_rfl
 rw[show(10000:Nat)=9999+1 from rfl,run_equalIn_agg W 9999 66 _ _ hS hp]
 simp only[Program.fieldsOf,Try.underlying66]
 obtain⟨l,a,b,c,d,p,q,r⟩:=x
 obtain⟨l',a',b',c',d',p',q',r'⟩:=y
 have q64:=eq64 a b c d a' b' c' d'
 have hd:decide ((⟨l,a,b,c,d,p,q,r⟩:Pld)=⟨l',a',b',c',d',p',q',r'⟩)=(decide (l=l')&&(decide ((a,b,c,d)=(a',b',c',d'))&&(decide (p=p')&&(decide (q=q')&&decide (r=r'))))):=by
  rw[Bool.eq_iff_iff]
  simp only[decide_eq_true_eq,Bool.and_eq_true,Pld.mk.injEq,Prod.mk.injEq]
  constructor
  ·rintro⟨h1,h2,h3,h4,h5,h6⟩
   exact⟨h1,⟨h2,h3,h4,h5⟩,h6⟩
  ·rintro⟨h1,⟨h2,h3,h4,h5⟩,h6⟩
   exact⟨h1,h2,h3,h4,h5,h6⟩
 rw[hd]
 clear hd
 generalize decide ((a,b,c,d)=(a',b',c',d'))=m at q64 ⊢
 simp only[plV]
 by_cases h1:l=l'<;>cases m<;>by_cases h3:p=p'<;>by_cases h4:q=q'<;>by_cases h5:r=r'<;>go_simp
end Go.Proofs.Ytcblehiddfnafaa.canonNames
namespace Go.Proofs.Ytcblehiddfnafaa.canonNames
open Go.Shelf Go.RowKit Go.Lib Go.Sort
theorem ne97(x y:Efd)(W:World):Sem.run Try.prog (binOp .neq 97 (.agg (efV x).toArray) (.agg (efV y).toArray)) W= .ok (.bool (!(decide (x=y)))) W:=by
 rw[run_neq_struct,eq97]
 rfl
theorem ne66(x y:Pld)(W:World):Sem.run Try.prog (binOp .neq 66 (.agg (plV x).toArray) (.agg (plV y).toArray)) W= .ok (.bool (!(decide (x=y)))) W:=by
 rw[run_neq_struct,eq66]
 rfl
theorem g97: ∀s t (xs ys:Array Value) W,Sem.run Try.prog (eqGuard .neq 97 s t (.agg xs) (.agg ys)) W= .ok () W:=fun s t xs ys W=>run_eqGuard_agg W .neq 97 s t xs ys (by kernel_rfl)
theorem g66: ∀s t (xs ys:Array Value) W,Sem.run Try.prog (eqGuard .neq 66 s t (.agg xs) (.agg ys)) W= .ok () W:=fun s t xs ys W=>run_eqGuard_agg W .neq 66 s t xs ys (by kernel_rfl)
theorem en7: ∀args w,(callFunc 7 args).run Try.prog w= .ok (.enter 7 args) w:=enters_of Try.func7 (by kernel_rfl) rfl
theorem en8: ∀args w,(callFunc 8 args).run Try.prog w= .ok (.enter 8 args) w:=enters_of Try.func8 (by kernel_rfl) rfl
theorem en9: ∀args w,(callFunc 9 args).run Try.prog w= .ok (.enter 9 args) w:=enters_of Try.func9 (by kernel_rfl) rfl
theorem en10: ∀args w,(callFunc 10 args).run Try.prog w= .ok (.enter 10 args) w:=enters_of Try.func10 (by kernel_rfl) rfl
theorem en11: ∀args w,(callFunc 11 args).run Try.prog w= .ok (.enter 11 args) w:=enters_of Try.func11 (by kernel_rfl) rfl
theorem en12: ∀args w,(callFunc 12 args).run Try.prog w= .ok (.enter 12 args) w:=enters_of Try.func12 (by kernel_rfl) rfl
theorem en6: ∀args w,(callFunc 6 args).run Try.prog w= .ok (.enter 6 args) w:=enters_of Try.func6 (by kernel_rfl) rfl
theorem en15: ∀args w,(callFunc 15 args).run Try.prog w= .ok (.enter 15 args) w:=enters_of Try.func15 (by kernel_rfl) rfl
theorem en16: ∀args w,(callFunc 16 args).run Try.prog w= .ok (.enter 16 args) w:=enters_of Try.func16 (by kernel_rfl) rfl
theorem en17: ∀args w,(callFunc 17 args).run Try.prog w= .ok (.enter 17 args) w:=enters_of Try.func17 (by kernel_rfl) rfl
theorem en18: ∀args w,(callFunc 18 args).run Try.prog w= .ok (.enter 18 args) w:=enters_of Try.func18 (by kernel_rfl) rfl
theorem en19: ∀args w,(callFunc 19 args).run Try.prog w= .ok (.enter 19 args) w:=enters_of Try.func19 (by kernel_rfl) rfl
theorem en20: ∀args w,(callFunc 20 args).run Try.prog w= .ok (.enter 20 args) w:=enters_of Try.func20 (by kernel_rfl) rfl
theorem en28: ∀args w,(callFunc 28 args).run Try.prog w= .ok (.enter 28 args) w:=enters_of Try.func28 (by kernel_rfl) rfl
theorem en29: ∀args w,(callFunc 29 args).run Try.prog w= .ok (.enter 29 args) w:=enters_of Try.func29 (by kernel_rfl) rfl
theorem en30: ∀args w,(callFunc 30 args).run Try.prog w= .ok (.enter 30 args) w:=enters_of Try.func30 (by kernel_rfl) rfl
theorem en31: ∀args w,(callFunc 31 args).run Try.prog w= .ok (.enter 31 args) w:=enters_of Try.func31 (by kernel_rfl) rfl
theorem en32: ∀args w,(callFunc 32 args).run Try.prog w= .ok (.enter 32 args) w:=enters_of Try.func32 (by kernel_rfl) rfl
theorem en33: ∀args w,(callFunc 33 args).run Try.prog w= .ok (.enter 33 args) w:=enters_of Try.func33 (by kernel_rfl) rfl
theorem en34: ∀args w,(callFunc 34 args).run Try.prog w= .ok (.enter 34 args) w:=enters_of Try.func34 (by kernel_rfl) rfl
theorem en35: ∀args w,(callFunc 35 args).run Try.prog w= .ok (.enter 35 args) w:=enters_of Try.func35 (by kernel_rfl) rfl
theorem en37: ∀args w,(callFunc 37 args).run Try.prog w= .ok (.enter 37 args) w:=enters_of Try.func37 (by kernel_rfl) rfl
theorem en38: ∀args w,(callFunc 38 args).run Try.prog w= .ok (.enter 38 args) w:=enters_of Try.func38 (by kernel_rfl) rfl
theorem en39: ∀args w,(callFunc 39 args).run Try.prog w= .ok (.enter 39 args) w:=enters_of Try.func39 (by kernel_rfl) rfl
theorem en40: ∀args w,(callFunc 40 args).run Try.prog w= .ok (.enter 40 args) w:=enters_of Try.func40 (by kernel_rfl) rfl
theorem en41: ∀args w,(callFunc 41 args).run Try.prog w= .ok (.enter 41 args) w:=enters_of Try.func41 (by kernel_rfl) rfl
theorem en42: ∀args w,(callFunc 42 args).run Try.prog w= .ok (.enter 42 args) w:=enters_of Try.func42 (by kernel_rfl) rfl
theorem en43: ∀args w,(callFunc 43 args).run Try.prog w= .ok (.enter 43 args) w:=enters_of Try.func43 (by kernel_rfl) rfl
theorem en44: ∀args w,(callFunc 44 args).run Try.prog w= .ok (.enter 44 args) w:=enters_of Try.func44 (by kernel_rfl) rfl
theorem en45: ∀args w,(callFunc 45 args).run Try.prog w= .ok (.enter 45 args) w:=enters_of Try.func45 (by kernel_rfl) rfl
theorem en68: ∀args w,(callFunc 68 args).run Try.prog w= .ok (.enter 68 args) w:=enters_of Try.func68 (by kernel_rfl) rfl
theorem en69: ∀args w,(callFunc 69 args).run Try.prog w= .ok (.enter 69 args) w:=enters_of Try.func69 (by kernel_rfl) rfl
theorem en70: ∀args w,(callFunc 70 args).run Try.prog w= .ok (.enter 70 args) w:=enters_of Try.func70 (by kernel_rfl) rfl
theorem en71: ∀args w,(callFunc 71 args).run Try.prog w= .ok (.enter 71 args) w:=enters_of Try.func71 (by kernel_rfl) rfl
theorem bel_kp{w:World}{lo hh:Nat}(hhh:hh≤w.heap.size){W:World}(h:Below w.heap.size w W):Kp lo hh w W:=(Kp.below h lo).mono (Nat.le_refl _) hhh
theorem order_ok(A:Lcs)(S:Std)(w:World)(hB:Bo S){lo hh:Nat}(hhh:hh≤w.heap.size)(hI:StI lo hh w A S):
  Calls Try.prog 7 #[.agg (stV A S).toArray] w fun e w'=> ∃lv,e= .returned lv∧w'.ownsRow w.heap.size 3 1 lv (ord S).length (intsV (ord S))∧Below w.heap.size w w':=by
 have ho:S.obs.length≤900:=by have:=hB.obs;omega
 exact order_calls layS (by decide) rfl rfl rfl Try.func7 en17 en18 en19 en20 inf3 inf43 A S w hB hhh hI
  (fun ia ids ic lv l W bs h1 h2 h3 h4 h5 h6 h7=>more_ok layS rfl rfl inf3 A S w hhh hI ho ia ids ic lv l W bs h1 h2 h3 h4 h5 h6 h7)
  (fun A ls p W h=>at_ok A ls p W h)
  (fun n W h=>find_ok layS rfl Try.func19 A S W (Nat.le_trans hhh h.size) (hI.kp (bel_kp hhh h)) ho n)
  (fun v l n W bs h1 h2=>by
   obtain⟨a,c,rfl⟩:=own_sl h2
   exact has_calls l a c n W (by omega) (RowsI.rows (own_rowsI (f:=fun n:Int=>[Value.int .i64 n]) (by rw[intsV_flat];exact h2) rfl fun _=>rfl) (Nat.le_refl _)))
theorem rcopy_ok(A:Lcs)(S:Std)(w:World)(hB:Bd S){lo hh:Nat}(hhh:hh≤w.heap.size)(hI:StI lo hh w A S):
  Calls Try.prog 40 #[.agg (stV A S).toArray] w fun e w'=> ∃A',e= .returned (.agg (stV A' S).toArray)∧StI w.heap.size w'.heap.size w' A' S∧Below w.heap.size w w':=
 copy_calls layS (by decide) rfl rfl rfl rfl Try.func40 en68 en69 en70 en71 inf66 inf41 inf97
  (fun A ls w h1 h2 _ _ h3 h4=>lists12_calls layS Try.func68 Try.func69 en69 inf3 inf25 A ls w h1 h2 h3 h4)
  (fun ia l ic w h1 _ _ h2=>ints_calls layS Try.func69 inf3 ia l ic w h1 h2)
  (fun A xs w h1 h2 _ _ h3 h4=>items12_calls layS rfl rfl Try.func70 Try.func71 en71 inf43 inf45 A xs w h1 h2 h3 h4)
  (fun ia l ic w h1 _ _ h2=>targs_calls layS Try.func71 inf45 ia l ic w h1 h2)
  A S w hB hhh hI
theorem h41: ∀(oa:Option Addr) (l:List Int) (oc:Nat) (n:Int) (W:World) (lo hh:Nat) (_:l.length≤900) (_:hh≤W.heap.size) (_:IntI lo hh W oa l),Calls Try.prog 41 #[.slice oa l.length oc,.int .i64 n] W fun e w'=>e= .returned (.int .i64 (nam l n))∧w'=W:=fun oa l oc n W lo hh h1 h2 h3=>name_ok oa l oc n W lo hh h1 h2 h3
theorem h43: ∀(oa:Option Addr) (o:List Int) (oc:Nat) (ia:Option Addr) (l:List Int) (ic:Nat) (w:World) (lo hh lo' hh':Nat) (_:o.length≤900) (_:l.length≤900) (_:hh≤w.heap.size) (_:hh'≤w.heap.size) (_:IntI lo hh w oa o) (_:IntI lo' hh' w ia l),Calls Try.prog 43 #[.slice oa o.length oc,.slice ia l.length ic] w fun e w'=> ∃lv,e= .returned lv∧w'.ownsRow w.heap.size 3 1 lv l.length (intsV (l.map (nam o)))∧Below w.heap.size w w':=
 fun oa o oc ia l ic w lo hh lo' hh' h1 h2 h3 h4 h5 h6=>names_ok layS Try.func43 en41 inf3 h41 oa o oc ia l ic w lo hh lo' hh' h1 h2 h3 h4 h5 h6
theorem h45: ∀(oa:Option Addr) (o:List Int) (oc:Nat) (ia:Option Addr) (l:List (Int×Int)) (ic:Nat) (w:World) (lo hh lo' hh':Nat) (_:o.length≤900) (_:l.length≤900) (_:hh≤w.heap.size) (_:hh'≤w.heap.size) (_:IntI lo hh w oa o) (_:PrsI lo' hh' w ia l),Calls Try.prog 45 #[.slice oa o.length oc,.slice ia l.length ic] w fun e w'=> ∃lv,e= .returned lv∧w'.ownsRow w.heap.size 45 2 lv l.length (prsV (l.map fun p=>(p.1,nam o p.2)))∧Below w.heap.size w w':=
 fun oa o oc ia l ic w lo hh lo' hh' h1 h2 h3 h4 h5 h6=>targets_ok layS Try.func45 en41 inf45 h41 oa o oc ia l ic w lo hh lo' hh' h1 h2 h3 h4 h5 h6
theorem h42: ∀(oa:Option Addr) (o:List Int) (oc:Nat) (A:Loc) (ls:List (List Int)) (w:World) (lo hh lo' hh':Nat) (_:o.length≤900) (_:ls.length≤900) (_: ∀l∈ls,l.length≤900) (_:hh≤w.heap.size) (_:hh'≤w.heap.size) (_:IntI lo hh w oa o) (_:LstI lo' hh' w A ls),Calls Try.prog 42 #[.slice oa o.length oc,.slice A.a ls.length A.c] w fun e w'=> ∃A':Loc,e= .returned (.slice A'.a ls.length A'.c)∧LstI w.heap.size w'.heap.size w' A' (ls.map (·.map (nam o)))∧Below w.heap.size w w':=
 fun oa o oc A ls w lo hh lo' hh' h1 h2 h3 h4 h5 h6 h7=>lists_ok layS Try.func42 en43 inf25 h43 oa o oc A ls w lo hh lo' hh' h1 h2 h3 h4 h5 h6 h7
theorem h44: ∀(oa:Option Addr) (o:List Int) (oc:Nat) (A:Loc) (xs:List Itm) (w:World) (lo hh lo' hh':Nat) (_:o.length≤900) (_:xs.length≤900) (_: ∀x∈xs,x.ts.length≤900) (_:hh≤w.heap.size) (_:hh'≤w.heap.size) (_:IntI lo hh w oa o) (_:ItsI lo' hh' w A xs),Calls Try.prog 44 #[.slice oa o.length oc,.slice A.a xs.length A.c] w fun e w'=> ∃A':Loc,e= .returned (.slice A'.a xs.length A'.c)∧ItsI w.heap.size w'.heap.size w' A' (xs.map (nmI (nam o)))∧Below w.heap.size w w':=
 fun oa o oc A xs w lo hh lo' hh' h1 h2 h3 h4 h5 h6 h7=>items_ok layS rfl rfl Try.func44 en41 en45 inf43 h41 h45 oa o oc A xs w lo hh lo' hh' h1 h2 h3 h4 h5 h6 h7
theorem rnormal_ok(A:Lcs)(S:Std)(w:World)(hB:Bd S)(hO:Bo S){lo hh:Nat}(hhh:hh≤w.heap.size)(hI:StI lo hh w A S):
  Calls Try.prog 11 #[.agg (stV A S).toArray] w fun e w'=> ∃A',e= .returned (.agg (stV A' (nrmS (nam (ord S)) S)).toArray)∧StI w.heap.size w'.heap.size w' A' (nrmS (nam (ord S)) S)∧Below w.heap.size w w':=
 normal_calls layS (by decide) rfl rfl rfl rfl Try.func11 en7 en40 en41 en42 en43 en44 en45 inf41 h41 h42 h43 h44 h45 A S w hB (by have:=ord_len hO;omega) hhh hI
  (fun W h=>order_ok A S W hO (Nat.le_trans hhh h.size) (hI.kp (bel_kp hhh h)))
  (fun W h=>rcopy_ok A S W hB (Nat.le_trans hhh h.size) (hI.kp (bel_kp hhh h)))
theorem nmF_ord(o:List Int):nmF (nmO o)=nam o:=funext (nmF_nmO o)
theorem pnormal_ok(A:Lcs)(S:Std)(w:World)(hB:Bd S)(hO:Bo S){lo hh:Nat}(hhh:hh≤w.heap.size)(hI:StI lo hh w A S):
  Calls Try.prog 10 #[.agg (stV A S).toArray] w fun e w'=> ∃A',e= .returned (.agg (stV A' (nrmS (nam (ord S)) S)).toArray)∧StI w.heap.size w'.heap.size w' A' (nrmS (nam (ord S)) S)∧Below w.heap.size w w':=
 pnormal_calls layS (by decide) rfl rfl rfl Try.func10 Try.isAgg34 Try.sizeOf34 Try.underlying54 Try.isAgg54 Try.sizeOf54 Try.zeroValue54 Try.underlying60 en8 en33 en34 en35 en37 en38 en39 A S w hB (by have:=ord_len hO;omega)
  (fun W h=>(namesM_calls A S W hO (Nat.le_trans hhh h.size) (hI.kp (bel_kp hhh h))).mono fun e w' ⟨b,h1,h2,h3,h4⟩=>⟨b,h1,⟨h2,h3,h4⟩⟩)
  (fun W h=>(pcopy_ok A S W hB (Nat.le_trans hhh h.size) (hI.kp (bel_kp hhh h))).mono fun e w' ⟨O,h1,h2⟩=>⟨O,h1,h2⟩)
  (fun bn bm k W h=>by have:=of_calls k W h;rwa [nmF_ord]at this)
  (fun lo hi c a T rv W h1 h2 h3=>sort_part h1 h2 h3 rv)
  (fun bn bm lo hi lv v l Ta Tb W h1 h2 h3 h4 h5=>by have:=list_part h1 h2 h3 h4 h5;rwa [nmF_ord]at this)
  (fun bn bm lo hi v l W h1 h2 h3 h4 h5=>by have:=ints_part h1 h2 h3 h4 h5;rwa [nmF_ord]at this)
  (fun bn bm lo hi v T W h1 h2 h3 h4 h5 h6=>by have:=items_part h1 h2 h3 h4 h5 h6;rwa [nmF_ord]at this)
  (fun bn bm lo hi v l W h1 h2 h3 h4 h5=>by have:=targs_part h1 h2 h3 h4 h5;rwa [nmF_ord]at this)
theorem rsame_ok(A A':Lcs)(S S':Std)(w:World)(hB:Bd S){lo hh lo' hh':Nat}(h1:hh≤w.heap.size)(h2:hh'≤w.heap.size)(hA:StI lo hh w A S)(hB':StI lo' hh' w A' S'):
  Calls Try.prog 9 #[.agg (stV A S).toArray,.agg (stV A' S').toArray] w fun e w'=>e= .returned (.bool (decide (S=S')))∧Gr w w':=
 same_calls layS (by decide) rfl rfl rfl Try.func9 en28 en29 en30 en31 en32 ne66 g66
  (fun l m A B w _ _ _ _ h1 h2 h3 h4 h5 h6=>sameObjs_calls layS (by decide) rfl rfl rfl Try.func28 ne97 g97 l m A B w h1 h2 h3 h4 h5 h6)
  (fun l m A B w _ _ _ _ h1 h2 h3 h4 h5 h6=>sameLists_calls l m A B w h1 h2 h3 h4 h5 h6)
  (fun l m a b c d w _ _ _ _ h1 h2 h3 h4 h5=>sameInts_calls l m a b c d w h1 h2 h3 h4 h5)
  (fun l m A B w _ _ _ _ h1 h2 h3 h4 h5 h6=>sameItems_calls layS rfl rfl Try.func31 en32 (fun l m a b c d w _ _ _ _ h1 h2 h3 h4 h5=>sameTargets_calls l m a b c d w h1 h2 h3 h4 h5) l m A B w h1 h2 h3 h4 h5 h6)
  (fun l m a b c d w _ _ _ _ h1 h2 h3 h4 h5=>sameTargets_calls l m a b c d w h1 h2 h3 h4 h5)
  A A' S S' w hB h1 h2 hA hB'
theorem cut_ok(A:Lcs)(S:Std)(w:World)(hC:CapS A S){lo hh:Nat}(hhh:hh≤w.heap.size)(hI:StI lo hh w A S):
  Calls Try.prog 6 #[.agg (stV A S).toArray] w fun e w'=> ∃A',e= .returned (.agg (stV A' (cutS S)).toArray)∧StX hh (w.heap.size+1) w' A' (cutS S)∧Below w.heap.size w w':=
 cut_calls layS (by decide) rfl rfl Try.func6 en15 en16
  (fun A ls w h1 h2 _ _ h3 h4=>lists15_calls layS Try.func15 inf25 A ls w h1 h2 h3 h4)
  (fun A xs w h1 h2 _ _ h3 h4=>items16_calls layS rfl rfl Try.func16 inf43 A xs w h1 h2 h3 h4)
  A S w hC hhh hI
end Go.Proofs.Ytcblehiddfnafaa.canonNames
