/-
  'CanonSame' answers true, whatever the two states: of any two states (cut as the law cuts them), the program calls them the same just where their normal forms are the same, and each the same as itself. No condition.
-/
import Derived.Test.YtcblehiddfnafaaRows
import Derived.Test.YtcblehiddfnafaaEvT
import Derived.Test.YtcblehiddfnafaaTyf
import Derived.WalkKit
import Derived.ProofKit
import Derived.OpenShut
namespace Go.Proofs.Ytcblehiddfnafaa.canonSame
open Go.RowKit Go.ChangeShapes Go.WideShapes Go.ChangeAt
theorem b8j:ownKnob Try.prog.godebug=none:=by kernel_rfl
theorem b8l:Go.Ev.b7E Try.prog=true:=by kernel_rfl
theorem b7p:Go.Ev.b7n Try.prog 20000 12=true:=by kernel_rfl
theorem b6d(w:World):Calls Try.prog 12 #[] w fun e w'=>e= .returned (.bool true)∧Below w.heap.size w w':=Go.Ev.b1f (Go.Ev.b5o b8l) a1L.mixed b7p w
theorem handed{H:Type}{enc:TypeId×Value→H}{W:World}{cs:Array Value}{d:DataW H}{p:List MemPlace}{fuel:Nat}(hf:DataW.trod enc Try.prog W 0 (fun _=>true) true fuel 31 cs.toList=some (d,p))(hw: ∀q∈d.weights Try.prog 31,q≤reachBytes): ∃(A:Lcs) (S:Std),cs=(stV A S).toArray∧StI 0 W.heap.size W A S∧CapS A S∧SmE S:=by
 obtain⟨A,S,h1,h2,h3,h4⟩:=Lv.st_of (Lv.leaves_ok Lv.fl31 hf hw)
 exact⟨A,S,by rw[←h1],h2,h3,h4⟩
set_option maxRecDepth 100000 in
theorem lifted(os:Os)(started:os.Started)(H:Type)(enc:TypeId×Value→H):
  ReturnsInHanded {} Try.checked os 4 .any (Ytcblehiddfnafaa.Rows.canonSameSpec.pre6 enc Try.prog Try.f4 Ytcblehiddfnafaa.Rows.canonSameRow.domain false) (Ytcblehiddfnafaa.Rows.canonSameSpec.post enc Try.prog Try.f4 false true false false):=by
 refine returnsInHanded_of_change_sized (C:=Try.checked) b8j started (by kernel_rfl) Try.func4
  (ChangeSpec.witness6 (enc:=enc) (C:=Try.checked) false ⟨#[], #[.agg b7j.toArray,.agg b7j.toArray],[]⟩ 8 (by kernel_rfl) (by kernel_rfl) (by kernel_rfl) (by kernel_rfl)) ?_
 intro W base args ds gs before hval0 hW hcnd hsz0 _
 have hval: ∀(j:Nat) t v,Try.f4.params[j]? =some t→args[j]? =some v→Value.okWide Try.prog W .any base t v:=hval0
 have hsz:(DataW.weightsEach Try.prog (Try.f4.params.toList++Ytcblehiddfnafaa.Rows.canonSameSpec.plain.varTypes Try.prog) (ds++gs)).all (· ≤reachBytes)=true:=hsz0
 have hW':=hW
 obtain⟨p,q,hA0,hV,rfl,hfz,hnd⟩:=hW
 have hA:DataW.TrodAll enc Try.prog W 0 (fun _=>true) true Try.f4.params.toList args.toList ds p:=hA0
 rw[Try.params4]at hA hval hsz
 obtain⟨v0,v1,d0,d1,p0,p1,rfl,rfl,rfl,h0,h1⟩:=trodAll_two hA
 obtain⟨rfl,rfl⟩:=trodVars_none hV
 obtain⟨cs0,rfl,_⟩:=okWide_struct Try.underlying31 (hval 0 31 v0 rfl rfl)
 obtain⟨cs1,rfl,_⟩:=okWide_struct Try.underlying31 (hval 1 31 v1 rfl rfl)
 clear hA0 hval0 hsz0
 simp only[List.append_nil]at hW'
 have hlt0: ∀x∈p0,x.block<W.heap.size:=fun x hx=>hW'.lt x (List.mem_append_left _ hx)
 have hlt1: ∀x∈p1,x.block<W.heap.size:=fun x hx=>hW'.lt x (List.mem_append_right _ hx)
 obtain⟨fuel0,hf0⟩:=h0
 obtain⟨fuel1,hf1⟩:=h1
 have hf0':DataW.trod enc Try.prog W 0 (fun _=>true) true fuel0 31 cs0.toList=some (d0,p0):=hf0
 have hf1':DataW.trod enc Try.prog W 0 (fun _=>true) true fuel1 31 cs1.toList=some (d1,p1):=hf1
 obtain⟨A,S,e0,hI,hC,hE⟩:=handed hf0' fun q hq=>by
  have:=List.all_eq_true.1 hsz q (DataW.weights_mem_each (j:=0) (t:=31) rfl rfl q hq)
  simpa using this
 obtain⟨B,T,e1,hI1,hC1,hE1⟩:=handed hf1' fun q hq=>by
  have:=List.all_eq_true.1 hsz q (DataW.weights_mem_each (j:=1) (t:=31) rfl rfl q hq)
  simpa using this
 have hl:=a6q b6d A B S T W hC hC1 hE hE1 hI hI1
 rw[←e0,←e1]at hl
 refine hl.mono fun e W' ⟨he,hb⟩=> ?_
 subst he
 have hargs0:=Below.trod (by kernel_rfl) (by kernel_rfl) (of_decide_eq_true (by kernel_rfl)) (⟨fuel0,hf0⟩:DataW.Trod enc Try.prog W 0 (fun _=>true) true 31 (.agg cs0) d0 p0) hb hlt0
 have hargs1:=Below.trod (by kernel_rfl) (by kernel_rfl) (of_decide_eq_true (by kernel_rfl)) (⟨fuel1,hf1⟩:DataW.Trod enc Try.prog W 0 (fun _=>true) true 31 (.agg cs1) d1 p1) hb hlt1
 exact⟨_,rfl,_,_,_,[],p0++p1,[],hW',trodAll_mk1 (shut_bool Try.underlying4 _),trodAll_mk2 hargs0 hargs1,rfl,hb.frame _,fun h=>by cases h⟩
theorem over:Ytcblehiddfnafaa.Rows.canonSameRow.holds Ytcblehiddfnafaa.Try.pinned (OpenSpec.ofChange Ytcblehiddfnafaa.Rows.canonSameSpec):=
 OpenClaim.holds_of_wide 4 Try.f4 rfl rfl rfl rfl rfl rfl rfl ⟨rfl,rfl,rfl,rfl,rfl⟩ rfl rfl rfl rfl rfl (by kernel_rfl) Try.func4 (by kernel_rfl)
  (of_decide_eq_true (by kernel_rfl)) (by unfold Func.isWrapper;first|(rw[if_pos (by decide+kernel)];kernel_rfl)|(rw[if_neg (by decide+kernel)];exact⟨rfl,rfl⟩))
  (fun os started H enc _=>lifted os started H enc)
theorem proved:Ytcblehiddfnafaa.Rows.CanonSameSaid:=over
end Go.Proofs.Ytcblehiddfnafaa.canonSame
