/-
  'CanonNames' answers true, whatever the state: of any state (cut as the law cuts it), the order of names and the names themselves are the document's, and the state with these names is the same. No condition.
-/
import Derived.Test.YtcblehiddfnafaaRows
import Derived.Test.YtcblehiddfnafaaEvT
import Derived.Test.YtcblehiddfnafaaTya
import Derived.WalkKit
import Derived.ProofKit
import Derived.OpenShut
namespace Go.Proofs.Ytcblehiddfnafaa.canonNames
open Go.RowKit Go.ChangeShapes Go.WideShapes Go.ChangeAt
theorem ownT:ownKnob Try.prog.godebug=none:=by kernel_rfl
theorem noNG:Go.Ev.noNGb Try.prog=true:=by kernel_rfl
theorem ran12:Go.Ev.runV Try.prog 20000 12=true:=by kernel_rfl
theorem walk12(w:World):Calls Try.prog 12 #[] w fun e w'=>e= .returned (.bool true)∧Below w.heap.size w w':=Go.Ev.runV_calls (Go.Ev.noNG_of noNG) layS.mixed ran12 w
theorem handed{H:Type}{enc:TypeId×Value→H}{W:World}{cs:Array Value}{d:DataW H}{p:List MemPlace}{fuel:Nat}(hf:DataW.trod enc Try.prog W 0 (fun _=>true) true fuel 31 cs.toList=some (d,p))(hw: ∀q∈d.weights Try.prog 31,q≤reachBytes): ∃(A:Lcs) (S:Std),cs=(stV A S).toArray∧StI 0 W.heap.size W A S∧CapS A S∧SmE S:=by
 obtain⟨A,S,h1,h2,h3,h4⟩:=Lv.st_of (Lv.leaves_ok Lv.fl31 hf hw)
 exact⟨A,S,by rw[←h1],h2,h3,h4⟩
set_option maxRecDepth 100000 in
theorem lifted(os:Os)(started:os.Started)(H:Type)(enc:TypeId×Value→H):
  ReturnsInHanded {} Try.checked os 3 .any (Ytcblehiddfnafaa.Rows.canonNamesSpec.pre6 enc Try.prog Try.f3 Ytcblehiddfnafaa.Rows.canonNamesRow.domain false) (Ytcblehiddfnafaa.Rows.canonNamesSpec.post enc Try.prog Try.f3 false true false false):=by
 refine returnsInHanded_of_change_sized (C:=Try.checked) ownT started (by kernel_rfl) Try.func3
  (ChangeSpec.witness6 (enc:=enc) (C:=Try.checked) false ⟨#[], #[.agg zv31.toArray],[]⟩ 8 (by kernel_rfl) (by kernel_rfl) (by kernel_rfl) (by kernel_rfl)) ?_
 intro W base args ds gs before hval0 hW hcnd hsz0 _
 have hval: ∀(j:Nat) t v,Try.f3.params[j]? =some t→args[j]? =some v→Value.okWide Try.prog W .any base t v:=hval0
 have hsz:(DataW.weightsEach Try.prog (Try.f3.params.toList++Ytcblehiddfnafaa.Rows.canonNamesSpec.plain.varTypes Try.prog) (ds++gs)).all (· ≤reachBytes)=true:=hsz0
 have hW':=hW
 obtain⟨p,q,hA0,hV,rfl,hfz,hnd⟩:=hW
 have hA:DataW.TrodAll enc Try.prog W 0 (fun _=>true) true Try.f3.params.toList args.toList ds p:=hA0
 rw[Try.params3]at hA hval hsz
 obtain⟨v0,d0,rfl,rfl,h0⟩:=trodAll_one hA
 obtain⟨rfl,rfl⟩:=trodVars_none hV
 obtain⟨cs0,rfl,_⟩:=okWide_struct Try.underlying31 (hval 0 31 v0 rfl rfl)
 clear hA0 hval0 hsz0
 simp only[List.append_nil]at hW'
 have hlt0: ∀x∈p,x.block<W.heap.size:=fun x hx=>hW'.lt x hx
 obtain⟨fuel,hf⟩:=h0
 have hf':DataW.trod enc Try.prog W 0 (fun _=>true) true fuel 31 cs0.toList=some (d0,p):=hf
 obtain⟨A,S,e0,hI,hC,hE⟩:=handed hf' fun q hq=>by
  have:=List.all_eq_true.1 hsz q (DataW.weights_mem_each (j:=0) (t:=31) rfl rfl q hq)
  simpa using this
 have hl:=canonNames_calls walk12 A S W hC hE hI
 rw[←e0]at hl
 refine hl.mono fun e W' ⟨he,hb⟩=> ?_
 subst he
 have hargs0:=Below.trod (by kernel_rfl) (by kernel_rfl) (of_decide_eq_true (by kernel_rfl)) (⟨fuel,hf⟩:DataW.Trod enc Try.prog W 0 (fun _=>true) true 31 (.agg cs0) d0 p) hb hlt0
 exact⟨_,rfl,_,_,_,[],p,[],hW',trodAll_mk1 (shut_bool Try.underlying4 _),trodAll_mk1 hargs0,rfl,hb.frame _,fun h=>by cases h⟩
theorem over:Ytcblehiddfnafaa.Rows.canonNamesRow.holds Ytcblehiddfnafaa.Try.pinned (OpenSpec.ofChange Ytcblehiddfnafaa.Rows.canonNamesSpec):=
 OpenClaim.holds_of_wide 3 Try.f3 rfl rfl rfl rfl rfl rfl rfl ⟨rfl,rfl,rfl,rfl,rfl⟩ rfl rfl rfl rfl rfl (by kernel_rfl) Try.func3 (by kernel_rfl)
  (of_decide_eq_true (by kernel_rfl)) (by unfold Func.isWrapper;first|(rw[if_pos (by decide+kernel)];kernel_rfl)|(rw[if_neg (by decide+kernel)];exact⟨rfl,rfl⟩))
  (fun os started H enc _=>lifted os started H enc)
theorem proved:Ytcblehiddfnafaa.Rows.CanonNamesSaid:=over
end Go.Proofs.Ytcblehiddfnafaa.canonNames
