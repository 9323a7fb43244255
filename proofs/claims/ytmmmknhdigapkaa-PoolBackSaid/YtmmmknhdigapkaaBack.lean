/-
  'PoolBack' answers true, whatever the input: what Encode writes Decode reads, and what Decode reads Encode writes.
-/
import Derived.Test.YtmmmknhdigapkaaRows
import Derived.Test.YtmmmknhdigapkaaTxT
import Derived.Test.YtmmmknhdigapkaaEvTr
import Derived.WalkKit
import Derived.ProofKit
import Derived.OpenShut
import Derived.ChangeMaps5
import Derived.Deep.Slices
namespace Go.Proofs.Ytmmmknhdigapkaa.poolBack
open Go.Ev Go.RowKit Go.ChangeShapes Go.WideShapes Go.ChangeAt Go.Proofs.Ytmmmknhdigapkaa.poolS Go.ChangeMaps
set_option linter.unusedVariables false
noncomputable section
theorem e4L:ownKnob Try.prog.godebug=none:=by kernel_rfl
theorem d7I:a7F Try.prog 9 22 (.l a1R)=true:=by kernel_rfl
set_option maxRecDepth 100000 in
theorem lifted(os:Os)(started:os.Started)(H:Type)(enc:TypeId×Value→H):
  ReturnsInHanded {} Try.checked os 4 .any (Ytmmmknhdigapkaa.Rows.poolBackSpec.pre6 enc Try.prog Try.f4 Ytmmmknhdigapkaa.Rows.poolBackRow.domain false) (Ytmmmknhdigapkaa.Rows.poolBackSpec.post enc Try.prog Try.f4 false true false false):=by
 refine returnsInHanded_of_change (C:=Try.checked) e4L started (by kernel_rfl) Try.func4
  (ChangeSpec.witness6 (enc:=enc) (C:=Try.checked) false ⟨#[], #[.slice none 0 0,.string ⟨#[]⟩],[]⟩ 8 (by kernel_rfl) (by kernel_rfl) (by kernel_rfl) (by kernel_rfl)) ?_
 intro W base args ds gs before hval0 hW hcnd _;have hval: ∀(j:Nat) t v,Try.f4.params[j]? =some t→args[j]? =some v→Value.okWide Try.prog W .any base t v:=hval0;have hW':=hW;obtain⟨p,q,hA0,hV,rfl,hfz,hnd⟩:=hW;have hA:DataW.TrodAll enc Try.prog W 0 (fun _=>true) true Try.f4.params.toList args.toList ds p:=hA0;rw[Try.params4]at hA hval;obtain⟨v0,v1,d0,d1,p0,p1,rfl,rfl,rfl,h0,h1⟩:=trodAll_two hA;obtain⟨rfl,rfl⟩:=trodVars_none hV;obtain⟨s,rfl,rfl,rfl,ws⟩:=open_string Try.underlying9 (hval 1 9 v1 rfl rfl) h1;obtain⟨a0,len,cap,rfl⟩:=okWide_slice Try.underlying22 (hval 0 22 v0 rfl rfl);clear hA0 hval0;have hlt: ∀x∈p0,x.block<W.heap.size:=fun x hx=>by simpa using hW'.lt x (by simp[hx])
 simp only[List.append_nil]at hW';obtain⟨fuel,hf⟩:=h0;have hf':DataW.trod enc Try.prog W 0 (fun _=>true) true fuel 22 [.slice a0 len cap]=some (d0,p0):=hf;obtain⟨g,hg,k1,k2⟩:=b7c 9 22 _ _ _ _ d7I hf';obtain⟨v,es,rfl,_,_⟩:=b3i k1
 have hs:(s.size:Int)≤9223372036854775807:=by
  have h9:maxLen≤9223372036854775807:=by decide
  omega
 have hl:=c4j v es s ⟨k1,hs,trivial⟩ ⟨k2,by simp only[GM],trivial⟩;rw[show v= .slice a0 len cap from hg]at hl;refine hl.mono fun e W' ⟨he,hb⟩=> ?_;subst he;have hargs:=Below.trod (by kernel_rfl) (by kernel_rfl) (of_decide_eq_true (by kernel_rfl)) (⟨fuel,hf⟩:DataW.Trod enc Try.prog W 0 (fun _=>true) true 22 (.slice a0 len cap) d0 p0) hb hlt;exact⟨_,rfl,_,_,_,[],p0++ [],[],hW',trodAll_mk1 (shut_bool Try.underlying4 _),trodAll_mk2 hargs (shut_string Try.underlying9 ws),rfl,hb.frame _,fun h=>by cases h⟩
theorem over:Ytmmmknhdigapkaa.Rows.poolBackRow.holds Ytmmmknhdigapkaa.Try.pinned (OpenSpec.ofChange Ytmmmknhdigapkaa.Rows.poolBackSpec):=
 OpenClaim.holds_of_wide 4 Try.f4 rfl rfl rfl rfl rfl rfl rfl ⟨rfl,rfl,rfl,rfl,rfl⟩ rfl rfl rfl rfl rfl (by kernel_rfl) Try.func4 (by kernel_rfl)
  (of_decide_eq_true (by kernel_rfl)) (by unfold Func.isWrapper;first|(rw[if_pos (by decide+kernel)];kernel_rfl)|(rw[if_neg (by decide+kernel)];exact⟨rfl,rfl⟩))
  (fun os started H enc _=>lifted os started H enc)
theorem proved:Ytmmmknhdigapkaa.Rows.PoolBackSaid:=over
end
end Go.Proofs.Ytmmmknhdigapkaa.poolBack
