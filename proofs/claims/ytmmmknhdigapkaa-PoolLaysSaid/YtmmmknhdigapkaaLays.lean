/-
  'PoolLays' answers true, whatever the input: the program's and the document's checks of a pool tell the same, and so do the bytes that they lay it in.
-/
import Derived.Test.YtmmmknhdigapkaaRows
import Derived.Test.YtmmmknhdigapkaaTxH
import Derived.Test.YtmmmknhdigapkaaEvTq
import Derived.WalkKit
import Derived.ProofKit
import Derived.OpenShut
import Derived.Deep.Slices
namespace Go.Proofs.Ytmmmknhdigapkaa.poolLays
open Go.Ev Go.RowKit Go.ChangeShapes Go.WideShapes Go.ChangeAt
set_option linter.unusedVariables false
noncomputable section
theorem e3q:ownKnob Try.prog.godebug=none:=by kernel_rfl
theorem d5n:a7J Try.prog 9 22 (.l a5f)=true:=by kernel_rfl
set_option maxRecDepth 100000 in
theorem lifted(os:Os)(started:os.Started)(H:Type)(enc:TypeId×Value→H):
  ReturnsInHanded {} Try.checked os 3 .any (Ytmmmknhdigapkaa.Rows.poolLaysSpec.pre6 enc Try.prog Try.f3 Ytmmmknhdigapkaa.Rows.poolLaysRow.domain false) (Ytmmmknhdigapkaa.Rows.poolLaysSpec.post enc Try.prog Try.f3 false true false false):=by
 refine returnsInHanded_of_change (C:=Try.checked) e3q started (by kernel_rfl) Try.func3
  (ChangeSpec.witness6 (enc:=enc) (C:=Try.checked) false ⟨#[], #[.slice none 0 0],[]⟩ 8 (by kernel_rfl) (by kernel_rfl) (by kernel_rfl) (by kernel_rfl)) ?_
 intro W base args ds gs before hval0 hW hcnd _
 have hval: ∀(j:Nat) t v,Try.f3.params[j]? =some t→args[j]? =some v→Value.okWide Try.prog W .any base t v:=hval0
 have hW':=hW
 obtain⟨p,q,hA0,hV,rfl,hfz,hnd⟩:=hW
 have hA:DataW.TrodAll enc Try.prog W 0 (fun _=>true) true Try.f3.params.toList args.toList ds p:=hA0
 rw[Try.params3]at hA hval
 obtain⟨v0,d0,rfl,rfl,h0⟩:=trodAll_one hA
 obtain⟨rfl,rfl⟩:=trodVars_none hV
 obtain⟨a0,len,cap,rfl⟩:=okWide_slice Try.underlying22 (hval 0 22 v0 rfl rfl)
 clear hA0 hval0
 have hlt: ∀x∈p,x.block<W.heap.size:=fun x hx=>by simpa using hW'.lt x (by simp[hx])
 simp only[List.append_nil]at hW'
 obtain⟨fuel,hf⟩:=h0
 have hf':DataW.trod enc Try.prog W 0 (fun _=>true) true fuel 22 [.slice a0 len cap]=some (d0,p):=hf
 obtain⟨g,hg,h1,h2⟩:=b7E 9 22 _ _ _ _ d5n hf'
 obtain⟨v,es,rfl,_,_⟩:=c1y h1
 have hl:=c5D v es ⟨h1,trivial⟩ ⟨h2,trivial⟩
 rw[show v= .slice a0 len cap from hg]at hl
 refine hl.mono fun e W' ⟨he,hb⟩=> ?_
 subst he
 have hargs:=Below.trod (by kernel_rfl) (by kernel_rfl) (of_decide_eq_true (by kernel_rfl)) (⟨fuel,hf⟩:DataW.Trod enc Try.prog W 0 (fun _=>true) true 22 (.slice a0 len cap) d0 p) hb hlt
 exact⟨_,rfl,_,_,_,[],p,[],hW',trodAll_mk1 (shut_bool Try.underlying4 _),trodAll_mk1 hargs,rfl,hb.frame _,fun h=>by cases h⟩
theorem over:Ytmmmknhdigapkaa.Rows.poolLaysRow.holds Ytmmmknhdigapkaa.Try.pinned (OpenSpec.ofChange Ytmmmknhdigapkaa.Rows.poolLaysSpec):=
 OpenClaim.holds_of_wide 3 Try.f3 rfl rfl rfl rfl rfl rfl rfl ⟨rfl,rfl,rfl,rfl,rfl⟩ rfl rfl rfl rfl rfl (by kernel_rfl) Try.func3 (by kernel_rfl)
  (of_decide_eq_true (by kernel_rfl)) (by unfold Func.isWrapper;first|(rw[if_pos (by decide+kernel)];kernel_rfl)|(rw[if_neg (by decide+kernel)];exact⟨rfl,rfl⟩))
  (fun os started H enc _=>lifted os started H enc)
theorem proved:Ytmmmknhdigapkaa.Rows.PoolLaysSaid:=over
end
end Go.Proofs.Ytmmmknhdigapkaa.poolLays
