/-
  'PoolCut' answers true, whatever the input: no beginning of a pool's bytes is a pool's, and nothing may stand behind them.
-/
import Derived.Test.YtmmmknhdigapkaaRows
import Derived.Test.YtmmmknhdigapkaaTxT
import Derived.Test.YtmmmknhdigapkaaEvTr
import Derived.WalkKit
import Derived.ProofKit
import Derived.OpenShut
import Derived.ChangeMaps5
import Derived.Deep.Slices
namespace Go.Proofs.Ytmmmknhdigapkaa.poolCut
open Go.Ev Go.RowKit Go.ChangeShapes Go.WideShapes Go.ChangeAt Go.Proofs.Ytmmmknhdigapkaa.poolS Go.ChangeMaps
set_option linter.unusedVariables false
noncomputable section
theorem e4K:ownKnob Try.prog.godebug=none:=by kernel_rfl
theorem d7F:a7J Try.prog 9 22 (.l a1T)=true:=by kernel_rfl
set_option maxRecDepth 100000 in
theorem lifted(os:Os)(started:os.Started)(H:Type)(enc:TypeId×Value→H):
  ReturnsInHanded {} Try.checked os 5 .any (Ytmmmknhdigapkaa.Rows.poolCutSpec.pre6 enc Try.prog Try.f5 Ytmmmknhdigapkaa.Rows.poolCutRow.domain false) (Ytmmmknhdigapkaa.Rows.poolCutSpec.post enc Try.prog Try.f5 false true false false):=by
 refine returnsInHanded_of_change (C:=Try.checked) e4K started (by kernel_rfl) Try.func5
  (ChangeSpec.witness6 (enc:=enc) (C:=Try.checked) false ⟨#[], #[.slice none 0 0,.int .u16 0,.string ⟨#[]⟩],[]⟩ 8 (by kernel_rfl) (by kernel_rfl) (by kernel_rfl) (by kernel_rfl)) ?_
 intro W base args ds gs before hval0 hW hcnd _;have hval: ∀(j:Nat) t v,Try.f5.params[j]? =some t→args[j]? =some v→Value.okWide Try.prog W .any base t v:=hval0;have hW':=hW;obtain⟨p,q,hA0,hV,rfl,hfz,hnd⟩:=hW;have hA:DataW.TrodAll enc Try.prog W 0 (fun _=>true) true Try.f5.params.toList args.toList ds p:=hA0;rw[Try.params5]at hA hval;obtain⟨v0,v1,v2,d0,d1,d2,p0,p1,p2,rfl,rfl,rfl,h0,h1,h2⟩:=trodAll_three hA;obtain⟨rfl,rfl⟩:=trodVars_none hV;obtain⟨s,rfl,rfl,rfl,ws⟩:=open_string Try.underlying9 (hval 2 9 v2 rfl rfl) h2;obtain⟨n,rfl,rfl,rfl,wn⟩:=open_int Try.underlying34 (hval 1 34 v1 rfl rfl) h1;obtain⟨a0,len,cap,rfl⟩:=okWide_slice Try.underlying22 (hval 0 22 v0 rfl rfl);clear hA0 hval0;have hlt: ∀x∈p0,x.block<W.heap.size:=fun x hx=>by simpa using hW'.lt x (by simp[hx])
 simp only[List.append_nil]at hW';obtain⟨fuel,hf⟩:=h0;have hf':DataW.trod enc Try.prog W 0 (fun _=>true) true fuel 22 [.slice a0 len cap]=some (d0,p0):=hf;obtain⟨g,hg,k1,k2⟩:=b7g 9 22 _ _ _ _ d7F hf';obtain⟨v,es,rfl,_,_⟩:=b3l k1
 have hs:(s.size:Int)≤9223372036854775807:=by
  have h9:maxLen≤9223372036854775807:=by decide
  omega
 have hn:0≤n∧n≤65535:=by simpa[Lit.wf,IntKind.min,IntKind.max,IntKind.signed,IntKind.bits]using wn
 have hl:=c4R v es n s hn.1 ⟨k1,⟨rfl,hn.1,hn.2⟩,hs,trivial⟩ ⟨k2,by simp only[GM],by simp only[GM],trivial⟩;rw[show v= .slice a0 len cap from hg]at hl;refine hl.mono fun e W' ⟨he,hb⟩=> ?_;subst he;have hargs:=Below.trod (by kernel_rfl) (by kernel_rfl) (of_decide_eq_true (by kernel_rfl)) (⟨fuel,hf⟩:DataW.Trod enc Try.prog W 0 (fun _=>true) true 22 (.slice a0 len cap) d0 p0) hb hlt;exact⟨_,rfl,_,_,_,[],p0++([]++ []),[],hW',trodAll_mk1 (shut_bool Try.underlying4 _),trodAll_mk3 hargs (shut_int Try.underlying34 wn) (shut_string Try.underlying9 ws),rfl,hb.frame _,fun h=>by cases h⟩
theorem over:Ytmmmknhdigapkaa.Rows.poolCutRow.holds Ytmmmknhdigapkaa.Try.pinned (OpenSpec.ofChange Ytmmmknhdigapkaa.Rows.poolCutSpec):=
 OpenClaim.holds_of_wide 5 Try.f5 rfl rfl rfl rfl rfl rfl rfl ⟨rfl,rfl,rfl,rfl,rfl⟩ rfl rfl rfl rfl rfl (by kernel_rfl) Try.func5 (by kernel_rfl)
  (of_decide_eq_true (by kernel_rfl)) (by unfold Func.isWrapper;first|(rw[if_pos (by decide+kernel)];kernel_rfl)|(rw[if_neg (by decide+kernel)];exact⟨rfl,rfl⟩))
  (fun os started H enc _=>lifted os started H enc)
theorem proved:Ytmmmknhdigapkaa.Rows.PoolCutSaid:=over
end
end Go.Proofs.Ytmmmknhdigapkaa.poolCut
