/-
  works() of chapter 6 answers true: by contracts.
-/
import Derived.Test.YtmmmknhdigapkaaTxR
namespace Go.Proofs.Ytmmmknhdigapkaa.poolCut
open Go.Ev Go.RowKit Go.Proofs.Ytmmmknhdigapkaa.poolS Go.Proofs.Ytmmmknhdigapkaa.plq
set_option linter.unusedVariables false
set_option maxRecDepth 100000
def a2v(s:ByteArray):List G:=cdL s 1 0 0 0 0 1 0 0 0 (.slice none 0 0) []
theorem a4M(w:World)(s:ByteArray):Calls Try.prog 15 #[.string s] w fun e w'=>e= .returned (.agg #[.string s,.int .i64 1,.int .i64 0,.int .i64 0,.int .i64 0,.int .i64 0,.int .i64 1,.int .i64 0,.int .i64 0,.int .i64 0,.slice none 0 0])∧w'=w.alloc (.cells #[.string s,.int .i64 1,.int .i64 0,.int .i64 0,.int .i64 0,.int .i64 0,.int .i64 1,.int .i64 0,.int .i64 0,.int .i64 0,.slice none 0 0] 40):=by go_enter Try.func15,Try.ntmps15;go_wp2;refine⟨rfl,.agg #[.string s,.int .i64 1,.int .i64 0,.int .i64 0,.int .i64 0,.int .i64 0,.int .i64 1,.int .i64 0,.int .i64 0,.int .i64 0,.slice none 0 0], ?_,rfl,rfl⟩;simp[results,Try.results15,go_sem]
theorem b5H(s:ByteArray)(h:(s.size:Int)≤9223372036854775807):TyL a1T (a2v s):=⟨h,⟨rfl,by decide,by decide⟩,⟨rfl,by decide,by decide⟩,⟨rfl,by decide,by decide⟩,⟨rfl,by decide,by decide⟩,⟨rfl,by decide,by decide⟩,⟨rfl,by decide,by decide⟩,⟨rfl,by decide,by decide⟩,⟨rfl,by decide,by decide⟩,⟨rfl,by decide,by decide⟩,⟨trivial,by decide,none,0,rfl,Nat.le_refl _⟩,trivial⟩
theorem c0Z{W:World}{B O:Nat}{c:Array Value}{e:TypeId}{fr:Nat×Nat}{s:ByteArray}(hB:W.heap[B]? =some (.cells c e fr))(hc: ∀j g,(a2v s)[j]? =some g→c[O+j]? =some g.val):GMC W B O (a2v s):=by
 refine GMC.all fun j g hj=>⟨?_, ?_⟩
 ·unfold World.cell?;simp only[hB];exact hc j g hj
 ·match j,hj with
  |0,hj=>cases hj;simp only[GM]
  |1,hj=>cases hj;simp only[GM]
  |2,hj=>cases hj;simp only[GM]
  |3,hj=>cases hj;simp only[GM]
  |4,hj=>cases hj;simp only[GM]
  |5,hj=>cases hj;simp only[GM]
  |6,hj=>cases hj;simp only[GM]
  |7,hj=>cases hj;simp only[GM]
  |8,hj=>cases hj;simp only[GM]
  |9,hj=>cases hj;simp only[GM]
  |10,hj=>cases hj;simp only[GM];exact⟨none,0,rfl,.inl ⟨trivial,.inl rfl⟩⟩
  |j+11,hj=>simp[a2v,cdL]at hj
theorem c2K{W:World}{B:Nat}{o:Obj}(h:W.heap[B]? =some o):B<W.heap.size:=by
 rcases Nat.lt_or_ge B W.heap.size with hb|hb
 ·exact hb
 ·rw[Array.getElem?_eq_none hb]at h;cases h
theorem c2C{W:World}{B:Nat}{e:TypeId}{fr:Nat×Nat}{s:ByteArray}(hB:W.heap[B]? =some (.cells #[.string s,.int .i64 1,.int .i64 0,.int .i64 0,.int .i64 0,.int .i64 0,.int .i64 1,.int .i64 0,.int .i64 0,.int .i64 0,.slice none 0 0] e fr)):GML W [.l (.slice (some ⟨B,0,none⟩) 1 1) [a2v s]]:=by
 refine⟨?_,trivial⟩;simp only[GM];refine⟨_,_,rfl,.inr ⟨B,0,rfl,.inr ⟨c2K hB, ?_⟩⟩⟩;simp only[GME,and_true];refine c0Z hB fun j g hj=> ?_;rw[Nat.zero_add]
 match j,hj with
 |0,hj=>cases hj;rfl
 |1,hj=>cases hj;rfl
 |2,hj=>cases hj;rfl
 |3,hj=>cases hj;rfl
 |4,hj=>cases hj;rfl
 |5,hj=>cases hj;rfl
 |6,hj=>cases hj;rfl
 |7,hj=>cases hj;rfl
 |8,hj=>cases hj;rfl
 |9,hj=>cases hj;rfl
 |10,hj=>cases hj;rfl
 |j+11,hj=>simp[a2v,cdL]at hj
def la:List (List G):=[a2v ⟨#[97]⟩]
theorem b5I:a7p la=⟨#[1,1,97,1,0,0,0,0,1,0,0,0,0]⟩:=by kernel_rfl
theorem e1T:(la.map b1k).all (okD (la.map b1k))=true:=by kernel_rfl
theorem c6z:a3y la=0:=by unfold a3y PL.chk;rw[if_neg (by decide),if_neg (by decide),if_pos e1T,if_neg];rintro⟨i,k,h1,h2,_⟩;have:i<1:=h2;omega
theorem d3n:a3y [a2v ⟨#[97]⟩,a2v ⟨#[97]⟩]=11:=by unfold a3y PL.chk;rw[if_neg (by decide),if_neg (by decide),if_pos (by kernel_rfl),if_pos];exact⟨1,0,by decide,by decide,rfl⟩
theorem d3o:a3y [a2v ⟨#[]⟩]=10:=by unfold a3y PL.chk;rw[if_neg (by decide),if_neg (by decide),if_neg (by rw[show(List.map b1k [a2v ⟨#[]⟩]).all (okD (List.map b1k [a2v ⟨#[]⟩]))=false by kernel_rfl];decide)]
theorem c6U:a3y []=2:=by unfold a3y PL.chk;exact if_pos rfl
end Go.Proofs.Ytmmmknhdigapkaa.poolCut
