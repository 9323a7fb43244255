/-
  PutNum: what it tells.
-/
import Derived.Test.YtmmmknhdigapkaaProg
import Derived.Tactics
import Derived.Tactics2
import Derived.Laws.CopyOwn
import Derived.Laws.MakeOwn
namespace Go.Proofs.Ytmmmknhdigapkaa.poolS
open Go.RowKit
theorem c5E{P:Program}{o:Oper}{a:Act}{K:Act→World→Prop}{Q:Exit→Act→World→Prop}{w:World}{t:TypeId}{S:ByteArray}{k:IntKind}{v:Int}(hu:P.underlying t=some .string)(h0:0≤v)(h1:v<S.size)
  (h: ∀b,S[v.toNat]? =some b→K (a.put o.dst (.int .u8 (b.toNat:Int))) w):
  Oper.upon P o a K Q ((Sem.run P (Instr.index t (.string S) (.int k v)) w).andThen fun a w'=>Result.ok (Next.value a) w'):=by
 have h2:v.toNat<S.size:=by omega
 have hb:S[v.toNat]? =some S[v.toNat]:=getElem?_pos S v.toNat h2
 have hrun:(Instr.index t (.string S) (.int k v)).run P w= .ok (.int .u8 (S[v.toNat].toNat:Int)) w:=by simp[Instr.index,run_underlying hu,asIntOf,h0,hb]
 rw[hrun];exact h _ hb
def e2n(v:Nat)(b:UInt8):Bool:=decide (b.toNat≤8)&&(List.range 8).all fun j=>decide (2^j≤v↔j<b.toNat)
def d6O(S:ByteArray):Bool:=decide (S.size=256)&&(List.range 256).all fun v=>match S[v]? with
 |some b=>e2n v b|none=>false
theorem d6N{S:ByteArray}(hS:d6O S=true){v:Int}{b:UInt8}(h:S[v.toNat]? =some b)(h0:0≤v):b.toNat≤8∧(1≤v↔0<b.toNat)∧(2≤v↔1<b.toNat)∧(4≤v↔2<b.toNat)∧(8≤v↔3<b.toNat)∧(16≤v↔4<b.toNat)∧(32≤v↔5<b.toNat)∧(64≤v↔6<b.toNat)∧(128≤v↔7<b.toNat):=by
 unfold d6O at hS;simp only[Bool.and_eq_true,decide_eq_true_eq,List.all_eq_true,List.mem_range]at hS;obtain⟨hs,ha⟩:=hS
 have hv:v.toNat<256:=by
  rw[←hs];rcases Nat.lt_or_ge v.toNat S.size with h1|h1
  ·exact h1
  ·rw[getElem?_neg S v.toNat (by omega)]at h;cases h
 have:=ha _ hv;rw[h]at this;simp only[e2n,Bool.and_eq_true,decide_eq_true_eq,List.all_eq_true,List.mem_range]at this;obtain⟨h8,hj⟩:=this;have j0:=hj 0 (by decide);have j1:=hj 1 (by decide);have j2:=hj 2 (by decide);have j3:=hj 3 (by decide);have j4:=hj 4 (by decide);have j5:=hj 5 (by decide);have j6:=hj 6 (by decide);have j7:=hj 7 (by decide);refine⟨h8, ?_, ?_, ?_, ?_, ?_, ?_, ?_, ?_⟩<;>omega
structure Bits(x n:Int):Prop where
 lo:0≤n
 hi:n≤64
 a1:7<n↔128≤x
 a2:14<n↔16384≤x
 a3:21<n↔2097152≤x
 a4:28<n↔268435456≤x
 a5:35<n↔34359738368≤x
 a6:42<n↔4398046511104≤x
 a7:49<n↔562949953421312≤x
 a8:56<n↔72057594037927936≤x
set_option maxRecDepth 100000 in
set_option maxHeartbeats 2000000 in
theorem e1S(x:Int)(w:World)(h0:0≤x)(h1:x<18446744073709551616):
  Calls Try.prog 53 #[.int .u64 x] w fun e w'=> ∃n,e= .returned (.int .i64 n)∧w'=w∧Bits x n:=by
 go_enter Try.func53,Try.ntmps53;go_wp2
 all_goals (refine c5E Try.underlying9 (by omega) (by show _<((256:Nat):Int);omega) fun b hb=> ?_)
 all_goals (apply_assumption)
 all_goals go_wp2
 all_goals
  have ht:=d6N (by kernel_rfl) hb (by omega);clear hb;go_ret;refine⟨_,rfl,rfl, ?_⟩;constructor<;>omega
end Go.Proofs.Ytmmmknhdigapkaa.poolS
