/-
  Stable sorting of short lists, as known calls.
-/
import Derived.Test.YtgbhmkdldfhamaaTxA
namespace Go.Proofs.Ytgbhmkdldfhamaa.order
open Go.Ev Go.RowKit
set_option linter.unusedVariables false
noncomputable section
def Emt (iv : Ivs) (fs : List Fact) : Env := ⟨fun _ => none, ivAt iv, fs, fun _ => none⟩
def smiv0 : Go.Ev.Ivs := [bI, bI, (0, 19)]
def smt0 : Go.Ev.TrX Go.Ev.Leaf := (.leaf (.goto 1 [(.agg [(.sym 1)])]))
def smc0 : Go.Ev.CutP := ⟨none, (.nd (.nd .lf (some (.sint .i64 2)) .lf) (some (.lsl 0 2 0)) (.nd .lf (some (.func (.func 31) [(.lsl 0 2 0)] [])) .lf)), (.nd .lf (some (.list 0 2 4 [] none)) .lf), 1, 0, [], smiv0, Emt, smt0⟩
def smiv1 : Go.Ev.Ivs := [bI, bI, (0, 19)]
def smt1 : Go.Ev.TrX Go.Ev.Leaf := (.leaf (.ret .any))
def smc1 : Go.Ev.CutP := ⟨none, (.nd .lf (some (.tuple [])) .lf), (.nd .lf (some (.list 1 2 4 [] none)) .lf), 1, 3, [(.agg [(.sym 1), (.sint .i64 2), (.int .i64 (4))])], smiv1, Emt, smt1⟩
def smKT : List Go.Ev.KE := []
def smK2 : List Go.Ev.KE2 := [⟨50, [(.lsl 0 2 0), (.int .i64 (0)), (.sint .i64 2), (.func (.func 31) [(.lsl 0 2 0)] [])], 1, [(0, (.list 0 2 4 [] none))], (.tuple []), [(0, (.list 1 2 4 [] none))], 1⟩]
def smC : List Go.Ev.CutP := [smc0, smc1]
def smbody : Code := match Try.f44.body with | some c => c | none => .skip
def smlf (c : Go.Ev.CutP) : Go.Ev.Ivs → List Go.Ev.Fact → Go.Ev.Leaf → Bool := Go.Ev.chkLfH Try.prog (Go.Ev.rcKA Try.prog smKT smK2 20000) Try.f44.ntmps [] 1000 Try.f44.results.toList smbody smC 1 c
theorem smk0 : Go.Ev.chkX (smlf smc0) smt0 smiv0 [] = true := by kernel_rfl
theorem smauto : @Go.Ev.AutoH (Go.Ev.extKA Try.prog smKT smK2) Try.prog (Go.Ev.rcKA Try.prog smKT smK2 20000) Try.f44 smbody [] 1000 smC (fun _ => none) 1 := Go.Ev.auto_ofH noNG mixed (by kernel_rfl) ⟨.inr smk0, .inl rfl, trivial⟩ ⟨(fun _ _ => rfl), (fun _ _ => rfl), trivial⟩
def ssiv0 : Go.Ev.Ivs := [bI, bI, (0, 19)]
def sst0 : Go.Ev.TrX Go.Ev.Leaf := (.leaf (.goto 1 [(.agg [(.sym 1)])]))
def ssc0 : Go.Ev.CutP := ⟨none, (.nd (.nd .lf (some (.func (.func 31) [(.lsl 0 2 0)] [])) .lf) (some (.lsl 0 2 0)) .lf), (.nd .lf (some (.list 0 2 4 [] none)) .lf), 1, 0, [], ssiv0, Emt, sst0⟩
def ssiv1 : Go.Ev.Ivs := [bI, bI, (0, 19)]
def sst1 : Go.Ev.TrX Go.Ev.Leaf := (.leaf (.ret .any))
def ssc1 : Go.Ev.CutP := ⟨none, (.nd .lf (some (.tuple [])) .lf), (.nd .lf (some (.list 1 2 4 [] none)) .lf), 1, 3, [(.agg [(.sym 1), (.sint .i64 2), (.int .i64 (4))])], ssiv1, Emt, sst1⟩
def ssKT : List Go.Ev.KE := []
def ssK2 : List Go.Ev.KE2 := [⟨44, [(.lsl 0 2 0), (.sint .i64 2), (.func (.func 31) [(.lsl 0 2 0)] [])], 1, [(0, (.list 0 2 4 [] none))], (.tuple []), [(0, (.list 1 2 4 [] none))], 1⟩]
def ssC : List Go.Ev.CutP := [ssc0, ssc1]
def ssbody : Code := match Try.f30.body with | some c => c | none => .skip
def sslf (c : Go.Ev.CutP) : Go.Ev.Ivs → List Go.Ev.Fact → Go.Ev.Leaf → Bool := Go.Ev.chkLfH Try.prog (Go.Ev.rcKA Try.prog ssKT ssK2 20000) Try.f30.ntmps [] 1000 Try.f30.results.toList ssbody ssC 1 c
theorem ssk0 : Go.Ev.chkX (sslf ssc0) sst0 ssiv0 [] = true := by kernel_rfl
theorem ssauto : @Go.Ev.AutoH (Go.Ev.extKA Try.prog ssKT ssK2) Try.prog (Go.Ev.rcKA Try.prog ssKT ssK2 20000) Try.f30 ssbody [] 1000 ssC (fun _ => none) 1 := Go.Ev.auto_ofH noNG mixed (by kernel_rfl) ⟨.inr ssk0, .inl rfl, trivial⟩ ⟨(fun _ _ => rfl), (fun _ _ => rfl), trivial⟩

/-- A list's values. -/
def valsOf : List Eff → List Value
  | [] => []
  | x :: l => .int .i64 x.op :: .int .i64 x.a :: .int .i64 x.b :: .int .i64 x.st :: valsOf l
theorem svals_cells (ρ : Rho) : ∀ l : List Eff, svals ρ (cellsOf l) = some (valsOf l)
  | [] => rfl
  | x :: l => by simp only [cellsOf, svals, i8, sval, svals_cells ρ l, valsOf]
theorem car_list {ρ ρ' : Rho} {i j n : Nat} {l : List Eff} (h : ρ.lst i = cellsOf l) (h' : ρ'.lst j = cellsOf l) (hn : ρ'.int n = (l.length : Int)) : Car ρ ρ' (.agg [.sym i], .agg [.sym j, .sint .i64 n, .int .i64 4]) := by
  refine ⟨valsOf l, ?_, ?_, ?_, ?_⟩
  · simp only [lstX, List.append_nil, h, svals_cells]
  · simp only [List.append_nil, h', svals_cells]
  · rw [hn]; omega
  · rw [h', cellsOf_len, hn]; rfl
theorem car_len {ρ ρ' : Rho} {n m : Nat} (h : ρ'.int m = ρ.int n) : Car ρ ρ' (.tuple [.sint .i64 n, .int .i64 0], .tuple [.sint .i64 m, .int .i64 0]) := by
  refine ⟨(ρ.int n).toNat, ?_, ?_⟩
  · simp [lenX]
  · simp [lenX, h]
def stabK : KE2 := ⟨44, [.lsl 0 2 0, si 2, cmpL], 1, [(0, .list 0 2 4 [] none)], .tuple [], [(0, .list 1 2 4 [] none)], 1⟩
theorem em_ok {ρ : Rho} {w : World} (iv : Ivs) (fs : List Fact) (h1 : IvOK iv ρ) (h2 : FsOK fs ρ) (φ : Phi) (hφ : φ.ρ = ρ) : EnvP (Emt iv fs) φ w :=
  ⟨by rw [hφ]; exact h1, by rw [hφ]; exact h2, fun k cs h => by cases h⟩
theorem iv_sm {ρ : Rho} {l : List Eff} (h : SortRho ρ l) (hI : ∀ k, I64 (ρ.int k)) (hl : l.length ≤ 19) : IvOK smiv0 ρ := by
  refine iv_all (f := ρ.int) ?_ hI
  have hn := h.n
  refine ⟨hI 0, hI 1, ⟨?_, ?_⟩, trivial⟩
  · show (0 : Int) ≤ ρ.int 2; omega
  · show ρ.int 2 ≤ (19 : Int); omega
theorem stab_ke2 {ρ : Rho} {l : List Eff} (h : SortRho ρ l) (hI : ∀ k, I64 (ρ.int k)) (hl : l.length ≤ 19) (w0 : World) : KE2ok Try.prog ρ w0 stabK := by
  letI : Ext := extKA Try.prog smKT smK2
  have hx : @Ext.ok (extKA Try.prog smKT smK2) ρ w0 := ⟨(fun e he => by cases he), fun e he => by
    simp only [smK2, List.mem_singleton] at he
    subst he
    exact sort_ke2 h w0⟩
  have ok0 : smc0.OK w0 ρ := CutP.ok_of hx (iv_sm h hI hl) (fun iv fs => em_ok iv fs)
  have ok1 : smc1.OK w0 ρ := CutP.ok_of hx (iv_sm h hI hl) (fun iv fs => em_ok iv fs)
  have ha : agree 3 ρ ρ := fun k hk => ⟨rfl, rfl, rfl, rfl, rfl⟩
  refine ke2_of smauto (e := stabK) Try.func44 (by kernel_rfl) (args := [.lsl 0 2 0, si 2, cmpL]) (by kernel_rfl) rfl (c := smc0) (d := smc1) (q' := 1) (p0 := 0) rfl rfl rfl rfl rfl (zs1 := [.agg [.sym 0], .tuple [si 2, i8 0], si 2, .tuple [si 2, i8 0]]) (ys1 := [.agg [.sym 0, si 2, i8 4], .tuple [si 2, i8 0], si 2, .tuple [si 2, i8 0]]) (zs2 := [.agg [.sym 1]]) (ys2 := [.agg [.sym 1, si 2, i8 4]]) (by kernel_rfl) (by kernel_rfl) ⟨ρ, ρ, 0, ?_, .exit (c := smc0) (d := smc1) (xs := [.agg [.sym 1]]) rfl ok0 rfl rfl rfl ha ⟨car_list h.l1 h.l1 (by rw [h.n, isort_len]), trivial⟩ ok1, ?_⟩
  · exact ⟨car_list h.l0 h.l0 h.n, car_len rfl, car_i rfl, car_len rfl, trivial⟩
  · exact ⟨car_list h.l1 h.l1 (by rw [h.n, isort_len]), trivial⟩
end
end Go.Proofs.Ytgbhmkdldfhamaa.order
namespace Go.Proofs.Ytgbhmkdldfhamaa.order
open Go.Ev Go.RowKit
set_option linter.unusedVariables false
noncomputable section
def ixF : List Fact := [.len false (.sym 0) (si 2)]
def ixEl : List Fact := [.at 4 (.sym 0) (si 10) ⟨.sym 5, 0⟩, .bin .add (si 10) (.int .i64 1) (si 9)]
def Eix (iv : Ivs) (fs : List Fact) : Env := match hasLss fs 10 2 with
  | true => ⟨fun _ => none, ivAt iv, fs ++ (ixF ++ ixEl), fun i => match Nat.beq i 5 with | true => some [sv iv .i64 20, si 21, si 22, si 23] | false => none⟩
  | false => ⟨fun _ => none, ivAt iv, fs ++ ixF, fun _ => none⟩
theorem Eix_blk (iv : Ivs) (fs : List Fact) : (Eix iv fs).blk = fun _ => none := by
  unfold Eix
  split <;> rfl
def ixiv0 : Go.Ev.Ivs := [bI, bI, (0, 9223372036854775807), bI, bI, bI, bI, bI, bI, bI, (0, 9223372036854775807), bI, bI, bI, bI, bI, bI, bI, bI, bI, (1, 4), bI, bI, bI]
def ixt0 : Go.Ev.TrX Go.Ev.Leaf := (.leaf (.goto 1 [(.int .i64 (0))]))
def ixc0 : Go.Ev.CutP := ⟨none, (.nd (.nd .lf (some (.func (.func 28) [] [])) .lf) (some (.sym 0)) .lf), .lf, 0, 0, [], ixiv0, Eix, ixt0⟩
def ixiv1 : Go.Ev.Ivs := [bI, bI, (0, 9223372036854775807), bI, bI, bI, bI, bI, bI, bI, (0, 9223372036854775807), bI, bI, bI, bI, bI, bI, bI, bI, bI, (1, 4), bI, bI, bI]
def ixt1 : Go.Ev.TrX Go.Ev.Leaf := (.rel .i64 10 2 (.cut 20 (1) (.leaf (.goto 1 [(.sint .i64 9)])) (.cut 20 (2) (.leaf (.goto 1 [(.sint .i64 9)])) (.cut 20 (3) (.leaf (.goto 1 [(.sint .i64 9)])) (.leaf (.goto 1 [(.sint .i64 9)]))))) (.leaf (.goto 2 [])))
def ixc1 : Go.Ev.CutP := ⟨some 0, (.nd (.nd (.nd (.nd (.nd .lf (some .any) .lf) (some (.sint .i64 2)) .lf) (some .any) (.nd .lf (some .any) .lf)) (some (.func (.func 28) [] [])) (.nd (.nd (.nd .lf (some .any) .lf) (some .any) .lf) (some .any) (.nd .lf (some .any) .lf))) (some (.sym 0)) (.nd (.nd (.nd (.nd .lf (some .any) .lf) (some (.sint .i64 10)) .lf) (some (.int .i64 (0))) (.nd .lf (some .any) .lf)) (some .any) (.nd (.nd (.nd .lf (some .any) .lf) (some .any) .lf) (some .any) (.nd .lf (some .any) .lf)))), .lf, 0, 3, [(.sint .i64 10)], ixiv1, Eix, ixt1⟩
def ixiv2 : Go.Ev.Ivs := [bI, bI, (0, 9223372036854775807), bI, bI, bI, bI, bI, bI, bI, (0, 9223372036854775807), bI, bI, bI, bI, bI, bI, bI, bI, bI, (1, 4), bI, bI, bI]
def ixt2 : Go.Ev.TrX Go.Ev.Leaf := (.leaf (.ret .any))
def ixc2 : Go.Ev.CutP := ⟨none, (.nd .lf (some (.int .i64 (-1))) .lf), .lf, 0, 0, [], ixiv2, Eix, ixt2⟩
def ixKT : List Go.Ev.KE := []
def ixK2 : List Go.Ev.KE2 := []
def ixC : List Go.Ev.CutP := [ixc0, ixc1, ixc2]
def ixbody : Code := match Try.f42.body with | some c => c | none => .skip
def ixlf (c : Go.Ev.CutP) : Go.Ev.Ivs → List Go.Ev.Fact → Go.Ev.Leaf → Bool := Go.Ev.chkLfH Try.prog (Go.Ev.rcKA Try.prog ixKT ixK2 20000) Try.f42.ntmps [0] 1000 Try.f42.results.toList ixbody ixC 0 c
theorem ixk0 : Go.Ev.chkX (ixlf ixc0) ixt0 ixiv0 [] = true := by kernel_rfl
theorem ixk1 : Go.Ev.chkX (ixlf ixc1) ixt1 ixiv1 [] = true := by kernel_rfl
theorem ixauto : @Go.Ev.AutoH (Go.Ev.extKA Try.prog ixKT ixK2) Try.prog (Go.Ev.rcKA Try.prog ixKT ixK2 20000) Try.f42 ixbody [0] 1000 ixC (fun _ => none) 0 := Go.Ev.auto_ofH noNG mixed (by kernel_rfl) ⟨.inr ixk0, .inr ixk1, .inl rfl, trivial⟩ ⟨Eix_blk, Eix_blk, Eix_blk, trivial⟩

def delV : VV := .func (.func 28) [] []
def idxK : KE2 := ⟨42, [.lsl 0 2 0, delV], 1, [(0, .list 0 2 4 [] none)], i8 (-1), [(0, .list 0 2 4 [] none)], 1⟩
def dliv0 : Go.Ev.Ivs := [bI, bI, (0, 9223372036854775807)]
def dlt0 : Go.Ev.TrX Go.Ev.Leaf := (.leaf (.goto 1 [(.agg [(.sym 0)])]))
def dlc0 : Go.Ev.CutP := ⟨none, (.nd (.nd .lf (some (.func (.func 28) [] [])) .lf) (some (.lsl 0 2 0)) .lf), (.nd .lf (some (.list 0 2 4 [] none)) .lf), 1, 0, [], dliv0, Emt, dlt0⟩
def dliv1 : Go.Ev.Ivs := [bI, bI, (0, 9223372036854775807)]
def dlt1 : Go.Ev.TrX Go.Ev.Leaf := (.leaf (.ret .any))
def dlc1 : Go.Ev.CutP := ⟨none, (.nd .lf (some (.lsl 0 2 0)) .lf), (.nd .lf (some (.list 0 2 4 [] none)) .lf), 1, 3, [(.agg [(.sym 0), (.sint .i64 2), (.int .i64 (4))])], dliv1, Emt, dlt1⟩
def dlKT : List Go.Ev.KE := []
def dlK2 : List Go.Ev.KE2 := [⟨42, [(.lsl 0 2 0), (.func (.func 28) [] [])], 1, [(0, (.list 0 2 4 [] none))], (.int .i64 (-1)), [(0, (.list 0 2 4 [] none))], 1⟩]
def dlC : List Go.Ev.CutP := [dlc0, dlc1]
def dlbody : Code := match Try.f27.body with | some c => c | none => .skip
def dllf (c : Go.Ev.CutP) : Go.Ev.Ivs → List Go.Ev.Fact → Go.Ev.Leaf → Bool := Go.Ev.chkLfH Try.prog (Go.Ev.rcKA Try.prog dlKT dlK2 20000) Try.f27.ntmps [] 1000 Try.f27.results.toList dlbody dlC 1 c
theorem dlk0 : Go.Ev.chkX (dllf dlc0) dlt0 dliv0 [] = true := by kernel_rfl
theorem dlauto : @Go.Ev.AutoH (Go.Ev.extKA Try.prog dlKT dlK2) Try.prog (Go.Ev.rcKA Try.prog dlKT dlK2 20000) Try.f27 dlbody [] 1000 dlC (fun _ => none) 1 := Go.Ev.auto_ofH noNG mixed (by kernel_rfl) ⟨.inr dlk0, .inl rfl, trivial⟩ ⟨(fun _ _ => rfl), (fun _ _ => rfl), trivial⟩

/-! ### IndexFunc -/
def eff1 : Eff := ⟨1, 0, 0, 0⟩
def FoIn.at1 (g : FoIn) (i : Nat) : Eff := g.l.getD i eff1
/-- All have a layer. -/
def Acts (l : List Eff) : Prop := ∀ e ∈ l, 1 ≤ e.op ∧ e.op ≤ 4
def xint (g : FoIn) (i : Nat) : Nat → Int
  | 2 => (g.l.length : Int)
  | 9 => w64 ((i : Int) + 1)
  | 10 => (i : Int)
  | 20 => (g.at1 i).op
  | 21 => (g.at1 i).a
  | 22 => (g.at1 i).b
  | 23 => (g.at1 i).st
  | _ => 0
def xrho (g : FoIn) (i : Nat) : Rho :=
  ⟨xint g i, fval g, fun _ => g.B, fun k => if k = 5 then g.O + i * 4 else g.O, fval_one, fun _ => [], fun _ _ h => by cases h⟩
section
variable {w : World} {g : FoIn} {i : Nat}
theorem at1_fit (h : g.OK w) (i : Nat) : (g.at1 i).Fit := by
  unfold FoIn.at1
  rw [List.getD_eq_getElem?_getD]
  cases hx : g.l[i]? with
  | none => exact ⟨⟨by decide, by decide⟩, i64_0, i64_0, i64_0⟩
  | some e => exact h.fit e (List.mem_of_getElem? hx)
theorem at1_acts (h : Acts g.l) (i : Nat) : 1 ≤ (g.at1 i).op ∧ (g.at1 i).op ≤ 4 := by
  unfold FoIn.at1
  rw [List.getD_eq_getElem?_getD]
  cases hx : g.l[i]? with
  | none => exact ⟨by decide, by decide⟩
  | some e => exact h e (List.mem_of_getElem? hx)
theorem at1_of (hi : i < g.l.length) : g.l[i]? = some (g.at1 i) := by
  unfold FoIn.at1
  rw [List.getD_eq_getElem?_getD, List.getElem?_eq_getElem hi]
  rfl
theorem xint_fits (h : g.OK w) (hi : i ≤ g.l.length) : ∀ k, I64 (xint g i k) := fun k => by
  have hn := h.n
  have he := at1_fit h i
  unfold xint
  split
  · exact ⟨by omega, by omega⟩
  · exact w64_fits _
  · exact ⟨by omega, by omega⟩
  · exact he.op
  · exact he.a
  · exact he.b
  · exact he.st
  · exact i64_0
theorem iv_ix (h : g.OK w) (ha : Acts g.l) (hi : i ≤ g.l.length) : IvOK ixiv1 (xrho g i) := by
  have f := xint_fits h hi
  have hl := h.n
  refine iv_all (f := xint g i) ?_ f
  unfold ixiv1
  refine ⟨f 0, f 1, ⟨by show (0 : Int) ≤ (g.l.length : Int); omega, by show (g.l.length : Int) ≤ _; omega⟩, f 3, f 4, f 5, f 6, f 7, f 8, f 9, ⟨by show (0 : Int) ≤ (i : Int); omega, by show (i : Int) ≤ _; omega⟩, f 11, f 12, f 13, f 14, f 15, f 16, f 17, f 18, f 19, at1_acts ha i, f 21, f 22, f 23, trivial⟩
theorem ix_ok (h : g.OK w) (iv : Ivs) (fs : List Fact) (h1 : IvOK iv (xrho g i)) (h2 : FsOK fs (xrho g i)) (φ : Phi) (hφ : φ.ρ = xrho g i) : EnvP (Eix iv fs) φ w := by
  have v : ∀ k, VR φ (sv iv .i64 k) (.int .i64 (xint g i k)) := fun k => by have := VR_sv (φ := φ) (iv := iv) (by rw [hφ]; exact h1) .i64 k; rw [hφ] at this; exact this
  have v' : ∀ k, VR φ (si k) (.int .i64 (xint g i k)) := fun k => by simp only [si, VR, hφ]; rfl
  have hF : FsOK ixF (xrho g i) := fs_cons (fact_len rfl rfl) fs_nil
  unfold Eix
  split
  · rename_i hh
    have hi : (i : Int) < (g.l.length : Int) := lss_has w hh h2
    have hi' : i < g.l.length := by omega
    obtain ⟨g1, g2, g3⟩ := h.cl i _ (at1_of hi')
    have hE : FsOK ixEl (xrho g i) := by
      refine fs_cons (fact_at (n := i) (B := g.B) (O := g.O) (l := g.l.length) (c := g.ca) ?_ rfl hi' rfl rfl) (fs_cons (fact_addW rfl rfl) fs_nil)
      show some (Value.slice g.oa g.l.length g.ca) = _
      rw [g1]
    refine ⟨by rw [hφ]; exact h1, by rw [hφ]; exact fs_app h2 (fs_app hF hE), fun k cs hk => ?_⟩
    simp only at hk
    split at hk
    · rename_i hb
      have := Nat.eq_of_beq_eq_true hb
      subst this
      cases hk
      have eb : φ.ρ.blk 5 = g.B := by rw [hφ]; rfl
      have eo : φ.ρ.off 5 = g.O + i * 4 := by rw [hφ]; rfl
      rw [eb, eo]
      refine ⟨g2, fun j x hx => ?_⟩
      match j with
      | 0 => cases hx; exact ⟨_, g3 0 (by omega), v 20⟩
      | 1 => cases hx; exact ⟨_, g3 1 (by omega), v' 21⟩
      | 2 => cases hx; exact ⟨_, g3 2 (by omega), v' 22⟩
      | 3 => cases hx; exact ⟨_, g3 3 (by omega), v' 23⟩
      | j + 4 => simp at hx
    · cases hk
  · exact ⟨by rw [hφ]; exact h1, by rw [hφ]; exact fs_app h2 hF, fun k cs h => by cases h⟩
theorem extX {ρ : Rho} : @Ext.ok (extKA Try.prog ixKT ixK2) ρ w := ⟨(fun e he => by cases he), (fun e he => by cases he)⟩
theorem okI {c : CutP} (hE : c.E = Eix) (hiv : c.iv = ixiv1) (h : g.OK w) (ha : Acts g.l) (hi : i ≤ g.l.length) : @CutP.OK (extKA Try.prog ixKT ixK2) c w (xrho g i) := by
  refine @CutP.ok_of (extKA Try.prog ixKT ixK2) c w (xrho g i) extX (hiv ▸ iv_ix h ha hi) ?_
  rw [hE]
  exact ix_ok h
theorem xi0 {g : FoIn} {i : Nat} : (xrho g i).int 0 = 0 := rfl
theorem xi1 {g : FoIn} {i : Nat} : (xrho g i).int 1 = 0 := rfl
theorem xi2 {g : FoIn} {i : Nat} : (xrho g i).int 2 = (g.l.length : Int) := rfl
theorem xagree {i j : Nat} : agree 3 (xrho g i) (xrho g j) := fun k hk => by
  match k, hk with
  | 0, _ => exact ⟨by rw [xi0, xi0], rfl, rfl, rfl, rfl⟩
  | 1, _ => exact ⟨by rw [xi1, xi1], rfl, rfl, rfl, rfl⟩
  | 2, _ => exact ⟨by rw [xi2, xi2], rfl, rfl, rfl, rfl⟩
theorem ix_run (h : g.OK w) (ha : Acts g.l) : ∀ (m i : Nat), i + m = g.l.length → ∃ k, @RunsH (extKA Try.prog ixKT ixK2) ixC w 2 (xrho g g.l.length) k 1 (xrho g i) := by
  letI : Ext := extKA Try.prog ixKT ixK2
  have hnl := h.n
  intro m
  induction m with
  | zero =>
    intro i hi
    have hi : i = g.l.length := by omega
    subst hi
    refine ⟨0, .exit (c := ixc1) (d := ixc2) (xs := []) rfl (okI rfl rfl h ha (Nat.le_refl _)) ?_ rfl rfl agree00 trivial (okI rfl rfl h ha (Nat.le_refl _))⟩
    show valX ixt1 _ = _
    simp only [ixt1, valX]
    rw [if_neg (show ¬ (xrho g g.l.length).int 10 < (xrho g g.l.length).int 2 by show ¬ ((g.l.length : Int) < (g.l.length : Int)); omega)]
  | succ m ih =>
    intro i hi
    obtain ⟨k, hk⟩ := ih (i + 1) (by omega)
    refine ⟨k + 1, .step (c := ixc1) (d := ixc1) (xs := [si 9]) rfl (okI rfl rfl h ha (by omega)) ?_ rfl (by decide) xagree ⟨car_i ?_, trivial⟩ hk⟩
    · show valX ixt1 _ = _
      simp only [ixt1, valX]
      rw [if_pos (show (xrho g i).int 10 < (xrho g i).int 2 by show (i : Int) < (g.l.length : Int); omega)]
      repeat' split
      all_goals rfl
    · show ((i + 1 : Nat) : Int) = w64 ((i : Int) + 1)
      unfold w64
      rw [wrap_in (by simp [IntKind.min, IntKind.signed, IntKind.bits]; omega) (by simp [IntKind.max, IntKind.signed, IntKind.bits]; omega)]
      omega
theorem idx_calls (h : g.OK w) (ha : Acts g.l) : Calls Try.prog 42 ⟨[.slice g.oa g.l.length g.ca, .func (.func 28) ⟨[]⟩ ⟨[]⟩]⟩ w fun e w' => e = .returned (.int .i64 (-1)) ∧ Below w.heap.size w w' := by
  letI : Ext := extKA Try.prog ixKT ixK2
  obtain ⟨k, hk⟩ := ix_run h ha g.l.length 0 (by omega)
  have hok : ixc0.OK w (xrho g 0) := okI rfl rfl h ha (Nat.zero_le _)
  have hr : RunsH ixC w 2 (xrho g g.l.length) (k + 1) 0 (xrho g 0) := .step (c := ixc0) (d := ixc1) (xs := [.int .i64 0]) rfl hok rfl rfl (by decide) xagree ⟨car_c rfl, trivial⟩ hk
  have hst : HSim w ⟨fun _ => none, xrho g 0⟩ ⟨ixc0.env (xrho g 0), .lf, 0⟩ w := HSim.startE ((hok.env _ rfl).ok hok.ext) (fun r b hb => by rw [show (ixc0.env (xrho g 0)).blk = fun _ => none from ixauto.blk 0 ixc0 rfl _ _] at hb; cases hb)
  refine (autoH_calls ixauto (f := 42) Try.func42 rfl (F := ⟨w, fun _ => none⟩) (fun i inf hi => by cases hi) (args := [.sym 0, delV]) (c := ixc0) (d := ixc2) (p0 := 0) (by kernel_rfl) rfl rfl rfl rfl hst ?_ hr).mono ?_
  · simp only [VRs]
    refine ⟨_, _, rfl, ?_, _, _, rfl, ?_, rfl⟩
    · simp only [VR]
      rfl
    · simp only [delV, VR, VRs]
      exact ⟨[], [], rfl, rfl, rfl, rfl⟩
  · rintro e w' ⟨v, rfl, φ, hφ, k1, k2, k3⟩
    refine ⟨?_, k3.wk.os, k3.wk.tape, k3.wk.output, k3.wk.size, fun k hk => k2.old.same k hk id⟩
    have k1' : VR φ (.int .i64 (-1)) v := k1
    simp only [VR] at k1'
    rw [k1']
end
/-- A list, and symbols. -/
structure ListRho (ρ : Rho) (l : List Eff) : Prop where
  n : ρ.int 2 = (l.length : Int)
  le : (l.length : Int) ≤ 1000000
  fit : ∀ e ∈ l, e.Fit
  l0 : ρ.lst 0 = cellsOf l
theorem idx_ke2 {ρ : Rho} {l : List Eff} (h : ListRho ρ l) (ha : Acts l) (w0 : World) : KE2ok Try.prog ρ w0 idxK := by
  intro φ vs w hφ hsz hold hv hpre hown hinj hfr
  obtain ⟨inf, o', hφ0, hw, hO⟩ := hpre (0, .list 0 2 4 [] none) (List.mem_singleton.2 rfl)
  have hO' := hO
  obtain ⟨_, _, c', e, fr, rfl, hcr⟩ := hO'
  have hn : φ.ρ.int 2 = (l.length : Int) := by rw [hφ]; exact h.n
  have hnn : (φ.ρ.int 2).toNat = l.length := by rw [hn]; simp
  have hl0 : φ.ρ.lst 0 ++ [] = cellsOf l := by rw [hφ, h.l0, List.append_nil]
  have hφ0' : φ 0 = some inf := hφ0
  let g : FoIn := ⟨l, some ⟨inf.blk, inf.off, none⟩, l.length + inf.slack, inf.blk, inf.off⟩
  have hvs : vs = [.slice g.oa g.l.length g.ca, .func (.func 28) ⟨[]⟩ ⟨[]⟩] := by
    simp only [idxK, VRs, VR, delV] at hv
    obtain ⟨_, _, rfl, ⟨inf', h1, rfl⟩, _, _, rfl, ⟨_, _, _, rfl, rfl, rfl⟩, rfl⟩ := hv
    have h1' : φ 0 = some inf' := h1
    rw [hφ0'] at h1'
    cases h1'
    rw [hnn]
    rfl
  rw [hl0] at hcr
  have hg : g.OK w := by
    refine ⟨by show l.length ≤ _; have := h.le; omega, h.fit, fun i x hx => ⟨rfl, get_lt hw, fun j hj => ?_⟩⟩
    obtain ⟨y, y1, y2⟩ := hcr.cell (i * 4 + j) (i8 (x.cell j)) (by rw [cellsOf_get, show (i * 4 + j) / 4 = i by omega, show (i * 4 + j) % 4 = j by omega]; have hx' : l[i]? = some x := hx; rw [hx']; rfl)
    simp only [i8, VR] at y2
    show w.cell? ⟨inf.blk, inf.off + i * 4 + j, none⟩ = _
    unfold World.cell?
    simp only [hw]
    rw [Nat.add_assoc, y1, y2]
    rfl
  subst hvs
  refine (idx_calls hg ha).mono ?_
  rintro en w' ⟨rfl, hb⟩
  refine ⟨_, φ, rfl, by simp only [idxK, i8, VR], ⟨φ.le_refl, ⟨hb.os, hb.tape, hb.output, hb.size⟩, fun k hk hne => hb.block k hk, fun i jnf hi => .inl hi, ?_, ?_, ?_⟩⟩
  · intro p hp
    simp only [idxK, List.mem_singleton] at hp
    subst hp
    exact ⟨inf, _, hφ0, by rw [hb.block _ (get_lt hw)]; exact hw, hO⟩
  · intro p hp jnf hj
    simp only [idxK, List.mem_singleton] at hp
    subst hp
    exact ⟨(0, .list 0 2 4 [] none), List.mem_singleton.2 rfl, inf, hφ0, by rw [hφ0] at hj; cases hj; rfl⟩
  · intro p hp q hq _ _ _ _ _
    simp only [idxK, List.mem_singleton] at hp hq
    rw [hp, hq]
end
end Go.Proofs.Ytgbhmkdldfhamaa.order
namespace Go.Proofs.Ytgbhmkdldfhamaa.order
open Go.Ev Go.RowKit
set_option linter.unusedVariables false
noncomputable section
def cnF : List Fact := [.len false (.sym 46) (si 2)]
def cnEl : List Fact := [.at 1 (.sym 46) (si 10) ⟨.sym 5, 0⟩, .bin .add (si 10) (.int .i64 1) (si 9)]
def Ecn (iv : Ivs) (fs : List Fact) : Env := match hasLss fs 10 2 with
  | true => ⟨fun _ => none, ivAt iv, fs ++ (cnF ++ cnEl), fun i => match Nat.beq i 5 with | true => some [si 20] | false => none⟩
  | false => ⟨fun _ => none, ivAt iv, fs ++ cnF, fun _ => none⟩
def fdF : List Fact := [.len false (.sym 41) (si 2)]
def fdEl : List Fact := [.at 14 (.sym 41) (si 10) ⟨.sym 5, 0⟩, .bin .add (si 10) (.int .i64 1) (si 9)]
def obV : List VV := [si 20, si 21, .sym 22, si 23, .sym 24, .sym 25, .sym 26, .sym 27, .sym 28, si 29, .sym 30, .sym 31, .sym 32, .sym 33]
def Efd (iv : Ivs) (fs : List Fact) : Env := match hasLss fs 10 2 with
  | true => ⟨fun _ => none, ivAt iv, fs ++ (fdF ++ fdEl), fun i => match Nat.beq i 5 with | true => some obV | false => none⟩
  | false => ⟨fun _ => none, ivAt iv, fs ++ fdF, fun _ => none⟩
theorem Ecn_blk (iv : Ivs) (fs : List Fact) : (Ecn iv fs).blk = fun _ => none := by
  unfold Ecn
  split <;> rfl
theorem Efd_blk (iv : Ivs) (fs : List Fact) : (Efd iv fs).blk = fun _ => none := by
  unfold Efd
  split <;> rfl
def cniv0 : Go.Ev.Ivs := [bI, bI, (0, 9223372036854775807), bI, bI, bI, bI, bI, bI, bI, (0, 9223372036854775807), bI, bI, bI, bI, bI, bI, bI, bI, bI, bI, bI, bI, bI, bI, bI, bI, bI, bI, bI, bI, bI, bI, bI, bI, bI, bI, bI, bI, bI, bI, bI, bI, bI, bI, bI, bI, bI, bI, bI, bI]
def cnt0 : Go.Ev.TrX Go.Ev.Leaf := (.leaf (.goto 1 [(.int .i64 (0)), (.sint .i64 3), (.sym 46)]))
def cnc0 : Go.Ev.CutP := ⟨none, (.nd (.nd .lf (some (.sint .i64 3)) .lf) (some (.sym 46)) .lf), .lf, 0, 0, [], cniv0, Ecn, cnt0⟩
def cniv1 : Go.Ev.Ivs := [bI, bI, (0, 9223372036854775807), bI, bI, bI, bI, bI, bI, bI, (0, 9223372036854775807), bI, bI, bI, bI, bI, bI, bI, bI, bI, bI, bI, bI, bI, bI, bI, bI, bI, bI, bI, bI, bI, bI, bI, bI, bI, bI, bI, bI, bI, bI, bI, bI, bI, bI, bI, bI, bI, bI, bI, bI]
def cnt1 : Go.Ev.TrX Go.Ev.Leaf := (.rel .i64 10 2 (.rel .i64 3 20 (.leaf (.goto 1 [(.sint .i64 9), (.sint .i64 3), (.sym 46)])) (.rel .i64 20 3 (.leaf (.goto 1 [(.sint .i64 9), (.sint .i64 3), (.sym 46)])) (.leaf (.goto 2 [(.sint .i64 10)])))) (.leaf (.goto 2 [(.int .i64 (-1))])))
def cnc1 : Go.Ev.CutP := ⟨some 0, (.nd (.nd (.nd (.nd (.nd .lf (some .any) .lf) (some (.sint .i64 2)) .lf) (some .any) (.nd .lf (some .any) .lf)) (some (.sint .i64 3)) (.nd (.nd (.nd .lf (some .any) .lf) (some .any) .lf) (some .any) (.nd .lf (some .any) .lf))) (some (.sym 46)) (.nd (.nd (.nd (.nd .lf (some .any) .lf) (some (.sint .i64 10)) .lf) (some (.int .i64 (0))) (.nd .lf (some .any) .lf)) (some .any) (.nd (.nd (.nd .lf (some .any) .lf) (some .any) .lf) (some .any) (.nd .lf (some .any) .lf)))), .lf, 0, 3, [(.sint .i64 10), (.sint .i64 3), (.sym 46)], cniv1, Ecn, cnt1⟩
def cniv2 : Go.Ev.Ivs := []
def cnt2 : Go.Ev.TrX Go.Ev.Leaf := (.leaf (.ret .any))
def cnc2 : Go.Ev.CutP := ⟨none, (.nd .lf (some (.sint .i64 10)) .lf), .lf, 0, 0, [(.sint .i64 10)], cniv2, Emt, cnt2⟩
def cnKT : List Go.Ev.KE := []
def cnK2 : List Go.Ev.KE2 := []
def cnC : List Go.Ev.CutP := [cnc0, cnc1, cnc2]
def cnbody : Code := match Try.f45.body with | some c => c | none => .skip
def cnlf (c : Go.Ev.CutP) : Go.Ev.Ivs → List Go.Ev.Fact → Go.Ev.Leaf → Bool := Go.Ev.chkLfH Try.prog (Go.Ev.rcKA Try.prog cnKT cnK2 20000) Try.f45.ntmps [0] 1000 Try.f45.results.toList cnbody cnC 0 c
theorem cnk0 : Go.Ev.chkX (cnlf cnc0) cnt0 cniv0 [] = true := by kernel_rfl
theorem cnk1 : Go.Ev.chkX (cnlf cnc1) cnt1 cniv1 [] = true := by kernel_rfl
theorem cnauto : @Go.Ev.AutoH (Go.Ev.extKA Try.prog cnKT cnK2) Try.prog (Go.Ev.rcKA Try.prog cnKT cnK2 20000) Try.f45 cnbody [0] 1000 cnC (fun _ => none) 0 := Go.Ev.auto_ofH noNG mixed (by kernel_rfl) ⟨.inr cnk0, .inr cnk1, .inl rfl, trivial⟩ ⟨Ecn_blk, Ecn_blk, (fun _ _ => rfl), trivial⟩
def fdiv0 : Go.Ev.Ivs := [bI, bI, (0, 9223372036854775807), bI, bI, bI, bI, bI, bI, bI, (0, 9223372036854775807), bI, bI, bI, bI, bI, bI, bI, bI, bI, bI, bI, bI, bI, bI, bI, bI, bI, bI, bI, bI, bI, bI, bI, bI, bI, bI, bI, bI, bI, bI, bI, bI, bI, bI, bI, bI, bI, bI, bI, bI]
def fdt0 : Go.Ev.TrX Go.Ev.Leaf := (.leaf (.goto 1 [(.sint .i64 3), (.int .i64 (0)), (.sym 41)]))
def fdc0 : Go.Ev.CutP := ⟨none, (.nd (.nd .lf (some (.func (.func 41) [] [(.ptr (some ⟨(.loc 0), 0⟩))])) .lf) (some (.sym 41)) .lf), (.nd .lf (some (.cells [(.sint .i64 3)] none 0 none)) .lf), 1, 0, [], fdiv0, Efd, fdt0⟩
def fdiv1 : Go.Ev.Ivs := [bI, bI, (0, 9223372036854775807), bI, bI, bI, bI, bI, bI, bI, (0, 9223372036854775807), bI, bI, bI, bI, bI, bI, bI, bI, bI, bI, bI, bI, bI, bI, bI, bI, bI, bI, bI, bI, bI, bI, bI, bI, bI, bI, bI, bI, bI, bI, bI, bI, bI, bI, bI, bI, bI, bI, bI, bI]
def fdt1 : Go.Ev.TrX Go.Ev.Leaf := (.rel .i64 10 2 (.rel .i64 20 3 (.leaf (.goto 1 [(.sint .i64 3), (.sint .i64 9), (.sym 41)])) (.rel .i64 3 20 (.leaf (.goto 1 [(.sint .i64 3), (.sint .i64 9), (.sym 41)])) (.leaf (.goto 2 [(.sint .i64 3), (.sint .i64 10)])))) (.leaf (.goto 2 [(.sint .i64 3), (.int .i64 (-1))])))
def fdc1 : Go.Ev.CutP := ⟨some 0, (.nd (.nd (.nd (.nd (.nd .lf (some .any) .lf) (some (.sint .i64 2)) .lf) (some .any) (.nd .lf (some .any) .lf)) (some (.func (.func 41) [] [(.ptr (some ⟨(.loc 0), 0⟩))])) (.nd (.nd (.nd .lf (some .any) .lf) (some .any) .lf) (some .any) (.nd .lf (some .any) .lf))) (some (.sym 41)) (.nd (.nd (.nd (.nd .lf (some .any) .lf) (some (.sint .i64 10)) .lf) (some (.int .i64 (0))) (.nd .lf (some .any) .lf)) (some .any) (.nd (.nd (.nd .lf (some .any) .lf) (some .any) .lf) (some .any) (.nd .lf (some .any) .lf)))), (.nd .lf (some (.cells [(.sint .i64 3)] none 0 none)) .lf), 1, 3, [(.sint .i64 3), (.sint .i64 10), (.sym 41)], fdiv1, Efd, fdt1⟩
def fdiv2 : Go.Ev.Ivs := []
def fdt2 : Go.Ev.TrX Go.Ev.Leaf := (.leaf (.ret .any))
def fdc2 : Go.Ev.CutP := ⟨none, (.nd .lf (some (.sint .i64 10)) .lf), (.nd .lf (some (.cells [(.sint .i64 3)] none 0 none)) .lf), 1, 0, [(.sint .i64 3), (.sint .i64 10)], fdiv2, Emt, fdt2⟩
def fdKT : List Go.Ev.KE := []
def fdK2 : List Go.Ev.KE2 := []
def fdC : List Go.Ev.CutP := [fdc0, fdc1, fdc2]
def fdbody : Code := match Try.f40.body with | some c => c | none => .skip
def fdlf (c : Go.Ev.CutP) : Go.Ev.Ivs → List Go.Ev.Fact → Go.Ev.Leaf → Bool := Go.Ev.chkLfH Try.prog (Go.Ev.rcKA Try.prog fdKT fdK2 20000) Try.f40.ntmps [0] 1000 Try.f40.results.toList fdbody fdC 1 c
theorem fdk0 : Go.Ev.chkX (fdlf fdc0) fdt0 fdiv0 [] = true := by kernel_rfl
theorem fdk1 : Go.Ev.chkX (fdlf fdc1) fdt1 fdiv1 [] = true := by kernel_rfl
theorem fdauto : @Go.Ev.AutoH (Go.Ev.extKA Try.prog fdKT fdK2) Try.prog (Go.Ev.rcKA Try.prog fdKT fdK2 20000) Try.f40 fdbody [0] 1000 fdC (fun _ => none) 1 := Go.Ev.auto_ofH noNG mixed (by kernel_rfl) ⟨.inr fdk0, .inr fdk1, .inl rfl, trivial⟩ ⟨Efd_blk, Efd_blk, (fun _ _ => rfl), trivial⟩
def sfiv0 : Go.Ev.Ivs := [bI, bI, (0, 9223372036854775807), bI, bI, bI, bI, bI, bI, bI, (0, 9223372036854775807), bI, bI, bI, bI, bI, bI, bI, bI, bI, bI, bI, bI, bI, bI, bI, bI, bI, bI, bI, bI, bI, bI, bI, bI, bI, bI, bI, bI, bI, bI, bI, bI, bI, bI, bI, bI, bI, bI, bI, bI]
def sft0 : Go.Ev.TrX Go.Ev.Leaf := (.leaf (.goto 1 [(.sint .i64 12)]))
def sfc0 : Go.Ev.CutP := ⟨none, (.nd (.nd .lf (some (.sint .i64 3)) .lf) (some (.agg [(.sym 60), (.sym 41), (.sym 62), (.sym 63), (.sym 64), (.sym 65), (.sym 46), (.sym 67), (.sym 68), (.sym 69), (.sym 70), (.sym 71), (.sym 72), (.sym 73), (.sym 74), (.sym 75), (.sym 76), (.sym 77), (.sym 78), (.sym 79), (.sym 80), (.sym 81), (.sym 82), (.sym 83), (.sym 84)])) .lf), .lf, 0, 0, [], sfiv0, Emt, sft0⟩
def sfiv1 : Go.Ev.Ivs := []
def sft1 : Go.Ev.TrX Go.Ev.Leaf := (.leaf (.ret .any))
def sfc1 : Go.Ev.CutP := ⟨none, (.nd .lf (some (.sint .i64 12)) .lf), .lf, 0, 0, [(.sint .i64 12)], sfiv1, Emt, sft1⟩
def sfKT : List Go.Ev.KE := []
def sfK2 : List Go.Ev.KE2 := [⟨40, [(.sym 41), (.func (.func 41) [] [(.ptr (some ⟨(.loc 1), 0⟩))])], 2, [(1, (.cells [(.sint .i64 3)] none 0 none))], (.sint .i64 12), [(1, (.cells [(.sint .i64 3)] none 0 none))], 2⟩]
def sfC : List Go.Ev.CutP := [sfc0, sfc1]
def sfbody : Code := match Try.f26.body with | some c => c | none => .skip
def sflf (c : Go.Ev.CutP) : Go.Ev.Ivs → List Go.Ev.Fact → Go.Ev.Leaf → Bool := Go.Ev.chkLfH Try.prog (Go.Ev.rcKA Try.prog sfKT sfK2 20000) Try.f26.ntmps [] 1000 Try.f26.results.toList sfbody sfC 0 c
theorem sfk0 : Go.Ev.chkX (sflf sfc0) sft0 sfiv0 [] = true := by kernel_rfl
theorem sfauto : @Go.Ev.AutoH (Go.Ev.extKA Try.prog sfKT sfK2) Try.prog (Go.Ev.rcKA Try.prog sfKT sfK2 20000) Try.f26 sfbody [] 1000 sfC (fun _ => none) 0 := Go.Ev.auto_ofH noNG mixed (by kernel_rfl) ⟨.inr sfk0, .inl rfl, trivial⟩ ⟨(fun _ _ => rfl), (fun _ _ => rfl), trivial⟩
def ctiv0 : Go.Ev.Ivs := [bI, bI, (0, 9223372036854775807), bI, bI, bI, bI, bI, bI, bI, (0, 9223372036854775807), bI, bI, bI, bI, bI, bI, bI, bI, bI, bI, bI, bI, bI, bI, bI, bI, bI, bI, bI, bI, bI, bI, bI, bI, bI, bI, bI, bI, bI, bI, bI, bI, bI, bI, bI, bI, bI, bI, bI, bI]
def ctt0 : Go.Ev.TrX Go.Ev.Leaf := (.cut 12 (-1) (.leaf (.goto 1 [])) (.leaf (.goto 2 [])))
def ctc0 : Go.Ev.CutP := ⟨none, (.nd (.nd .lf (some (.sint .i64 3)) .lf) (some (.sym 46)) .lf), .lf, 0, 0, [], ctiv0, Emt, ctt0⟩
def ctiv1 : Go.Ev.Ivs := []
def ctt1 : Go.Ev.TrX Go.Ev.Leaf := (.leaf (.ret .any))
def ctc1 : Go.Ev.CutP := ⟨none, (.nd .lf (some (.bool false)) .lf), .lf, 0, 0, [], ctiv1, Emt, ctt1⟩
def ctiv2 : Go.Ev.Ivs := []
def ctt2 : Go.Ev.TrX Go.Ev.Leaf := (.leaf (.ret .any))
def ctc2 : Go.Ev.CutP := ⟨none, (.nd .lf (some (.bool true)) .lf), .lf, 0, 0, [], ctiv2, Emt, ctt2⟩
def ctKT : List Go.Ev.KE := [⟨45, [(.sym 46), (.sint .i64 3)], [], (.sint .i64 12)⟩]
def ctK2 : List Go.Ev.KE2 := []
def ctC : List Go.Ev.CutP := [ctc0, ctc1, ctc2]
def ctbody : Code := match Try.f38.body with | some c => c | none => .skip
def ctlf (c : Go.Ev.CutP) : Go.Ev.Ivs → List Go.Ev.Fact → Go.Ev.Leaf → Bool := Go.Ev.chkLfH Try.prog (Go.Ev.rcKA Try.prog ctKT ctK2 20000) Try.f38.ntmps [] 1000 Try.f38.results.toList ctbody ctC 0 c
theorem ctk0 : Go.Ev.chkX (ctlf ctc0) ctt0 ctiv0 [] = true := by kernel_rfl
theorem ctauto : @Go.Ev.AutoH (Go.Ev.extKA Try.prog ctKT ctK2) Try.prog (Go.Ev.rcKA Try.prog ctKT ctK2 20000) Try.f38 ctbody [] 1000 ctC (fun _ => none) 0 := Go.Ev.auto_ofH noNG mixed (by kernel_rfl) ⟨.inr ctk0, .inl rfl, .inl rfl, trivial⟩ ⟨(fun _ _ => rfl), (fun _ _ => rfl), (fun _ _ => rfl), trivial⟩
def fdK : KE2 := ⟨40, [.sym 41, .func (.func 41) [] [.ptr (some ⟨.loc 1, 0⟩)]], 2, [(1, .cells [si 3] none 0 none)], si 12, [(1, .cells [si 3] none 0 none)], 2⟩
/-! ### states -/
/-- An object. -/
structure Ob where
  id : Int
  card : Int
  ctrl : Int
  st : Int
  eff : Value
  o : Nat → Value
  oneE : eff.oneCell' = true
  oneO : ∀ k, (o k).oneCell' = true
def Ob.cell (x : Ob) : Nat → Value
  | 0 => .int .i64 x.id
  | 1 => .int .i64 x.card
  | 3 => .int .i64 x.ctrl
  | 9 => .int .i64 x.st
  | 13 => x.eff
  | k => x.o k
structure Ob.Fit (x : Ob) : Prop where
  id : I64 x.id
  card : I64 x.card
  ctrl : I64 x.ctrl
  st : I64 x.st
def ob0 : Ob := ⟨0, 0, 0, 0, .bool false, fun _ => .bool false, rfl, fun _ => rfl⟩
theorem ob0_fit : ob0.Fit := ⟨i64_0, i64_0, i64_0, i64_0⟩
theorem Ob.one (x : Ob) (k : Nat) : (x.cell k).oneCell' = true := by
  unfold Ob.cell
  split
  · rfl
  · rfl
  · rfl
  · rfl
  · exact x.oneE
  · exact x.oneO _
/-- A state: its objects, its field; all other parts as they are. -/
structure StG where
  os : List Ob
  oa : Option Addr
  oc : Nat
  oB : Nat
  oO : Nat
  fs : List Int
  fa : Option Addr
  fc : Nat
  fB : Nat
  fO : Nat
  r : Nat → Value
  oneR : ∀ k, (r k).oneCell' = true
def StG.osV (g : StG) : Value := .slice g.oa g.os.length g.oc
def StG.fsV (g : StG) : Value := .slice g.fa g.fs.length g.fc
structure StG.OK (g : StG) (w : World) : Prop where
  no : g.os.length ≤ 1000000
  nf : g.fs.length ≤ 1000000
  fo : ∀ x ∈ g.os, x.Fit
  ff : ∀ n ∈ g.fs, I64 n
  co : ∀ i x, g.os[i]? = some x → g.oa = some ⟨g.oB, g.oO, none⟩ ∧ g.oB < w.heap.size ∧ ∀ j, j < 14 → w.cell? ⟨g.oB, g.oO + i * 14 + j, none⟩ = some (x.cell j)
  cf : ∀ i n, g.fs[i]? = some n → g.fa = some ⟨g.fB, g.fO, none⟩ ∧ g.fB < w.heap.size ∧ w.cell? ⟨g.fB, g.fO + i, none⟩ = some (.int .i64 n)
theorem StG.OK.later {g : StG} {w w' : World} (h : g.OK w) (hs : w.heap.size ≤ w'.heap.size) (hb : ∀ k, k < w.heap.size → w'.heap[k]? = w.heap[k]?) : g.OK w' := by
  have hc : ∀ {a : Addr} {v : Value}, a.block < w.heap.size → w.cell? a = some v → w'.cell? a = some v := fun {a v} ha hv => by
    rw [← hv]
    unfold World.cell?
    rw [hb _ ha]
  refine ⟨h.no, h.nf, h.fo, h.ff, fun i x hx => ?_, fun i n hn => ?_⟩
  · obtain ⟨g1, g2, g3⟩ := h.co i x hx
    exact ⟨g1, by omega, fun j hj => hc g2 (g3 j hj)⟩
  · obtain ⟨g1, g2, g3⟩ := h.cf i n hn
    exact ⟨g1, by omega, hc g2 g3⟩
/-- The first place at which something holds; -1: nowhere. -/
def fixI {α : Type} (p : α → Bool) : Nat → List α → Int
  | _, [] => -1
  | i, x :: l => if p x = true then (i : Int) else fixI p (i + 1) l
theorem fixI_in {α : Type} (p : α → Bool) : ∀ (l : List α) (i : Nat), -1 ≤ fixI p i l ∧ fixI p i l < (i : Int) + l.length ∨ l = []
  | [], i => .inr rfl
  | x :: l, i => .inl (by
    unfold fixI
    split
    · exact ⟨by omega, by simp only [List.length_cons]; omega⟩
    · rcases fixI_in p l (i + 1) with ⟨h1, h2⟩ | rfl
      · simp only [List.length_cons]
        exact ⟨h1, by omega⟩
      · simp [fixI]
        omega)
def hasId (id : Int) (x : Ob) : Bool := decide (x.id = id)
def isN (n : Int) (m : Int) : Bool := decide (m = n)
def StG.find (g : StG) (id : Int) : Int := fixI (hasId id) 0 g.os
def StG.has (g : StG) (id : Int) : Int := fixI (isN id) 0 g.fs
theorem fixI_fits {α : Type} (p : α → Bool) {l : List α} {i : Nat} (h : (i : Int) + l.length ≤ 2000000) : I64 (fixI p i l) := by
  rcases fixI_in p l i with ⟨h1, h2⟩ | rfl
  · exact ⟨by omega, by omega⟩
  · exact ⟨by simp [fixI], by simp [fixI]⟩
def StG.ob (g : StG) (i : Nat) : Ob := g.os.getD i ob0
def StG.fn (g : StG) (i : Nat) : Int := g.fs.getD i 0
section
variable {w : World} {g : StG} {i : Nat} {id : Int}
theorem StG.OK.obFit (h : g.OK w) (i : Nat) : (g.ob i).Fit := by
  unfold StG.ob
  rw [List.getD_eq_getElem?_getD]
  cases hx : g.os[i]? with
  | none => exact ob0_fit
  | some e => exact h.fo e (List.mem_of_getElem? hx)
theorem StG.OK.fnFit (h : g.OK w) (i : Nat) : I64 (g.fn i) := by
  unfold StG.fn
  rw [List.getD_eq_getElem?_getD]
  cases hx : g.fs[i]? with
  | none => exact i64_0
  | some e => exact h.ff e (List.mem_of_getElem? hx)
theorem ob_of (hi : i < g.os.length) : g.os[i]? = some (g.ob i) := by
  unfold StG.ob
  rw [List.getD_eq_getElem?_getD, List.getElem?_eq_getElem hi]
  rfl
theorem fn_of (hi : i < g.fs.length) : g.fs[i]? = some (g.fn i) := by
  unfold StG.fn
  rw [List.getD_eq_getElem?_getD, List.getElem?_eq_getElem hi]
  rfl
theorem drop_at {α : Type} {l : List α} {i : Nat} {x : α} (h : l[i]? = some x) : l.drop i = x :: l.drop (i + 1) := by
  obtain ⟨hlt, he⟩ := List.getElem?_eq_some_iff.1 h
  rw [List.drop_eq_getElem_cons hlt, he]
/-- Symbols of a search: the list's length, what is sought, the place, an element. -/
def sint (n : Nat) (id : Int) (i : Int) (a b c d : Int) : Nat → Int
  | 2 => (n : Int)
  | 3 => id
  | 9 => w64 (i + 1)
  | 10 => i
  | 20 => a
  | 21 => b
  | 23 => c
  | 29 => d
  | _ => 0
def sval' (g : StG) (i : Nat) : Nat → Value
  | 41 => g.osV
  | 46 => g.fsV
  | 22 => (g.ob i).cell 2
  | 24 => (g.ob i).cell 4
  | 25 => (g.ob i).cell 5
  | 26 => (g.ob i).cell 6
  | 27 => (g.ob i).cell 7
  | 28 => (g.ob i).cell 8
  | 30 => (g.ob i).cell 10
  | 31 => (g.ob i).cell 11
  | 32 => (g.ob i).cell 12
  | 33 => (g.ob i).cell 13
  | _ => .bool false
theorem sval_one (j : Nat) : (sval' g i j).oneCell' = true := by
  unfold sval'
  split <;> first | rfl | exact Ob.one _ _
def frho' (g : StG) (id : Int) (i : Nat) : Rho :=
  ⟨sint g.os.length id i (g.ob i).id (g.ob i).card (g.ob i).ctrl (g.ob i).st, sval' g i, fun _ => g.oB, fun k => if k = 5 then g.oO + i * 14 else g.oO, sval_one, fun _ => [], fun _ _ h => by cases h⟩
def crho (g : StG) (id : Int) (i : Nat) : Rho :=
  ⟨sint g.fs.length id i (g.fn i) 0 0 0, sval' g i, fun _ => g.fB, fun k => if k = 5 then g.fO + i else g.fO, sval_one, fun _ => [], fun _ _ h => by cases h⟩
/-- At the end: what was sought, and where it is. -/
def erho (id r : Int) : Rho := ⟨sint 0 id r 0 0 0 0, fun _ => .bool false, fun _ => 0, fun _ => 0, fun _ => rfl, fun _ => [], fun _ _ h => by cases h⟩
theorem sint_fits {n : Nat} {id i a b c d : Int} (hn : n ≤ 1000000) (h1 : I64 id) (h2 : I64 i) (ha : I64 a) (hb : I64 b) (hc : I64 c) (hd : I64 d) (k : Nat) : I64 (sint n id i a b c d k) := by
  unfold sint
  split
  · exact ⟨by omega, by omega⟩
  · exact h1
  · exact w64_fits _
  · exact h2
  · exact ha
  · exact hb
  · exact hc
  · exact hd
  · exact i64_0
theorem i64_i {i n : Nat} (hi : i ≤ n) (hn : n ≤ 1000000) : I64 (i : Int) := ⟨by omega, by omega⟩
theorem iv_s {ρ : Rho} {n : Nat} (f : ∀ k, I64 (ρ.int k)) (h2 : ρ.int 2 = (n : Int)) (h10 : 0 ≤ ρ.int 10) : IvOK fdiv1 ρ := by
  refine iv_all (f := ρ.int) ?_ f
  unfold fdiv1
  refine ⟨f 0, f 1, ⟨by show (0 : Int) ≤ ρ.int 2; omega, (f 2).2⟩, f 3, f 4, f 5, f 6, f 7, f 8, f 9, ⟨h10, (f 10).2⟩, f 11, f 12, f 13, f 14, f 15, f 16, f 17, f 18, f 19, f 20, f 21, f 22, f 23, f 24, f 25, f 26, f 27, f 28, f 29, f 30, f 31, f 32, f 33, f 34, f 35, f 36, f 37, f 38, f 39, f 40, f 41, f 42, f 43, f 44, f 45, f 46, f 47, f 48, f 49, f 50, trivial⟩
theorem fd_ok (h : g.OK w) (iv : Ivs) (fs : List Fact) (h1 : IvOK iv (frho' g id i)) (h2 : FsOK fs (frho' g id i)) (φ : Phi) (hφ : φ.ρ = frho' g id i) : EnvP (Efd iv fs) φ w := by
  have v' : ∀ k, VR φ (si k) (.int .i64 (sint g.os.length id i (g.ob i).id (g.ob i).card (g.ob i).ctrl (g.ob i).st k)) := fun k => by simp only [si, VR, hφ]; rfl
  have u : ∀ k, VR φ (.sym k) (sval' g i k) := fun k => by simp only [VR, hφ]; rfl
  have hF : FsOK fdF (frho' g id i) := fs_cons (fact_len rfl rfl) fs_nil
  unfold Efd
  split
  · rename_i hh
    have hi : (i : Int) < (g.os.length : Int) := lss_has w hh h2
    have hi' : i < g.os.length := by omega
    obtain ⟨g1, g2, g3⟩ := h.co i _ (ob_of hi')
    have hE : FsOK fdEl (frho' g id i) := by
      refine fs_cons (fact_at (n := i) (B := g.oB) (O := g.oO) (l := g.os.length) (c := g.oc) ?_ rfl hi' rfl rfl) (fs_cons (fact_addW rfl rfl) fs_nil)
      show some g.osV = _
      unfold StG.osV
      rw [g1]
    refine ⟨by rw [hφ]; exact h1, by rw [hφ]; exact fs_app h2 (fs_app hF hE), fun k cs hk => ?_⟩
    simp only at hk
    split at hk
    · rename_i hb
      have := Nat.eq_of_beq_eq_true hb
      subst this
      cases hk
      have eb : φ.ρ.blk 5 = g.oB := by rw [hφ]; rfl
      have eo : φ.ρ.off 5 = g.oO + i * 14 := by rw [hφ]; rfl
      rw [eb, eo]
      refine ⟨g2, fun j x hx => ?_⟩
      match j with
      | 0 => cases hx; exact ⟨_, g3 0 (by omega), v' 20⟩
      | 1 => cases hx; exact ⟨_, g3 1 (by omega), v' 21⟩
      | 2 => cases hx; exact ⟨_, g3 2 (by omega), u 22⟩
      | 3 => cases hx; exact ⟨_, g3 3 (by omega), v' 23⟩
      | 4 => cases hx; exact ⟨_, g3 4 (by omega), u 24⟩
      | 5 => cases hx; exact ⟨_, g3 5 (by omega), u 25⟩
      | 6 => cases hx; exact ⟨_, g3 6 (by omega), u 26⟩
      | 7 => cases hx; exact ⟨_, g3 7 (by omega), u 27⟩
      | 8 => cases hx; exact ⟨_, g3 8 (by omega), u 28⟩
      | 9 => cases hx; exact ⟨_, g3 9 (by omega), v' 29⟩
      | 10 => cases hx; exact ⟨_, g3 10 (by omega), u 30⟩
      | 11 => cases hx; exact ⟨_, g3 11 (by omega), u 31⟩
      | 12 => cases hx; exact ⟨_, g3 12 (by omega), u 32⟩
      | 13 => cases hx; exact ⟨_, g3 13 (by omega), u 33⟩
      | j + 14 => simp [obV] at hx
    · cases hk
  · exact ⟨by rw [hφ]; exact h1, by rw [hφ]; exact fs_app h2 hF, fun k cs h => by cases h⟩
theorem cn_ok (h : g.OK w) (iv : Ivs) (fs : List Fact) (h1 : IvOK iv (crho g id i)) (h2 : FsOK fs (crho g id i)) (φ : Phi) (hφ : φ.ρ = crho g id i) : EnvP (Ecn iv fs) φ w := by
  have hF : FsOK cnF (crho g id i) := fs_cons (fact_len rfl rfl) fs_nil
  unfold Ecn
  split
  · rename_i hh
    have hi : (i : Int) < (g.fs.length : Int) := lss_has w hh h2
    have hi' : i < g.fs.length := by omega
    obtain ⟨g1, g2, g3⟩ := h.cf i _ (fn_of hi')
    have hE : FsOK cnEl (crho g id i) := by
      refine fs_cons (fact_at (n := i) (B := g.fB) (O := g.fO) (l := g.fs.length) (c := g.fc) ?_ rfl hi' rfl ?_) (fs_cons (fact_addW rfl rfl) fs_nil)
      · show some g.fsV = _
        unfold StG.fsV
        rw [g1]
      · show g.fO + i = g.fO + i * 1
        omega
    refine ⟨by rw [hφ]; exact h1, by rw [hφ]; exact fs_app h2 (fs_app hF hE), fun k cs hk => ?_⟩
    simp only at hk
    split at hk
    · rename_i hb
      have := Nat.eq_of_beq_eq_true hb
      subst this
      cases hk
      have eb : φ.ρ.blk 5 = g.fB := by rw [hφ]; rfl
      have eo : φ.ρ.off 5 = g.fO + i := by rw [hφ]; rfl
      rw [eb, eo]
      refine ⟨g2, fun j x hx => ?_⟩
      match j with
      | 0 =>
        cases hx
        refine ⟨_, g3, ?_⟩
        simp only [si, VR, hφ]
        rfl
      | j + 1 => simp at hx
    · cases hk
  · exact ⟨by rw [hφ]; exact h1, by rw [hφ]; exact fs_app h2 hF, fun k cs h => by cases h⟩
end
end
end Go.Proofs.Ytgbhmkdldfhamaa.order
namespace Go.Proofs.Ytgbhmkdldfhamaa.order
open Go.Ev Go.RowKit
set_option linter.unusedVariables false
noncomputable section
section
variable {w : World} {g : StG} {i : Nat} {id : Int}
theorem fd0 : (frho' g id i).int 0 = 0 := rfl
theorem fd1 : (frho' g id i).int 1 = 0 := rfl
theorem fd2 : (frho' g id i).int 2 = (g.os.length : Int) := rfl
theorem fd3 : (frho' g id i).int 3 = id := rfl
theorem fd9 : (frho' g id i).int 9 = w64 ((i : Int) + 1) := rfl
theorem fd10 : (frho' g id i).int 10 = (i : Int) := rfl
theorem fd20 : (frho' g id i).int 20 = (g.ob i).id := rfl
theorem cn0 : (crho g id i).int 0 = 0 := rfl
theorem cn1 : (crho g id i).int 1 = 0 := rfl
theorem cn2 : (crho g id i).int 2 = (g.fs.length : Int) := rfl
theorem cn3 : (crho g id i).int 3 = id := rfl
theorem cn9 : (crho g id i).int 9 = w64 ((i : Int) + 1) := rfl
theorem cn10 : (crho g id i).int 10 = (i : Int) := rfl
theorem cn20 : (crho g id i).int 20 = g.fn i := rfl
theorem er3 {r : Int} : (erho id r).int 3 = id := rfl
theorem er10 {r : Int} : (erho id r).int 10 = r := rfl
theorem fdagree {j : Nat} : agree 3 (frho' g id i) (frho' g id j) := fun k hk => by
  match k, hk with
  | 0, _ => exact ⟨by rw [fd0, fd0], rfl, rfl, rfl, rfl⟩
  | 1, _ => exact ⟨by rw [fd1, fd1], rfl, rfl, rfl, rfl⟩
  | 2, _ => exact ⟨by rw [fd2, fd2], rfl, rfl, rfl, rfl⟩
theorem cnagree {j : Nat} : agree 3 (crho g id i) (crho g id j) := fun k hk => by
  match k, hk with
  | 0, _ => exact ⟨by rw [cn0, cn0], rfl, rfl, rfl, rfl⟩
  | 1, _ => exact ⟨by rw [cn1, cn1], rfl, rfl, rfl, rfl⟩
  | 2, _ => exact ⟨by rw [cn2, cn2], rfl, rfl, rfl, rfl⟩
theorem step_w {i : Nat} (h : i + 1 ≤ 1000000) : ((i + 1 : Nat) : Int) = w64 ((i : Int) + 1) := by
  unfold w64
  rw [wrap_in (by simp [IntKind.min, IntKind.signed, IntKind.bits]; omega) (by simp [IntKind.max, IntKind.signed, IntKind.bits]; omega)]
  omega
theorem fd_fits (h : g.OK w) (hid : I64 id) (hi : i ≤ g.os.length) (k : Nat) : I64 ((frho' g id i).int k) :=
  have f := h.obFit i
  sint_fits h.no hid (i64_i hi h.no) f.id f.card f.ctrl f.st k
theorem cn_fits (h : g.OK w) (hid : I64 id) (hi : i ≤ g.fs.length) (k : Nat) : I64 ((crho g id i).int k) :=
  sint_fits h.nf hid (i64_i hi h.nf) (h.fnFit i) i64_0 i64_0 i64_0 k
theorem er_fits {r : Int} (hid : I64 id) (hr : I64 r) (k : Nat) : I64 ((erho id r).int k) :=
  sint_fits (by omega) hid hr i64_0 i64_0 i64_0 i64_0 k
theorem extFd : @Ext.ok (extKA Try.prog fdKT fdK2) (frho' g id i) w := ⟨(fun e he => by cases he), (fun e he => by cases he)⟩
theorem extCn : @Ext.ok (extKA Try.prog cnKT cnK2) (crho g id i) w := ⟨(fun e he => by cases he), (fun e he => by cases he)⟩
theorem okFd {c : CutP} (hE : c.E = Efd) (hiv : c.iv = fdiv1) (h : g.OK w) (hid : I64 id) (hi : i ≤ g.os.length) : @CutP.OK (extKA Try.prog fdKT fdK2) c w (frho' g id i) := by
  refine @CutP.ok_of (extKA Try.prog fdKT fdK2) c w (frho' g id i) extFd (hiv ▸ iv_s (fd_fits h hid hi) fd2 (by rw [fd10]; omega)) ?_
  rw [hE]
  exact fd_ok h
theorem okCn {c : CutP} (hE : c.E = Ecn) (hiv : c.iv = fdiv1) (h : g.OK w) (hid : I64 id) (hi : i ≤ g.fs.length) : @CutP.OK (extKA Try.prog cnKT cnK2) c w (crho g id i) := by
  refine @CutP.ok_of (extKA Try.prog cnKT cnK2) c w (crho g id i) extCn (hiv ▸ iv_s (cn_fits h hid hi) cn2 (by rw [cn10]; omega)) ?_
  rw [hE]
  exact cn_ok h
theorem okEm [Ext] {c : CutP} {ρ : Rho} (hx : Ext.ok ρ w) (hE : c.E = Emt) (hiv : c.iv = []) (hf : ∀ k, I64 (ρ.int k)) : CutP.OK c w ρ := by
  refine CutP.ok_of hx (by rw [hiv]; exact iv_all (f := ρ.int) (l := []) trivial hf) ?_
  rw [hE]
  exact fun iv fs => em_ok iv fs
theorem fd_run (h : g.OK w) (hid : I64 id) : ∀ (m i : Nat), i + m = g.os.length → ∃ k, @RunsH (extKA Try.prog fdKT fdK2) fdC w 2 (erho id (fixI (hasId id) i (g.os.drop i))) k 1 (frho' g id i) := by
  letI : Ext := extKA Try.prog fdKT fdK2
  have hno := h.no
  have ex : ∀ ρ, @Ext.ok (extKA Try.prog fdKT fdK2) ρ w := fun ρ => ⟨(fun e he => by cases he), (fun e he => by cases he)⟩
  have fx : ∀ i, i ≤ g.os.length → I64 (fixI (hasId id) i (g.os.drop i)) := fun i hi => fixI_fits _ (by rw [List.length_drop]; omega)
  have okE : ∀ i, i ≤ g.os.length → fdc2.OK w (erho id (fixI (hasId id) i (g.os.drop i))) := fun i hi => okEm (ex _) rfl rfl (er_fits hid (fx i hi))
  intro m
  induction m with
  | zero =>
    intro i hi
    have hi : i = g.os.length := by omega
    subst hi
    have e0 : fixI (hasId id) g.os.length (g.os.drop g.os.length) = -1 := by simp [fixI]
    refine ⟨0, .exit (c := fdc1) (d := fdc2) (xs := [si 3, .int .i64 (-1)]) rfl (okFd rfl rfl h hid (Nat.le_refl _)) ?_ rfl rfl agree00 ⟨car_i (by rw [er3, fd3]), car_c ?_, trivial⟩ (okE _ (Nat.le_refl _))⟩
    · show valX fdt1 _ = _
      simp only [fdt1, valX]
      rw [if_neg (show ¬ (frho' g id g.os.length).int 10 < (frho' g id g.os.length).int 2 by rw [fd10, fd2]; omega)]
      rfl
    · rw [e0, er10]
  | succ m ih =>
    intro i hi
    have hlt : i < g.os.length := by omega
    have hat := ob_of hlt
    have e1 := drop_at hat
    have hpos : (frho' g id i).int 10 < (frho' g id i).int 2 := by rw [fd10, fd2]; omega
    by_cases he : (g.ob i).id = id
    · have e0 : fixI (hasId id) i (g.os.drop i) = (i : Int) := by
        rw [e1]
        simp only [fixI, hasId, he, decide_true, if_true]
      refine ⟨0, .exit (c := fdc1) (d := fdc2) (xs := [si 3, si 10]) rfl (okFd rfl rfl h hid (by omega)) ?_ rfl rfl agree00 ⟨car_i (by rw [er3, fd3]), car_i ?_, trivial⟩ (okE _ (by omega))⟩
      · show valX fdt1 _ = _
        simp only [fdt1, valX]
        rw [if_pos hpos, if_neg (by rw [fd20, fd3]; omega), if_neg (by rw [fd20, fd3]; omega)]
        rfl
      · rw [e0, fd10, er10]
    · obtain ⟨k, hk⟩ := ih (i + 1) (by omega)
      have e0 : fixI (hasId id) i (g.os.drop i) = fixI (hasId id) (i + 1) (g.os.drop (i + 1)) := by
        rw [e1]
        simp [fixI, hasId, he]
      rw [e0]
      refine ⟨k + 1, .step (ρ1 := frho' g id (i + 1)) (c := fdc1) (d := fdc1) (xs := [si 3, si 9, .sym 41]) rfl (okFd rfl rfl h hid (by omega)) ?_ rfl (by decide) fdagree ⟨car_i (by rw [fd3, fd3]), car_i ?_, ⟨g.osV, rfl, rfl⟩, trivial⟩ hk⟩
      · show valX fdt1 _ = _
        simp only [fdt1, valX]
        rw [if_pos hpos]
        by_cases hl : (frho' g id i).int 20 < (frho' g id i).int 3
        · rw [if_pos hl]; rfl
        · rw [if_neg hl, if_pos (by rw [fd20, fd3] at *; omega)]; rfl
      · rw [fd9, fd10]
        exact step_w (by omega)
theorem cn_run (h : g.OK w) (hid : I64 id) : ∀ (m i : Nat), i + m = g.fs.length → ∃ k, @RunsH (extKA Try.prog cnKT cnK2) cnC w 2 (erho id (fixI (isN id) i (g.fs.drop i))) k 1 (crho g id i) := by
  letI : Ext := extKA Try.prog cnKT cnK2
  have hno := h.nf
  have ex : ∀ ρ, @Ext.ok (extKA Try.prog cnKT cnK2) ρ w := fun ρ => ⟨(fun e he => by cases he), (fun e he => by cases he)⟩
  have fx : ∀ i, i ≤ g.fs.length → I64 (fixI (isN id) i (g.fs.drop i)) := fun i hi => fixI_fits _ (by rw [List.length_drop]; omega)
  have okE : ∀ i, i ≤ g.fs.length → cnc2.OK w (erho id (fixI (isN id) i (g.fs.drop i))) := fun i hi => okEm (ex _) rfl rfl (er_fits hid (fx i hi))
  intro m
  induction m with
  | zero =>
    intro i hi
    have hi : i = g.fs.length := by omega
    subst hi
    have e0 : fixI (isN id) g.fs.length (g.fs.drop g.fs.length) = -1 := by simp [fixI]
    refine ⟨0, .exit (c := cnc1) (d := cnc2) (xs := [.int .i64 (-1)]) rfl (okCn rfl rfl h hid (Nat.le_refl _)) ?_ rfl rfl agree00 ⟨car_c ?_, trivial⟩ (okE _ (Nat.le_refl _))⟩
    · show valX cnt1 _ = _
      simp only [cnt1, valX]
      rw [if_neg (show ¬ (crho g id g.fs.length).int 10 < (crho g id g.fs.length).int 2 by rw [cn10, cn2]; omega)]
    · rw [e0, er10]
  | succ m ih =>
    intro i hi
    have hlt : i < g.fs.length := by omega
    have hat := fn_of hlt
    have e1 := drop_at hat
    have hpos : (crho g id i).int 10 < (crho g id i).int 2 := by rw [cn10, cn2]; omega
    by_cases he : g.fn i = id
    · have e0 : fixI (isN id) i (g.fs.drop i) = (i : Int) := by
        rw [e1]
        simp only [fixI, isN, he, decide_true, if_true]
      refine ⟨0, .exit (c := cnc1) (d := cnc2) (xs := [si 10]) rfl (okCn rfl rfl h hid (by omega)) ?_ rfl rfl agree00 ⟨car_i ?_, trivial⟩ (okE _ (by omega))⟩
      · show valX cnt1 _ = _
        simp only [cnt1, valX]
        rw [if_pos hpos, if_neg (by rw [cn20, cn3]; omega), if_neg (by rw [cn20, cn3]; omega)]
        rfl
      · rw [e0, cn10, er10]
    · obtain ⟨k, hk⟩ := ih (i + 1) (by omega)
      have e0 : fixI (isN id) i (g.fs.drop i) = fixI (isN id) (i + 1) (g.fs.drop (i + 1)) := by
        rw [e1]
        simp [fixI, isN, he]
      rw [e0]
      refine ⟨k + 1, .step (ρ1 := crho g id (i + 1)) (c := cnc1) (d := cnc1) (xs := [si 9, si 3, .sym 46]) rfl (okCn rfl rfl h hid (by omega)) ?_ rfl (by decide) cnagree ⟨car_i ?_, car_i (by rw [cn3, cn3]), ⟨g.fsV, rfl, rfl⟩, trivial⟩ hk⟩
      · show valX cnt1 _ = _
        simp only [cnt1, valX]
        rw [if_pos hpos]
        by_cases hl : (crho g id i).int 3 < (crho g id i).int 20
        · rw [if_pos hl]; rfl
        · rw [if_neg hl, if_pos (by rw [cn20, cn3] at *; omega)]; rfl
      · rw [cn9, cn10]
        exact step_w (by omega)
end
end
end Go.Proofs.Ytgbhmkdldfhamaa.order
namespace Go.Proofs.Ytgbhmkdldfhamaa.order
open Go.Ev Go.RowKit
set_option linter.unusedVariables false
noncomputable section
/-- A state's value; and as it is seen by symbols. -/
def StG.v (g : StG) : Value := .agg ⟨[g.r 0, g.osV, g.r 2, g.r 3, g.r 4, g.r 5, g.fsV, g.r 7, g.r 8, g.r 9, g.r 10, g.r 11, g.r 12, g.r 13, g.r 14, g.r 15, g.r 16, g.r 17, g.r 18, g.r 19, g.r 20, g.r 21, g.r 22, g.r 23, g.r 24]⟩
def stV : VV := .agg [.sym 60, .sym 41, .sym 62, .sym 63, .sym 64, .sym 65, .sym 46, .sym 67, .sym 68, .sym 69, .sym 70, .sym 71, .sym 72, .sym 73, .sym 74, .sym 75, .sym 76, .sym 77, .sym 78, .sym 79, .sym 80, .sym 81, .sym 82, .sym 83, .sym 84]
def qval (g : StG) (k : Nat) : Value := match k with
  | 41 => g.osV
  | 46 => g.fsV
  | k => g.r (k - 60)
theorem qval_one {g : StG} (k : Nat) : (qval g k).oneCell' = true := by
  unfold qval
  split
  · rfl
  · rfl
  · exact g.oneR _
/-- Symbols of a state are told so. -/
structure StRho (g : StG) (ρ : Rho) : Prop where
  v : ∀ k, k = 41 ∨ k = 46 ∨ 60 ≤ k ∧ k ≤ 85 → ρ.val k = qval g k
theorem stV_VR {φ : Phi} {g : StG} (h : StRho g φ.ρ) : VR φ stV g.v := by
  have e : ∀ k, k = 41 ∨ k = 46 ∨ 60 ≤ k ∧ k ≤ 85 → VR φ (.sym k) (qval g k) := fun k hk => by simp only [VR, h.v k hk]
  unfold stV StG.v
  rw [VR]
  refine ⟨_, ?_, rfl⟩
  simp only [VRs]
  exact ⟨_, _, rfl, e 60 (by omega), _, _, rfl, e 41 (by omega), _, _, rfl, e 62 (by omega), _, _, rfl, e 63 (by omega), _, _, rfl, e 64 (by omega), _, _, rfl, e 65 (by omega), _, _, rfl, e 46 (by omega), _, _, rfl, e 67 (by omega), _, _, rfl, e 68 (by omega), _, _, rfl, e 69 (by omega), _, _, rfl, e 70 (by omega), _, _, rfl, e 71 (by omega), _, _, rfl, e 72 (by omega), _, _, rfl, e 73 (by omega), _, _, rfl, e 74 (by omega), _, _, rfl, e 75 (by omega), _, _, rfl, e 76 (by omega), _, _, rfl, e 77 (by omega), _, _, rfl, e 78 (by omega), _, _, rfl, e 79 (by omega), _, _, rfl, e 80 (by omega), _, _, rfl, e 81 (by omega), _, _, rfl, e 82 (by omega), _, _, rfl, e 83 (by omega), _, _, rfl, e 84 (by omega), rfl⟩
section
variable {w : World} {g : StG} {id : Int}
theorem find40 {ρ : Rho} (h : g.OK w) (hid : I64 id) (h41 : ρ.val 41 = g.osV) (h3 : ρ.int 3 = id) (h12 : ρ.int 12 = g.find id) : KE2ok Try.prog ρ w fdK := by
  letI : Ext := extKA Try.prog fdKT fdK2
  obtain ⟨k, hk⟩ := fd_run h hid g.os.length 0 (by omega)
  have e0 : fixI (hasId id) 0 (g.os.drop 0) = g.find id := by rw [List.drop_zero]; rfl
  rw [e0] at hk
  refine ke2_of fdauto (e := fdK) Try.func40 (by kernel_rfl) (args := [.sym 41, .func (.func 41) [] [.ptr (some ⟨.loc 0, 0⟩)]]) (by kernel_rfl) rfl (c := fdc0) (d := fdc2) (q' := 2) (p0 := 0) rfl rfl rfl rfl rfl (zs1 := [si 3, .sym 41]) (ys1 := [si 3, .sym 41]) (zs2 := [si 3, si 10]) (ys2 := [si 3, si 12]) (by kernel_rfl) (by kernel_rfl) ⟨frho' g id 0, erho id (g.find id), k + 1, ⟨car_i (by rw [fd3, h3]), ⟨g.osV, by simp only [sval, h41], rfl⟩, trivial⟩, .step (ρ1 := frho' g id 0) (c := fdc0) (d := fdc1) (xs := [si 3, .int .i64 0, .sym 41]) rfl (okFd rfl rfl h hid (Nat.zero_le _)) rfl rfl (by decide) fdagree ⟨car_i (by rw [fd3]), car_c (by rw [fd10]; rfl), ⟨g.osV, rfl, rfl⟩, trivial⟩ hk, ⟨car_i (by rw [h3, er3]), car_i (by rw [h12, er10]), trivial⟩⟩
/-- Symbols of a state, a number sought, and where. -/
def qrho (g : StG) (id r : Int) : Rho := ⟨fun k => if k = 3 then id else if k = 12 then r else 0, qval g, fun _ => 0, fun _ => 0, qval_one, fun _ => [], fun _ _ h => by cases h⟩
theorem q3 {r : Int} : (qrho g id r).int 3 = id := rfl
theorem q12 {r : Int} : (qrho g id r).int 12 = r := rfl
theorem q_fits {r : Int} (hid : I64 id) (hr : I64 r) (k : Nat) : I64 ((qrho g id r).int k) := by
  show I64 (if k = 3 then id else if k = 12 then r else 0)
  split
  · exact hid
  split
  · exact hr
  · exact i64_0
theorem StG.OK.find_fits (h : g.OK w) : I64 (g.find id) := fixI_fits _ (by have := h.no; show ((0 : Nat) : Int) + _ ≤ _; omega)
theorem StG.OK.has_fits (h : g.OK w) : I64 (g.has id) := fixI_fits _ (by have := h.nf; show ((0 : Nat) : Int) + _ ≤ _; omega)
theorem q_st {r : Int} : StRho g (qrho g id r) := ⟨fun k _ => rfl⟩
/-- state.Find. -/
theorem find_calls (h : g.OK w) (hid : I64 id) : Calls Try.prog 26 ⟨[g.v, .int .i64 id]⟩ w fun e w' => e = .returned (.int .i64 (g.find id)) ∧ Below w.heap.size w w' := by
  letI : Ext := extKA Try.prog sfKT sfK2
  have hf := q_fits (g := g) (id := id) (r := g.find id) hid h.find_fits
  have hx : @Ext.ok (extKA Try.prog sfKT sfK2) (qrho g id (g.find id)) w := ⟨(fun e he => by cases he), fun e he => by
    simp only [sfK2, List.mem_singleton] at he
    subst he
    exact find40 h hid rfl q3 q12⟩
  have hok : sfc0.OK w (qrho g id (g.find id)) := by
    refine CutP.ok_of hx ?_ (fun iv fs => em_ok iv fs)
    refine iv_s (n := 0) hf rfl (by show (0 : Int) ≤ 0; omega)
  have hok1 : sfc1.OK w (qrho g id (g.find id)) := okEm hx rfl rfl hf
  have hr : RunsH sfC w 1 (qrho g id (g.find id)) 0 0 (qrho g id (g.find id)) := .exit (c := sfc0) (d := sfc1) (xs := [si 12]) rfl hok rfl rfl rfl agree00 ⟨car_i rfl, trivial⟩ hok1
  have hst : HSim w ⟨fun _ => none, qrho g id (g.find id)⟩ ⟨sfc0.env (qrho g id (g.find id)), .lf, 0⟩ w := HSim.startE ((hok.env _ rfl).ok hok.ext) (fun r b hb => by cases hb)
  refine (autoH_calls sfauto (f := 26) Try.func26 rfl (F := ⟨w, fun _ => none⟩) (fun i inf hi => by cases hi) (args := [stV, si 3]) (c := sfc0) (d := sfc1) (p0 := 0) (by kernel_rfl) rfl rfl rfl rfl hst ?_ hr).mono ?_
  · simp only [VRs]
    refine ⟨_, _, rfl, stV_VR q_st, _, _, rfl, ?_, rfl⟩
    simp only [si, VR, q3]
  · rintro e w' ⟨v, rfl, φ, hφ, k1, k2, k3⟩
    refine ⟨?_, k3.wk.os, k3.wk.tape, k3.wk.output, k3.wk.size, fun k hk => k2.old.same k hk (fun x => x)⟩
    have k1' : VR φ (si 12) v := k1
    simp only [si, VR] at k1'
    rw [k1', hφ, q12]
/-- slices.Index. -/
theorem index_calls (h : g.OK w) (hid : I64 id) : Calls Try.prog 45 ⟨[g.fsV, .int .i64 id]⟩ w fun e w' => e = .returned (.int .i64 (g.has id)) ∧ Below w.heap.size w w' := by
  letI : Ext := extKA Try.prog cnKT cnK2
  obtain ⟨k, hk⟩ := cn_run h hid g.fs.length 0 (by omega)
  have e0 : fixI (isN id) 0 (g.fs.drop 0) = g.has id := by rw [List.drop_zero]; rfl
  rw [e0] at hk
  have hok : cnc0.OK w (crho g id 0) := okCn rfl rfl h hid (Nat.zero_le _)
  have hr : RunsH cnC w 2 (erho id (g.has id)) (k + 1) 0 (crho g id 0) := .step (ρ1 := crho g id 0) (c := cnc0) (d := cnc1) (xs := [.int .i64 0, si 3, .sym 46]) rfl hok rfl rfl (by decide) cnagree ⟨car_c (by rw [cn10]; rfl), car_i (by rw [cn3]), ⟨g.fsV, rfl, rfl⟩, trivial⟩ hk
  have hst : HSim w ⟨fun _ => none, crho g id 0⟩ ⟨cnc0.env (crho g id 0), .lf, 0⟩ w := HSim.startE ((hok.env _ rfl).ok hok.ext) (fun r b hb => by rw [show (cnc0.env (crho g id 0)).blk = fun _ => none from cnauto.blk 0 cnc0 rfl _ _] at hb; cases hb)
  refine (autoH_calls cnauto (f := 45) Try.func45 rfl (F := ⟨w, fun _ => none⟩) (fun i inf hi => by cases hi) (args := [.sym 46, si 3]) (c := cnc0) (d := cnc2) (p0 := 0) (by kernel_rfl) rfl rfl rfl rfl hst ?_ hr).mono ?_
  · simp only [VRs]
    refine ⟨_, _, rfl, ?_, _, _, rfl, ?_, rfl⟩
    · simp only [VR]
      rfl
    · simp only [si, VR, cn3]
  · rintro e w' ⟨v, rfl, φ, hφ, k1, k2, k3⟩
    refine ⟨?_, k3.wk.os, k3.wk.tape, k3.wk.output, k3.wk.size, fun k hk => k2.old.same k hk (fun x => x)⟩
    have k1' : VR φ (si 10) v := k1
    simp only [si, VR] at k1'
    rw [k1', hφ, er10]
/-- slices.Contains. -/
theorem contains_calls (h : g.OK w) (hid : I64 id) : Calls Try.prog 38 ⟨[g.fsV, .int .i64 id]⟩ w fun e w' => e = .returned (.bool (decide (0 ≤ g.has id))) ∧ Below w.heap.size w w' := by
  letI : Ext := extKA Try.prog ctKT ctK2
  have hf := q_fits (g := g) (id := id) (r := g.has id) hid h.has_fits
  have hx : @Ext.ok (extKA Try.prog ctKT ctK2) (qrho g id (g.has id)) w := ⟨fun e he => by
    simp only [ctKT, List.mem_singleton] at he
    subst he
    intro φ vs w' hφ h1 h2 hv hp
    have hv' : vs = [g.fsV, .int .i64 id] := by
      simp only [VRs, VR, hφ] at hv
      obtain ⟨_, _, rfl, rfl, _, _, rfl, rfl, rfl⟩ := hv
      rfl
    subst hv'
    refine (index_calls (h.later h1 fun k hk => h2 k hk (fun x => x)) hid).mono ?_
    rintro e w'' ⟨rfl, hb⟩
    exact ⟨_, rfl, by simp only [VR, hφ, q12], hb⟩, (fun e he => by cases he)⟩
  have hok : ctc0.OK w (qrho g id (g.has id)) := by
    refine CutP.ok_of hx ?_ (fun iv fs => em_ok iv fs)
    refine iv_s (n := 0) hf rfl (by show (0 : Int) ≤ 0; omega)
  have hok1 : ctc1.OK w (qrho g id (g.has id)) := okEm hx rfl rfl hf
  have hok2 : ctc2.OK w (qrho g id (g.has id)) := okEm hx rfl rfl hf
  have hst : HSim w ⟨fun _ => none, qrho g id (g.has id)⟩ ⟨ctc0.env (qrho g id (g.has id)), .lf, 0⟩ w := HSim.startE ((hok.env _ rfl).ok hok.ext) (fun r b hb => by cases hb)
  have ha : VRs ⟨fun _ => none, qrho g id (g.has id)⟩ [.sym 46, si 3] [g.fsV, .int .i64 id] := by
    simp only [VRs]
    refine ⟨_, _, rfl, ?_, _, _, rfl, ?_, rfl⟩
    · simp only [VR]
      rfl
    · simp only [si, VR, q3]
  by_cases hb : 0 ≤ g.has id
  · have hr : RunsH ctC w 2 (qrho g id (g.has id)) 0 0 (qrho g id (g.has id)) := .exit (c := ctc0) (d := ctc2) (xs := []) rfl hok (by show valX ctt0 _ = _; simp only [ctt0, valX]; rw [if_neg (by rw [q12]; omega)]) rfl rfl agree00 trivial hok2
    refine (autoH_calls ctauto (f := 38) Try.func38 rfl (F := ⟨w, fun _ => none⟩) (fun i inf hi => by cases hi) (args := [.sym 46, si 3]) (c := ctc0) (d := ctc2) (p0 := 0) (by kernel_rfl) rfl rfl rfl rfl hst ha hr).mono ?_
    rintro e w' ⟨v, rfl, φ, hφ, k1, k2, k3⟩
    refine ⟨?_, k3.wk.os, k3.wk.tape, k3.wk.output, k3.wk.size, fun k hk => k2.old.same k hk (fun x => x)⟩
    have k1' : VR φ (.bool true) v := k1
    simp only [VR] at k1'
    rw [k1', decide_eq_true hb]
  · have hr : RunsH ctC w 1 (qrho g id (g.has id)) 0 0 (qrho g id (g.has id)) := .exit (c := ctc0) (d := ctc1) (xs := []) rfl hok (by show valX ctt0 _ = _; simp only [ctt0, valX]; rw [if_pos (by rw [q12]; omega)]) rfl rfl agree00 trivial hok1
    refine (autoH_calls ctauto (f := 38) Try.func38 rfl (F := ⟨w, fun _ => none⟩) (fun i inf hi => by cases hi) (args := [.sym 46, si 3]) (c := ctc0) (d := ctc1) (p0 := 0) (by kernel_rfl) rfl rfl rfl rfl hst ha hr).mono ?_
    rintro e w' ⟨v, rfl, φ, hφ, k1, k2, k3⟩
    refine ⟨?_, k3.wk.os, k3.wk.tape, k3.wk.output, k3.wk.size, fun k hk => k2.old.same k hk (fun x => x)⟩
    have k1' : VR φ (.bool false) v := k1
    simp only [VR] at k1'
    rw [k1', decide_eq_false hb]
end
end
end Go.Proofs.Ytgbhmkdldfhamaa.order
