/-
  Effects of a beast, over the small pool: known calls.
-/
import Derived.Test.YtgbhmkdldfhamaaTxC
namespace Go.Proofs.Ytgbhmkdldfhamaa.order
open Go.Ev Go.RowKit
set_option linter.unusedVariables false
noncomputable section
/-- Symbols of a list alone. -/
def lro (l : List Eff) : Rho := ⟨fun k => if k = 2 then (l.length : Int) else 0, fun _ => .bool false, fun _ => 0, fun _ => 0, fun _ => rfl, fun k => if k = 0 then cellsOf l else if k = 1 then cellsOf (isort l) else [], fun k x hx => by
  revert hx
  show x ∈ (if k = 0 then cellsOf l else if k = 1 then cellsOf (isort l) else []) → _
  split
  · exact cellsOf_closed _ x
  split
  · exact cellsOf_closed _ x
  · intro h; cases h⟩
theorem lro_fits {l : List Eff} (h : (l.length : Int) ≤ 1000000) (k : Nat) : I64 ((lro l).int k) := by
  show I64 (if k = 2 then (l.length : Int) else 0)
  split
  · exact ⟨by omega, by omega⟩
  · exact i64_0
theorem lro_n {l : List Eff} : (lro l).int 2 = (l.length : Int) := rfl
theorem lro_0 {l : List Eff} : (lro l).lst 0 = cellsOf l := rfl
theorem lro_1 {l : List Eff} : (lro l).lst 1 = cellsOf (isort l) := rfl
theorem del_keG {e : KE2} {l : List Eff} {ρ : Rho} {w0 : World} (hf : Try.prog.funcs[e.f]? = some Try.f27) (hx : 2 = e.xs.length) (hw : wf2 e = true) {zs1 ys1 zs2 ys2 : List VV} (hB : adaptB 1 dlc0 dlc1 e zs1 ys1 zs2 ys2 = true) (hl : (l.length : Int) ≤ 1000000) (fit : ∀ x ∈ l, x.Fit) (ha : Acts l) (c1 : carry ρ (lro l) zs1 ys1) (c2 : carry (lro l) ρ zs2 ys2) : KE2ok Try.prog ρ w0 e := by
  letI : Ext := extKA Try.prog dlKT dlK2
  have hLR : ListRho (lro l) l := ⟨lro_n, hl, fit, lro_0⟩
  have hxx : @Ext.ok (extKA Try.prog dlKT dlK2) (lro l) w0 := ⟨(fun e he => by cases he), fun e he => by
    simp only [dlK2, List.mem_singleton] at he
    subst he
    exact idx_ke2 hLR ha w0⟩
  have hI := lro_fits hl
  have hiv : IvOK dliv0 (lro l) := iv_all (f := (lro l).int) ⟨hI 0, hI 1, ⟨by show (0 : Int) ≤ (lro l).int 2; rw [lro_n]; omega, (hI 2).2⟩, trivial⟩ hI
  have ok0 : dlc0.OK w0 (lro l) := CutP.ok_of hxx hiv (fun iv fs => em_ok iv fs)
  have ok1 : dlc1.OK w0 (lro l) := CutP.ok_of hxx hiv (fun iv fs => em_ok iv fs)
  have cl : Car (lro l) (lro l) (.agg [.sym 0], .agg [.sym 0, si 2, i8 4]) := car_list lro_0 lro_0 lro_n
  exact ke2_of dlauto (e := e) hf (by kernel_rfl) (args := [.lsl 0 2 0, delV]) (by kernel_rfl) hx (c := dlc0) (d := dlc1) (q' := 1) (p0 := 0) rfl rfl rfl rfl rfl hw hB ⟨lro l, lro l, 0, c1, .exit (c := dlc0) (d := dlc1) (xs := [.agg [.sym 0]]) rfl ok0 rfl rfl rfl (fun k hk => ⟨rfl, rfl, rfl, rfl, rfl⟩) ⟨cl, trivial⟩ ok1, c2⟩
theorem ss_keG {e : KE2} {l : List Eff} {ρ : Rho} {w0 : World} (hf : Try.prog.funcs[e.f]? = some Try.f30) (hx : 2 = e.xs.length) (hw : wf2 e = true) {zs1 ys1 zs2 ys2 : List VV} (hB : adaptB 1 ssc0 ssc1 e zs1 ys1 zs2 ys2 = true) (hl : l.length ≤ 19) (fit : ∀ x ∈ l, x.Fit) (c1 : carry ρ (lro l) zs1 ys1) (c2 : carry (lro l) ρ zs2 ys2) : KE2ok Try.prog ρ w0 e := by
  letI : Ext := extKA Try.prog ssKT ssK2
  have hL : (l.length : Int) ≤ 1000000 := by omega
  have h : SortRho (lro l) l := ⟨lro_n, hL, fit, lro_0, lro_1⟩
  have hI := lro_fits hL
  have hxx : @Ext.ok (extKA Try.prog ssKT ssK2) (lro l) w0 := ⟨(fun e he => by cases he), fun e he => by
    simp only [ssK2, List.mem_singleton] at he
    subst he
    exact stab_ke2 h hI hl w0⟩
  have ok0 : ssc0.OK w0 (lro l) := CutP.ok_of hxx (iv_sm h hI hl) (fun iv fs => em_ok iv fs)
  have ok1 : ssc1.OK w0 (lro l) := CutP.ok_of hxx (iv_sm h hI hl) (fun iv fs => em_ok iv fs)
  exact ke2_of ssauto (e := e) hf (by kernel_rfl) (args := [.lsl 0 2 0, cmpL]) (by kernel_rfl) hx (c := ssc0) (d := ssc1) (q' := 1) (p0 := 0) rfl rfl rfl rfl rfl hw hB ⟨lro l, lro l, 0, c1, .exit (c := ssc0) (d := ssc1) (xs := [.agg [.sym 1]]) rfl ok0 rfl rfl rfl (fun k hk => ⟨rfl, rfl, rfl, rfl, rfl⟩) ⟨car_list lro_1 lro_1 (by rw [lro_n, isort_len]), trivial⟩ ok1, c2⟩
theorem svals_app {ρ : Rho} : ∀ {xs ys : List VV} {us vs : List Value}, svals ρ xs = some us → svals ρ ys = some vs → svals ρ (xs ++ ys) = some (us ++ vs)
  | [], ys, us, vs, h, k => by
    simp only [svals, Option.some.injEq] at h
    subst h
    exact k
  | x :: xs, ys, us, vs, h, k => by
    simp only [svals] at h
    cases h1 : sval ρ x with
    | none => rw [h1] at h; simp at h
    | some v => cases h2 : svals ρ xs with
      | none => rw [h1, h2] at h; simp at h
      | some ws =>
        rw [h1, h2] at h
        simp only [Option.some.injEq] at h
        subst h
        simp only [List.cons_append, svals, h1, svals_app h2 k]
theorem valsOf_app : ∀ (l m : List Eff), valsOf (l ++ m) = valsOf l ++ valsOf m
  | [], m => rfl
  | x :: l, m => by simp only [List.cons_append, valsOf, valsOf_app l m]
theorem car_lens {ρ ρ' : Rho} {n m : Nat} {a b : Int} (h : (ρ.int n).toNat + a.toNat = (ρ'.int m).toNat + b.toNat) : Car ρ ρ' (.tuple [.sint .i64 n, .int .i64 a], .tuple [.sint .i64 m, .int .i64 b]) := by
  refine ⟨(ρ.int n).toNat + a.toNat, ?_, ?_⟩
  · simp [lenX]
  · simp [lenX, h]
theorem car_listV {ρ ρ' : Rho} {j n : Nat} {x : VV} {l : List Eff} (h : lstX ρ x = some (valsOf l)) (h' : ρ'.lst j = cellsOf l) (hn : ρ'.int n = (l.length : Int)) : Car ρ ρ' (x, .agg [.sym j, .sint .i64 n, .int .i64 4]) := by
  refine ⟨valsOf l, h, ?_, ?_, ?_⟩
  · simp only [List.append_nil, h', svals_cells]
  · rw [hn]; omega
  · rw [h', cellsOf_len, hn]; rfl
section
variable {w : World} {e : EfG} {id : Int} {i : Nat} {l : List Eff}
theorem stV_inv {φ : Phi} {g : StG} {v : Value} (h : StRho g φ.ρ) (k : VR φ stV v) : v = g.v := by
  unfold stV at k
  simp only [VR, VRs] at k
  obtain ⟨_, ⟨_, _, rfl, rfl, _, _, rfl, rfl, _, _, rfl, rfl, _, _, rfl, rfl, _, _, rfl, rfl, _, _, rfl, rfl, _, _, rfl, rfl, _, _, rfl, rfl, _, _, rfl, rfl, _, _, rfl, rfl, _, _, rfl, rfl, _, _, rfl, rfl, _, _, rfl, rfl, _, _, rfl, rfl, _, _, rfl, rfl, _, _, rfl, rfl, _, _, rfl, rfl, _, _, rfl, rfl, _, _, rfl, rfl, _, _, rfl, rfl, _, _, rfl, rfl, _, _, rfl, rfl, _, _, rfl, rfl, _, _, rfl, rfl, _, _, rfl, rfl, rfl⟩, rfl⟩ := k
  rw [h.v 60 (by omega), h.v 41 (by omega), h.v 62 (by omega), h.v 63 (by omega), h.v 64 (by omega), h.v 65 (by omega), h.v 46 (by omega), h.v 67 (by omega), h.v 68 (by omega), h.v 69 (by omega), h.v 70 (by omega), h.v 71 (by omega), h.v 72 (by omega), h.v 73 (by omega), h.v 74 (by omega), h.v 75 (by omega), h.v 76 (by omega), h.v 77 (by omega), h.v 78 (by omega), h.v 79 (by omega), h.v 80 (by omega), h.v 81 (by omega), h.v 82 (by omega), h.v 83 (by omega), h.v 84 (by omega)]
  rfl
theorem er_st : StRho e.g (erE e id i l) := ⟨fun k hk => by
  rw [evc k (by omega)]
  unfold cvalE
  split <;> first | omega | rfl⟩
theorem actsOf_acts (o b : Ob) : Acts (actsOf o b) := by
  intro x hx
  unfold actsOf spec at hx
  obtain ⟨y, hy, rfl⟩ := List.mem_map.1 hx
  show 1 ≤ y.1 ∧ y.1 ≤ 4
  split at hy
  · split at hy
    · simp only [List.mem_singleton] at hy; subst hy; exact ⟨by decide, by decide⟩
    · cases hy
  split at hy
  · simp only [List.mem_singleton] at hy; subst hy; exact ⟨by decide, by decide⟩
  split at hy
  · rcases List.mem_append.1 hy with hy | hy
    · split at hy
      · simp only [List.mem_singleton] at hy; subst hy; exact ⟨by decide, by decide⟩
      · cases hy
    · split at hy
      · simp only [List.mem_singleton] at hy; subst hy; exact ⟨by decide, by decide⟩
      · cases hy
  · cases hy
theorem spec_small {c i j x y : Int} : ∀ p ∈ spec c i j x y, I64 p.1 ∧ I64 p.2.1 ∧ I64 p.2.2 := by
  intro y hy
  unfold spec at hy
  split at hy
  · split at hy
    · simp only [List.mem_singleton] at hy; subst hy; exact ⟨⟨by decide, by decide⟩, ⟨by decide, by decide⟩, by decide, by decide⟩
    · cases hy
  split at hy
  · simp only [List.mem_singleton] at hy; subst hy; exact ⟨⟨by decide, by decide⟩, ⟨by decide, by decide⟩, by decide, by decide⟩
  split at hy
  · rcases List.mem_append.1 hy with hy | hy
    · split at hy
      · simp only [List.mem_singleton] at hy; subst hy; exact ⟨⟨by decide, by decide⟩, ⟨by decide, by decide⟩, by decide, by decide⟩
      · cases hy
    · split at hy
      · simp only [List.mem_singleton] at hy; subst hy; exact ⟨⟨by decide, by decide⟩, ⟨by decide, by decide⟩, by decide, by decide⟩
      · cases hy
  · cases hy
theorem actsOf_fit {o b : Ob} (h : o.Fit) : ∀ x ∈ actsOf o b, x.Fit := by
  intro x hx
  obtain ⟨y, hy, rfl⟩ := List.mem_map.1 hx
  obtain ⟨h1, h2, h3⟩ := spec_small y hy
  exact ⟨h1, h2, h3, h.st⟩
theorem coll_acts (g : StG) (b : Ob) (m : List Int) : Acts (g.coll b m) := by
  intro x hx
  obtain ⟨n, _, hx⟩ := List.mem_flatMap.1 hx
  unfold StG.acts at hx
  split at hx
  · cases hx
  · exact actsOf_acts _ _ x hx
theorem coll_fit {g : StG} (h : g.OK w) (b : Ob) (m : List Int) : ∀ x ∈ g.coll b m, x.Fit := by
  intro x hx
  obtain ⟨n, _, hx⟩ := List.mem_flatMap.1 hx
  unfold StG.acts at hx
  split at hx
  · cases hx
  · exact actsOf_fit (h.obFit _) x hx
theorem eff1_fit : eff1.Fit := ⟨⟨by decide, by decide⟩, i64_0, i64_0, i64_0⟩
theorem pad_fit (h : ∀ x ∈ l, x.Fit) : ∀ x ∈ pad l, x.Fit := by
  unfold pad
  split
  · intro x hx; simp only [List.mem_singleton] at hx; subst hx; exact eff1_fit
  · exact h
theorem pad_acts (h : Acts l) : Acts (pad l) := by
  unfold pad
  split
  · intro x hx; simp only [List.mem_singleton] at hx; subst hx; exact ⟨by decide, by decide⟩
  · exact h
end
end
end Go.Proofs.Ytgbhmkdldfhamaa.order
namespace Go.Proofs.Ytgbhmkdldfhamaa.order
open Go.Ev Go.RowKit
set_option linter.unusedVariables false
noncomputable section
section
variable {w : World} {e : EfG} {id : Int} {i : Nat} {l : List Eff}
theorem e141 : (erE e id i l).lst 141 = cellsOf (pad l) := elv 1
theorem e143 : (erE e id i l).lst 143 = cellsOf (pad l ++ [e.e0]) := elv 3
theorem e144 : (erE e id i l).lst 144 = cellsOf (isort (pad l ++ [e.e0])) := elv 4
theorem e146 : (erE e id i l).lst 146 = cellsOf (isort (pad l)) := elv 6
theorem e156 : (erE e id i l).int 156 = ((pad l).length : Int) := ev 16
theorem e158 : (erE e id i l).int 158 = ((pad l).length : Int) + 1 := ev 18
theorem e149 : (erE e id i l).int 149 = w64 ((i : Int) + 1) := ev 9
theorem e150 : (erE e id i l).int 150 = (i : Int) := ev 10
theorem e175 : (erE e id i l).int 175 = e.b.card := ev 35
theorem e155 : (erE e id i l).int 155 = e.g.fn i := ev 15
theorem e152 : (erE e id i l).int 152 = e.g.find (e.g.fn i) := ev 12
theorem e3 : (erE e id i l).int 3 = id := ec 3 (by omega)
theorem e2 : (erE e id i l).int 2 = (e.g.fs.length : Int) := ec 2 (by omega)
theorem e13 : (erE e id i l).int 13 = (e.bi : Int) := ec 13 (by omega)
theorem e0_sv : svals (erE e id i l) [si 135, si 136, si 137, si 138] = some (valsOf [e.e0]) := by
  have a : (erE e id i l).int 135 = e.e0.op := ec 135 (by omega)
  have b : (erE e id i l).int 136 = e.e0.a := ec 136 (by omega)
  have c : (erE e id i l).int 137 = e.e0.b := ec 137 (by omega)
  have d : (erE e id i l).int 138 = e.e0.st := ec 138 (by omega)
  simp only [svals, sval, si, a, b, c, d, valsOf]
theorem Hd.hw (h : e.OK id w) (hh : Hd e i l) : Hw e i l := ⟨hh.le, by have := hh.len h; omega, by rw [hh.l]; exact coll_fit h.g _ _, by rw [hh.l]; exact coll_acts _ _ _⟩
theorem ext_ef (h : e.OK id w) (hh : Hw e i l) : @Ext.ok (extKA Try.prog efKT efK2) (erE e id i l) w := by
  have hp := hh.padlen
  have hlf := hh.fit
  have hla := hh.ac
  have pf := pad_fit hlf
  have pa := pad_acts hla
  have h0 := h.e0_fit
  have pf0 : ∀ x ∈ pad l ++ [e.e0], x.Fit := fun x hx => by
    rcases List.mem_append.1 hx with hx | hx
    · exact pf x hx
    · simp only [List.mem_singleton] at hx; subst hx; exact h0.1
  have pa0 : Acts (pad l ++ [e.e0]) := fun x hx => by
    rcases List.mem_append.1 hx with hx | hx
    · exact pa x hx
    · simp only [List.mem_singleton] at hx; subst hx; exact h0.2
  have hl0 : (pad l ++ [e.e0]).length = (pad l).length + 1 := by simp
  have n158 : (erE e id i l).int 158 = ((pad l ++ [e.e0]).length : Int) := by rw [e158, hl0]; omega
  refine ⟨fun x hx => ?_, fun x hx => ?_⟩
  · simp only [efKT, List.mem_cons, List.not_mem_nil, or_false] at hx
    rcases hx with rfl | rfl | rfl
    · intro φ vs w' hφ h1 h2 hv hpre
      have hv' : vs = [e.g.v, .int .i64 id] := by
        simp only [VRs] at hv
        obtain ⟨v, ws, rfl, hs, u, us, rfl, hu, rfl⟩ := hv
        rw [stV_inv (g := e.g) (by rw [hφ]; exact er_st) hs]
        simp only [VR, hφ, e3] at hu
        rw [hu]
      subst hv'
      refine (find_calls (h.g.later h1 fun k hk => h2 k hk (fun x => x)) h.id).mono ?_
      rintro en w'' ⟨rfl, hb⟩
      exact ⟨_, rfl, by simp only [VR, hφ, e13, h.fd], hb⟩
    · intro φ vs w' hφ h1 h2 hv hpre
      have hv' : vs = [e.g.v, .int .i64 (e.g.fn i)] := by
        simp only [VRs] at hv
        obtain ⟨v, ws, rfl, hs, u, us, rfl, hu, rfl⟩ := hv
        rw [stV_inv (g := e.g) (by rw [hφ]; exact er_st) hs]
        simp only [VR, hφ, e155] at hu
        rw [hu]
      subst hv'
      refine (find_calls (h.g.later h1 fun k hk => h2 k hk (fun x => x)) (h.g.fnFit i)).mono ?_
      rintro en w'' ⟨rfl, hb⟩
      exact ⟨_, rfl, by simp only [VR, hφ, e152], hb⟩
    · intro φ vs w' hφ h1 h2 hv hpre
      have v46 : (erE e id i l).val 46 = e.g.fsV := evc 46 (by omega)
      have hv' : vs = [e.g.fsV, .int .i64 id] := by
        simp only [VRs, VR, hφ, e3, v46] at hv
        obtain ⟨_, _, rfl, rfl, _, _, rfl, rfl, rfl⟩ := hv
        rfl
      subst hv'
      refine (contains_calls (h.g.later h1 fun k hk => h2 k hk (fun x => x)) h.id).mono ?_
      rintro en w'' ⟨rfl, hb⟩
      exact ⟨_, rfl, by simp only [VR]; rw [decide_eq_true h.has], hb⟩
  · simp only [efK2, List.mem_cons, List.not_mem_nil, or_false] at hx
    rcases hx with rfl | rfl | rfl | rfl
    · refine del_keG (l := pad l) Try.func27 rfl (by kernel_rfl) (zs1 := [.agg [.sym 141], .tuple [si 156, i8 0]]) (ys1 := [.agg [.sym 0, si 2, i8 4], .tuple [si 2, i8 0]]) (zs2 := [.agg [.sym 0], .tuple [si 2, i8 0]]) (ys2 := [.agg [.sym 141, si 156, i8 4], .tuple [si 156, i8 0]]) (by kernel_rfl) (by omega) pf pa ⟨car_list e141 lro_0 lro_n, car_len (by rw [lro_n, e156]), trivial⟩ ⟨car_list lro_0 e141 e156, car_len (by rw [lro_n, e156]), trivial⟩
    · refine del_keG (l := pad l ++ [e.e0]) Try.func27 rfl (by kernel_rfl) (zs1 := [.agg (.sym 141 :: efT), .tuple [si 156, i8 1]]) (ys1 := [.agg [.sym 0, si 2, i8 4], .tuple [si 2, i8 0]]) (zs2 := [.agg [.sym 0], .tuple [si 2, i8 0]]) (ys2 := [.agg [.sym 143, si 158, i8 4], .tuple [si 158, i8 0]]) (by kernel_rfl) (by rw [hl0]; omega) pf0 pa0 ⟨car_listV ?_ lro_0 lro_n, car_lens ?_, trivial⟩ ⟨car_list lro_0 e143 n158, car_len (by rw [lro_n, n158]), trivial⟩
      · show svals _ ((erE e id i l).lst 141 ++ efT) = _
        rw [e141, valsOf_app]
        exact svals_app (svals_cells _ _) e0_sv
      · rw [e156, lro_n, hl0]
        omega
    · refine ss_keG (l := pad l) Try.func30 rfl (by kernel_rfl) (zs1 := [.agg [.sym 141], .tuple [si 156, i8 0], .tuple [si 156, i8 0]]) (ys1 := [.agg [.sym 0, si 2, i8 4], .tuple [si 2, i8 0], .tuple [si 2, i8 0]]) (zs2 := [.agg [.sym 1]]) (ys2 := [.agg [.sym 146, si 156, i8 4]]) (by kernel_rfl) (by omega) pf ⟨car_list e141 lro_0 lro_n, car_len (by rw [lro_n, e156]), car_len (by rw [lro_n, e156]), trivial⟩ ⟨car_list lro_1 e146 (by rw [e156, isort_len]), trivial⟩
    · refine ss_keG (l := pad l ++ [e.e0]) Try.func30 rfl (by kernel_rfl) (zs1 := [.agg [.sym 143], .tuple [si 158, i8 0], .tuple [si 158, i8 0]]) (ys1 := [.agg [.sym 0, si 2, i8 4], .tuple [si 2, i8 0], .tuple [si 2, i8 0]]) (zs2 := [.agg [.sym 1]]) (ys2 := [.agg [.sym 144, si 158, i8 4]]) (by kernel_rfl) (by rw [hl0]; omega) pf0 ⟨car_list e143 lro_0 lro_n, car_len (by rw [lro_n, n158]), car_len (by rw [lro_n, n158]), trivial⟩ ⟨car_list lro_1 e144 (by rw [n158, isort_len]), trivial⟩
end
end
end Go.Proofs.Ytgbhmkdldfhamaa.order
namespace Go.Proofs.Ytgbhmkdldfhamaa.order
open Go.Ev Go.RowKit
set_option linter.unusedVariables false
noncomputable section
def mkE (st : Int) (x : Sp) : Eff := ⟨x.1, x.2.1, x.2.2, st⟩
theorem spV_sv {ρ : Rho} {st : Int} (h : ρ.int 169 = st) : ∀ sp : List Sp, svals ρ (spV sp) = some (valsOf (sp.map (mkE st)))
  | [] => rfl
  | (o, a, b) :: l => by simp only [spV, svals, i8, si, sval, h, spV_sv h l, List.map_cons, valsOf, mkE]
def hq (e : EfG) (l : List Eff) : Nat := match l, e.effs with
  | [], [] => 1
  | [], _ :: _ => 3
  | _ :: _, [] => 4
  | _ :: _, _ :: _ => 5
def eq' (e : EfG) : Nat := match e.g.coll e.b e.g.fs, e.effs with
  | [], [] => 2
  | [], _ :: _ => 6
  | _ :: _, _ => 7
/-- All that acts, in order. -/
def EfG.res (e : EfG) : List Eff := isort e.raw
section
variable {w : World} {e : EfG} {id : Int} {i : Nat} {l : List Eff}
/-- What an object brings. -/
def EfG.sp (e : EfG) (i : Nat) : List Sp := if e.g.find (e.g.fn i) ≤ -1 then [] else spec (e.g.ob (e.g.find (e.g.fn i)).toNat).card (e.g.ob (e.g.find (e.g.fn i)).toNat).id e.b.id (e.g.ob (e.g.find (e.g.fn i)).toNat).ctrl e.b.ctrl
def EfG.st (e : EfG) (i : Nat) : Int := (e.g.ob (e.g.find (e.g.fn i)).toNat).st
theorem acts_sp : e.g.acts e.b (e.g.fn i) = (e.sp i).map (mkE (e.st i)) := by
  unfold StG.acts EfG.sp EfG.st
  split
  · rfl
  · rfl
theorem e169 : (erE e id i l).int 169 = e.st i := ev 29
theorem act_er (f : List Sp → TrX Leaf) : valX (actT f) (erE e id i l).int = valX (f (e.sp i)) (erE e id i l).int := by
  rw [act_val, e152]
  have h1 : (erE e id i l).int 161 = (e.g.ob (e.g.find (e.g.fn i)).toNat).card := ev 21
  have h2 : (erE e id i l).int 160 = (e.g.ob (e.g.find (e.g.fn i)).toNat).id := ev 20
  have h3 : (erE e id i l).int 163 = (e.g.ob (e.g.find (e.g.fn i)).toNat).ctrl := ev 23
  have h4 : (erE e id i l).int 120 = e.b.id := ec 120 (by omega)
  have h5 : (erE e id i l).int 123 = e.b.ctrl := ec 123 (by omega)
  rw [h1, h2, h3, h4, h5]
  rfl
theorem Hd.next (hh : Hd e i l) (hi : i < e.g.fs.length) : Hd e (i + 1) (l ++ (e.sp i).map (mkE (e.st i))) := by
  refine ⟨hi, ?_⟩
  rw [← acts_sp, hh.l, List.take_add_one, fn_of hi, coll_app]
  simp [StG.coll]
theorem okEf {c : CutP} (hE : c.E = Eef) (hiv : c.iv = efiv1) (h : e.OK id w) (hh : Hw e i l) : @CutP.OK (extKA Try.prog efKT efK2) c w (erE e id i l) := by
  refine @CutP.ok_of (extKA Try.prog efKT efK2) c w (erE e id i l) (ext_ef h hh) (hiv ▸ iv_ef h hh) ?_
  rw [hE]
  exact ef_ok h
theorem okEnd {c : CutP} (hE : c.E = Emt) (hiv : c.iv = []) (h : e.OK id w) (hh : Hw e i l) : @CutP.OK (extKA Try.prog efKT efK2) c w (erE e id i l) :=
  @okEm w (extKA Try.prog efKT efK2) c (erE e id i l) (ext_ef h hh) hE hiv (er_fitsE h hh)
/-- The list at the end, if it is one. -/
def EfG.lend (e : EfG) : List Eff := if e.g.coll e.b e.g.fs = [] then [] else e.raw
theorem hd_end (hh : Hd e e.g.fs.length l) : l = e.g.coll e.b e.g.fs := by rw [hh.l, List.take_length]
theorem lend_w (h : e.OK id w) : Hw e e.g.fs.length e.lend := by
  have hd : Hd e e.g.fs.length (e.g.coll e.b e.g.fs) := ⟨Nat.le_refl _, by rw [List.take_length]⟩
  have hw := hd.hw h
  unfold EfG.lend
  split
  · exact ⟨Nat.le_refl _, Nat.zero_le _, (fun x hx => by cases hx), (fun x hx => by cases hx)⟩
  · refine ⟨Nat.le_refl _, ?_, fun x hx => ?_, fun x hx => ?_⟩
    · have := h.len
      have := h.le
      unfold EfG.raw
      rw [List.length_append]
      omega
    · unfold EfG.raw at hx
      rcases List.mem_append.1 hx with hx | hx
      · exact hw.fit x hx
      · exact h.fit x hx
    · unfold EfG.raw at hx
      rcases List.mem_append.1 hx with hx | hx
      · exact hw.ac x hx
      · exact h.ac x hx
theorem pad_ne (h : l ≠ []) : pad l = l := if_neg h
theorem e0_of {x : Eff} {r : List Eff} (he : e.effs = x :: r) : e.e0 = x := by unfold EfG.e0; rw [he]; rfl
theorem effs_one (h : e.OK id w) {x : Eff} {r : List Eff} (he : e.effs = x :: r) : e.effs = [x] := by
  have := h.le
  rw [he] at this ⊢
  cases r with
  | nil => rfl
  | cons y r => simp at this
theorem e135 : (erE e id i l).int 135 = e.e0.op := ec 135 (by omega)
theorem e136 : (erE e id i l).int 136 = e.e0.a := ec 136 (by omega)
theorem e137 : (erE e id i l).int 137 = e.e0.b := ec 137 (by omega)
theorem e138 : (erE e id i l).int 138 = e.e0.st := ec 138 (by omega)
theorem ef_exit (h : e.OK id w) (hh : Hd e e.g.fs.length l) : ∃ k, @RunsH (extKA Try.prog efKT efK2) efC w (eq' e) (erE e id e.g.fs.length e.lend) k (hq e l) (erE e id e.g.fs.length l) := by
  letI : Ext := extKA Try.prog efKT efK2
  have hl := hd_end hh
  have hneg : ¬ (erE e id e.g.fs.length l).int 150 < (erE e id e.g.fs.length l).int 2 := by rw [e150, e2]; omega
  have hw := hh.hw h
  have hz := lend_w h
  cases hc : e.g.coll e.b e.g.fs with
  | nil =>
    rw [hc] at hl
    subst hl
    have hle : e.lend = [] := by unfold EfG.lend; rw [hc]; rfl
    cases he : e.effs with
    | nil =>
      have q1 : hq e [] = 1 := by unfold hq; rw [he]
      have q2 : eq' e = 2 := by unfold eq'; rw [hc, he]
      rw [q1, q2]
      refine ⟨0, .exit (c := efc1) (d := efc2) (xs := []) rfl (okEf rfl rfl h hw) ?_ rfl rfl agree00 trivial (okEnd rfl rfl h hz)⟩
      show valX eft1 _ = _
      rw [eft1_eq]
      simp only [valX]
      rw [if_neg hneg]
    | cons x r =>
      have q1 : hq e [] = 3 := by unfold hq; rw [he]
      have q2 : eq' e = 6 := by unfold eq'; rw [hc, he]
      rw [q1, q2]
      refine ⟨0, .exit (c := efc3) (d := efc6) (xs := [si 138, si 137, si 136, si 135]) rfl (okEf rfl rfl h hw) ?_ rfl rfl agree00 ⟨car_i (by rw [e138, e138]), car_i (by rw [e137, e137]), car_i (by rw [e136, e136]), car_i (by rw [e135, e135]), trivial⟩ (okEnd rfl rfl h hz)⟩
      show valX eft3 _ = _
      rw [eft3_eq]
      simp only [valX, exE]
      rw [if_neg hneg]
      repeat' split
      all_goals rfl
  | cons y s =>
    rw [hc] at hl
    have hne : l ≠ [] := by rw [hl]; simp
    have hpl : pad l = l := pad_ne hne
    have hle : e.lend = l ++ e.effs := by unfold EfG.lend EfG.raw; rw [hc, hl]; rfl
    have q2 : eq' e = 7 := by unfold eq'; rw [hc]
    have hpe : pad (l ++ e.effs) = l ++ e.effs := pad_ne (by simp [hne])
    rw [q2]
    cases he : e.effs with
    | nil =>
      have q1 : hq e l = 4 := by unfold hq; rw [hl, he]
      have hle' : e.lend = l := by rw [hle, he, List.append_nil]
      rw [q1, hle']
      refine ⟨0, .exit (c := efc4) (d := efc7) (xs := [.agg [.sym 146], .tuple [si 156, i8 0]]) rfl (okEf rfl rfl h hw) ?_ rfl rfl agree00 ⟨car_list e146 e146 (by rw [e156, isort_len]), car_len rfl, trivial⟩ (okEnd rfl rfl h hw)⟩
      show valX eft4 _ = _
      rw [eft4_eq]
      simp only [valX, exA]
      rw [if_neg hneg]
    | cons x r =>
      have hx := effs_one h he
      have q1 : hq e l = 5 := by unfold hq; rw [hl, he]
      have h0 := e0_of he
      have hle' : e.lend = l ++ [e.e0] := by rw [hle, hx, h0]
      have hp2 : pad (l ++ [e.e0]) = l ++ [e.e0] := pad_ne (by simp)
      rw [hle'] at hz
      rw [q1, hle']
      refine ⟨0, .exit (c := efc5) (d := efc7) (xs := [.agg [.sym 144], .tuple [si 158, i8 0]]) rfl (okEf rfl rfl h hw) ?_ rfl rfl agree00 ⟨car_list (l := isort (l ++ [e.e0])) (by rw [e144, hpl]) (by rw [e146, hp2]) (by rw [e156, hp2, isort_len]), car_lens ?_, trivial⟩ (okEnd rfl rfl h hz)⟩
      · show valX eft5 _ = _
        rw [eft5_eq]
        simp only [valX, exB]
        rw [if_neg hneg]
      · rw [e158, e156, hpl, hp2]
        simp only [List.length_append, List.length_cons, List.length_nil]
        omega
end
end
end Go.Proofs.Ytgbhmkdldfhamaa.order
namespace Go.Proofs.Ytgbhmkdldfhamaa.order
open Go.Ev Go.RowKit
set_option linter.unusedVariables false
noncomputable section
section
variable {w : World} {e : EfG} {id : Int} {i : Nat} {l : List Eff}
theorem ef_step (h : e.OK id w) (hh : Hd e i l) (hi : i < e.g.fs.length) {q' : Nat} {ρ' : Rho} (hk : ∃ k, @RunsH (extKA Try.prog efKT efK2) efC w q' ρ' k (hq e (l ++ (e.sp i).map (mkE (e.st i)))) (erE e id (i + 1) (l ++ (e.sp i).map (mkE (e.st i))))) :
    ∃ k, @RunsH (extKA Try.prog efKT efK2) efC w q' ρ' k (hq e l) (erE e id i l) := by
  letI : Ext := extKA Try.prog efKT efK2
  obtain ⟨k, hk⟩ := hk
  have hw := hh.hw h
  have hpos : (erE e id i l).int 150 < (erE e id i l).int 2 := by rw [e150, e2]; omega
  have hn := h.g.nf
  have c175 : ∀ {l' : List Eff}, Car (erE e id i l) (erE e id (i + 1) l') (si 175, si 175) := car_i (by rw [e175, e175])
  have c149 : ∀ {l' : List Eff}, Car (erE e id i l) (erE e id (i + 1) l') (si 149, si 150) := car_i (by rw [e149, e150]; exact step_w (by omega))
  have hsp := spV_sv (ρ := erE e id i l) (st := e.st i) e169 (e.sp i)
  have hlen : ((e.sp i).map (mkE (e.st i))).length = (e.sp i).length := List.length_map _
  cases l with
  | nil =>
    rw [List.nil_append] at hk
    cases hs : e.sp i with
    | nil =>
      rw [hs] at hk
      cases he : e.effs with
      | nil =>
        have q1 : hq e [] = 1 := by unfold hq; rw [he]
        rw [show List.map (mkE (e.st i)) [] = [] from rfl, q1] at hk
        rw [q1]
        refine ⟨k + 1, .step (ρ1 := erE e id (i + 1) []) (c := efc1) (d := efc1) (xs := [si 175, si 149]) rfl (okEf rfl rfl h hw) ?_ rfl (by decide) er_agree ⟨c175, c149, trivial⟩ hk⟩
        show valX eft1 _ = _
        rw [eft1_eq]
        simp only [valX]
        rw [if_pos hpos, act_er, hs]
        rfl
      | cons x r =>
        have q1 : hq e [] = 3 := by unfold hq; rw [he]
        rw [show List.map (mkE (e.st i)) [] = [] from rfl, q1] at hk
        rw [q1]
        refine ⟨k + 1, .step (ρ1 := erE e id (i + 1) []) (c := efc3) (d := efc3) (xs := [si 175, si 149]) rfl (okEf rfl rfl h hw) ?_ rfl (by decide) er_agree ⟨c175, c149, trivial⟩ hk⟩
        show valX eft3 _ = _
        rw [eft3_eq]
        simp only [valX]
        rw [if_pos hpos, act_er, hs]
        rfl
    | cons y s =>
      generalize hN : (e.sp i).map (mkE (e.st i)) = N at hk hsp hlen
      rw [hs] at hlen
      have hNne : N ≠ [] := by intro h0; rw [h0] at hlen; simp at hlen
      have hpN : pad N = N := pad_ne hNne
      have cl : Car (erE e id i []) (erE e id (i + 1) N) (.agg (.nilIface :: spV (y :: s)), .agg [.sym 141, si 156, i8 4]) := by
        rw [← hs]
        exact car_listV (l := N) hsp (by rw [e141, hpN]) (by rw [e156, hpN])
      have cn : Car (erE e id i []) (erE e id (i + 1) N) (.tuple [i8 (s.length + 1 : Nat)], .tuple [si 156, i8 0]) := by
        refine ⟨s.length + 1, ?_, ?_⟩
        · simp [lenX, i8]
        · simp only [lenX, si, i8, e156, hpN, hlen]
          simp
      cases he : e.effs with
      | nil =>
        have q1 : hq e [] = 1 := by unfold hq; rw [he]
        have q2 : hq e N = 4 := by unfold hq; rw [he]; cases N with | nil => exact absurd rfl hNne | cons a b => rfl
        rw [q2] at hk
        rw [q1]
        refine ⟨k + 1, .step (ρ1 := erE e id (i + 1) N) (c := efc1) (d := efc4) (xs := [.tuple [i8 (s.length + 1 : Nat)], .agg (.nilIface :: spV (y :: s)), si 175, si 149]) rfl (okEf rfl rfl h hw) ?_ rfl (by decide) er_agree ⟨cn, cl, c175, c149, trivial⟩ hk⟩
        show valX eft1 _ = _
        rw [eft1_eq]
        simp only [valX]
        rw [if_pos hpos, act_er, hs]
        rfl
      | cons x r =>
        have q1 : hq e [] = 3 := by unfold hq; rw [he]
        have q2 : hq e N = 5 := by unfold hq; rw [he]; cases N with | nil => exact absurd rfl hNne | cons a b => rfl
        rw [q2] at hk
        rw [q1]
        refine ⟨k + 1, .step (ρ1 := erE e id (i + 1) N) (c := efc3) (d := efc5) (xs := [.tuple [i8 (s.length + 1 : Nat)], .agg (.nilIface :: spV (y :: s)), si 175, si 149]) rfl (okEf rfl rfl h hw) ?_ rfl (by decide) er_agree ⟨cn, cl, c175, c149, trivial⟩ hk⟩
        show valX eft3 _ = _
        rw [eft3_eq]
        simp only [valX]
        rw [if_pos hpos, act_er, hs]
        rfl
  | cons a l =>
    generalize hL : a :: l = L at hk hpos c175 c149 hsp hw hh
    have hne : L ≠ [] := by rw [← hL]; simp
    generalize hN : (e.sp i).map (mkE (e.st i)) = N at hk hsp hlen
    have hpL : pad L = L := pad_ne hne
    have hpN : pad (L ++ N) = L ++ N := pad_ne (by simp [hne])
    have cl : Car (erE e id i L) (erE e id (i + 1) (L ++ N)) (.agg (.sym 141 :: spV (e.sp i)), .agg [.sym 141, si 156, i8 4]) := by
      refine car_listV (l := L ++ N) ?_ (by rw [e141, hpN]) (by rw [e156, hpN])
      show svals _ ((erE e id i L).lst 141 ++ spV (e.sp i)) = _
      rw [e141, hpL, valsOf_app]
      exact svals_app (svals_cells _ _) hsp
    have cn : Car (erE e id i L) (erE e id (i + 1) (L ++ N)) (.tuple [si 156, i8 ((e.sp i).length : Nat)], .tuple [si 156, i8 0]) := by
      refine car_lens ?_
      rw [e156, e156, hpL, hpN, List.length_append, hlen]
      omega
    cases he : e.effs with
    | nil =>
      have q1 : hq e L = 4 := by unfold hq; rw [he, ← hL]
      have q2 : hq e (L ++ N) = 4 := by unfold hq; rw [he, ← hL]; rfl
      rw [q2] at hk
      rw [q1]
      refine ⟨k + 1, .step (ρ1 := erE e id (i + 1) (L ++ N)) (c := efc4) (d := efc4) (xs := [.tuple [si 156, i8 ((e.sp i).length : Nat)], .agg (.sym 141 :: spV (e.sp i)), si 175, si 149]) rfl (okEf rfl rfl h hw) ?_ rfl (by decide) er_agree ⟨cn, cl, c175, c149, trivial⟩ hk⟩
      show valX eft4 _ = _
      rw [eft4_eq]
      simp only [valX]
      rw [if_pos hpos, act_er]
      rfl
    | cons x r =>
      have q1 : hq e L = 5 := by unfold hq; rw [he, ← hL]
      have q2 : hq e (L ++ N) = 5 := by unfold hq; rw [he, ← hL]; rfl
      rw [q2] at hk
      rw [q1]
      refine ⟨k + 1, .step (ρ1 := erE e id (i + 1) (L ++ N)) (c := efc5) (d := efc5) (xs := [.tuple [si 156, i8 ((e.sp i).length : Nat)], .agg (.sym 141 :: spV (e.sp i)), si 175, si 149]) rfl (okEf rfl rfl h hw) ?_ rfl (by decide) er_agree ⟨cn, cl, c175, c149, trivial⟩ hk⟩
      show valX eft5 _ = _
      rw [eft5_eq]
      simp only [valX]
      rw [if_pos hpos, act_er]
      rfl
theorem ef_run (h : e.OK id w) : ∀ (m i : Nat) (l : List Eff), i + m = e.g.fs.length → Hd e i l → ∃ k, @RunsH (extKA Try.prog efKT efK2) efC w (eq' e) (erE e id e.g.fs.length e.lend) k (hq e l) (erE e id i l) := by
  intro m
  induction m with
  | zero =>
    intro i l hi hh
    have hi : i = e.g.fs.length := by omega
    subst hi
    exact ef_exit h hh
  | succ m ih =>
    intro i l hi hh
    have hlt : i < e.g.fs.length := by omega
    exact ef_step h hh hlt (ih (i + 1) _ (by omega) (hh.next hlt))
end
end
end Go.Proofs.Ytgbhmkdldfhamaa.order
namespace Go.Proofs.Ytgbhmkdldfhamaa.order
open Go.Ev Go.RowKit
set_option linter.unusedVariables false
noncomputable section
/-- A list that a call tells: none, or in new memory. -/
def ListOut (R : List Eff) (v : Value) (n : Nat) (w : World) : Prop :=
  (R = [] ∧ v = .slice none 0 0) ∨ (R ≠ [] ∧ ∃ inf : Inf, v = .slice (some ⟨inf.blk, inf.off, none⟩) R.length (R.length + inf.slack) ∧ n ≤ inf.blk ∧ ∃ (c' : Array Value) (et : TypeId) (fr : Nat × Nat), w.heap[inf.blk]? = some (.cells c' et fr) ∧ fr.2 ≤ inf.off ∧
    inf.off + R.length * 4 + inf.slack * 4 ≤ c'.size ∧ ∀ i x, R[i]? = some x → ∀ j, j < 4 → c'[inf.off + i * 4 + j]? = some (.int .i64 (x.cell j)))
def EfG.all (e : EfG) : List Eff := if e.b.card = 2 then [] else e.res
section
variable {w : World} {e : EfG} {id : Int}
theorem hd0 : Hd e 0 [] := ⟨Nat.zero_le _, by simp [StG.coll]⟩
def eq2 (e : EfG) : Nat := if e.b.card = 2 then 2 else eq' e
theorem ef_entry (h : e.OK id w) : ∃ k, @RunsH (extKA Try.prog efKT efK2) efC w (eq2 e) (erE e id e.g.fs.length e.lend) k 0 (erE e id 0 []) := by
  letI : Ext := extKA Try.prog efKT efK2
  have hw := hd0.hw h
  have hz := lend_w h
  have i121 : (erE e id 0 []).int 121 = e.b.card := ec 121 (by omega)
  have i134 : (erE e id 0 []).int 134 = (e.effs.length : Int) := ec 134 (by omega)
  have c0 := h.c0
  have c3 := h.c3
  unfold eq2
  by_cases hc : e.b.card = 2
  · rw [if_pos hc]
    refine ⟨0, .exit (c := efc0) (d := efc2) (xs := []) rfl (okEf rfl rfl h hw) ?_ rfl rfl agree00 trivial (okEnd rfl rfl h hz)⟩
    show valX eft0 _ = _
    simp only [eft0, valX, i121, i134, hc]
    split <;> rfl
  · rw [if_neg hc]
    obtain ⟨k, hk⟩ := ef_run h e.g.fs.length 0 [] (by omega) hd0
    cases he : e.effs with
    | nil =>
      have q1 : hq e [] = 1 := by unfold hq; rw [he]
      rw [q1] at hk
      refine ⟨k + 1, .step (ρ1 := erE e id 0 []) (c := efc0) (d := efc1) (xs := [i8 e.b.card, i8 0]) rfl (okEf rfl rfl h hw) ?_ rfl (by decide) er_agree ⟨car_c (by rw [e175]), car_c (by rw [e150]; rfl), trivial⟩ hk⟩
      show valX eft0 _ = _
      simp only [eft0, valX, i121, i134, he, List.length_nil]
      rw [if_pos (by decide)]
      by_cases h0 : e.b.card ≤ 0
      · rw [if_pos h0, show e.b.card = 0 by omega]; rfl
      rw [if_neg h0]
      by_cases h1 : e.b.card ≤ 1
      · rw [if_pos h1, show e.b.card = 1 by omega]; rfl
      rw [if_neg h1, if_neg (by omega), show e.b.card = 3 by omega]; rfl
    | cons x r =>
      have hx := effs_one h he
      have q1 : hq e [] = 3 := by unfold hq; rw [he]
      rw [q1] at hk
      refine ⟨k + 1, .step (ρ1 := erE e id 0 []) (c := efc0) (d := efc3) (xs := [i8 e.b.card, i8 0]) rfl (okEf rfl rfl h hw) ?_ rfl (by decide) er_agree ⟨car_c (by rw [e175]), car_c (by rw [e150]; rfl), trivial⟩ hk⟩
      show valX eft0 _ = _
      simp only [eft0, valX, i121, i134, hx, List.length_cons, List.length_nil]
      rw [if_neg (by decide)]
      by_cases h0 : e.b.card ≤ 0
      · rw [if_pos h0, show e.b.card = 0 by omega]; rfl
      rw [if_neg h0]
      by_cases h1 : e.b.card ≤ 1
      · rw [if_pos h1, show e.b.card = 1 by omega]; rfl
      rw [if_neg h1, if_neg (by omega), show e.b.card = 3 by omega]; rfl
theorem ef_args (h : e.OK id w) : VRs ⟨fun _ => none, erE e id 0 []⟩ [.sym 90, stV, si 3] [e.p.v, e.g.v, .int .i64 id] := by
  have v90 : (erE e id 0 []).val 90 = e.p.v := evc 90 (by omega)
  refine cons_VR (by simp only [VR, v90]) (cons_VR (stV_VR er_st) (cons_VR (by simp only [si, VR, e3]) nil_VR))
/-- chars.Effects, over the small pool, of a beast or another object that is on the field. -/
theorem effects_calls (h : e.OK id w) : Calls Try.prog 13 ⟨[e.p.v, e.g.v, .int .i64 id]⟩ w fun en w' => ∃ v, en = .returned v ∧ Below w.heap.size w w' ∧ ListOut e.all v w.heap.size w' := by
  letI : Ext := extKA Try.prog efKT efK2
  obtain ⟨k, hr⟩ := ef_entry h
  obtain ⟨c, hc, hok⟩ := hr.ok
  cases (show some efc0 = some c from hc)
  have hst : HSim w ⟨fun _ => none, erE e id 0 []⟩ ⟨efc0.env (erE e id 0 []), .lf, 0⟩ w := HSim.startE ((hok.env _ rfl).ok hok.ext) (fun r b hb => by rw [show (efc0.env (erE e id 0 [])).blk = fun _ => none from efauto.blk 0 efc0 rfl _ _] at hb; cases hb)
  have hq2 : eq2 e = 2 ∧ e.all = [] ∨ eq2 e = 6 ∧ e.all = [e.e0] ∨ eq2 e = 7 ∧ e.all = isort e.lend ∧ e.lend ≠ [] := by
    unfold eq2 EfG.all
    by_cases hc : e.b.card = 2
    · rw [if_pos hc, if_pos hc]
      exact .inl ⟨rfl, rfl⟩
    rw [if_neg hc, if_neg hc]
    unfold eq' EfG.res EfG.raw
    cases hcc : e.g.coll e.b e.g.fs with
    | nil => cases he : e.effs with
      | nil => exact .inl ⟨rfl, rfl⟩
      | cons x r =>
        have hx := effs_one h he
        rw [he] at hx
        rw [hx, e0_of he]
        exact .inr (.inl ⟨rfl, rfl⟩)
    | cons y s =>
      have hl : e.lend = (y :: s) ++ e.effs := by unfold EfG.lend EfG.raw; rw [hcc]; rfl
      refine .inr (.inr ⟨rfl, by rw [hl], by rw [hl]; simp⟩)
  rcases hq2 with ⟨hq, ha⟩ | ⟨hq, ha⟩ | ⟨hq, ha, hne⟩
  · rw [hq] at hr
    refine (autoH_calls efauto (f := 13) Try.func13 rfl (F := ⟨w, fun _ => none⟩) (fun i inf hi => by cases hi) (args := [.sym 90, stV, si 3]) (c := efc0) (d := efc2) (p0 := 0) (by kernel_rfl) rfl rfl rfl rfl hst (ef_args h) hr).mono ?_
    rintro en w' ⟨v, rfl, φ, hφ, k1, k2, k3⟩
    refine ⟨v, rfl, ⟨k3.wk.os, k3.wk.tape, k3.wk.output, k3.wk.size, fun k hk => k2.old.same k hk (fun x => x)⟩, .inl ⟨ha, ?_⟩⟩
    have k1' : VR φ (.slice none 0 0) v := k1
    simp only [VR] at k1'
    exact k1'
  · rw [hq] at hr
    refine (autoH_calls efauto (f := 13) Try.func13 rfl (F := ⟨w, fun _ => none⟩) (fun i inf hi => by cases hi) (args := [.sym 90, stV, si 3]) (c := efc0) (d := efc6) (p0 := 0) (by kernel_rfl) rfl rfl rfl rfl hst (ef_args h) hr).mono ?_
    rintro en w' ⟨v, rfl, φ, hφ, k1, k2, k3⟩
    refine ⟨v, rfl, ⟨k3.wk.os, k3.wk.tape, k3.wk.output, k3.wk.size, fun k hk => k2.old.same k hk (fun x => x)⟩, .inr ⟨by rw [ha]; simp, ?_⟩⟩
    have k1' : VR φ (.slice (some ⟨.loc 0, 0⟩) 1 1) v := k1
    simp only [VR] at k1'
    obtain ⟨a', sl, hA, rfl⟩ := k1'
    simp only [AR] at hA
    obtain ⟨inf, hi, rfl, rfl⟩ := hA
    obtain ⟨inf', o', hi', hw', hO, _⟩ := k2.live 0 (.cells [si 135, si 136, si 137, si 138] (some 4) 0 (some 58)) rfl
    rw [hi] at hi'
    cases hi'
    obtain ⟨c', et, fr, rfl, hcr⟩ := hO
    have hown := k2.own 0 inf hi
    refine ⟨inf, by rw [ha]; rfl, ?_, c', et, fr, hw', hcr.low, ?_, fun i x hx j hj => ?_⟩
    · rcases hown with g | g
      · exact g
      · exact g.elim
    · rw [ha]
      have := hcr.size
      simpa [spare] using this
    · rw [ha] at hx
      match i with
      | 0 =>
        cases hx
        match j with
        | 0 => obtain ⟨y, y1, y2⟩ := hcr.cell 0 _ rfl; simp only [VR, si, hφ, e135] at y2; rw [y2] at y1; exact y1
        | 1 => obtain ⟨y, y1, y2⟩ := hcr.cell 1 _ rfl; simp only [VR, si, hφ, e136] at y2; rw [y2] at y1; exact y1
        | 2 => obtain ⟨y, y1, y2⟩ := hcr.cell 2 _ rfl; simp only [VR, si, hφ, e137] at y2; rw [y2] at y1; exact y1
        | 3 => obtain ⟨y, y1, y2⟩ := hcr.cell 3 _ rfl; simp only [VR, si, hφ, e138] at y2; rw [y2] at y1; exact y1
        | j + 4 => omega
      | i + 1 => simp at hx
  · rw [hq] at hr
    refine (autoH_calls efauto (f := 13) Try.func13 rfl (F := ⟨w, fun _ => none⟩) (fun i inf hi => by cases hi) (args := [.sym 90, stV, si 3]) (c := efc0) (d := efc7) (p0 := 0) (by kernel_rfl) rfl rfl rfl rfl hst (ef_args h) hr).mono ?_
    rintro en w' ⟨v, rfl, φ, hφ, k1, k2, k3⟩
    have hlen : (isort e.lend).length = e.lend.length := isort_len _
    refine ⟨v, rfl, ⟨k3.wk.os, k3.wk.tape, k3.wk.output, k3.wk.size, fun k hk => k2.old.same k hk (fun x => x)⟩, .inr ⟨by rw [ha]; intro h0; rw [h0] at hlen; exact hne (List.length_eq_zero_iff.1 hlen.symm), ?_⟩⟩
    have k1' : VR φ (.lsl 0 156 0) v := k1
    simp only [VR] at k1'
    obtain ⟨inf, hi, rfl⟩ := k1'
    obtain ⟨inf', o', hi', hw', hO, _⟩ := k2.live 0 (.list 146 156 4 [] none) rfl
    rw [show φ 0 = some inf from hi] at hi'
    cases hi'
    obtain ⟨q0, q1, c', et, fr, rfl, hcr⟩ := hO
    have hp : pad e.lend = e.lend := pad_ne hne
    have n156 : (φ.ρ.int 156).toNat = e.lend.length := by rw [hφ, e156, hp]; simp
    have l146 : φ.ρ.lst 146 ++ [] = cellsOf (isort e.lend) := by rw [hφ, e146, hp, List.append_nil]
    rw [l146] at hcr
    have hown := k2.own 0 inf hi
    refine ⟨inf, by rw [ha, hlen, n156]; rfl, ?_, c', et, fr, hw', hcr.low, ?_, fun i x hx j hj => ?_⟩
    · rcases hown with g | g
      · exact g
      · exact g.elim
    · rw [ha]
      have := hcr.size
      rw [cellsOf_len] at this
      simpa [spare] using this
    · rw [ha] at hx
      obtain ⟨y, y1, y2⟩ := hcr.cell (i * 4 + j) (i8 (x.cell j)) (by rw [cellsOf_get, show (i * 4 + j) / 4 = i by omega, show (i * 4 + j) % 4 = j by omega, hx]; rfl)
      simp only [i8, VR] at y2
      rw [Nat.add_assoc, y1, y2]
end
end
end Go.Proofs.Ytgbhmkdldfhamaa.order
