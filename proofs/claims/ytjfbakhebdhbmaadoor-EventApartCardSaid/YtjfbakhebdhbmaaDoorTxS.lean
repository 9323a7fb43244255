/-
  Events: which events may be: both functions tell the same number.
-/
import Derived.Test.YtjfbakhebdhbmaaDoorTxW
import Derived.Test.YtjfbakhebdhbmaaDoorTxQ
import Derived.Test.YtjfbakhebdhbmaaDoorTxCa
import Derived.Test.YtjfbakhebdhbmaaDoorTxTa
import Derived.Test.YtjfbakhebdhbmaaDoorTxL
namespace Go.Proofs.YtjfbakhebdhbmaaDoor.event
open Go.Ev Go.RowKit Go.Lib
set_option linter.unusedVariables false
noncomputable section
/-! ### the rows of all kinds, as known calls -/
theorem enil_ok {w : World} {ρ : Rho} {iv : Ivs} {fs : List Fact} (h1 : IvOK iv ρ) (h2 : FsOK fs ρ) (φ : Phi) (hφ : φ.ρ = ρ) : EnvP (Enil iv fs) φ w :=
  ⟨by rw [hφ]; exact h1, by rw [hφ]; exact h2, fun k cs h => by cases h⟩
theorem fi_ok {w : World} {c : CutP} (hiv : c.iv = []) (hE : c.E = Enil) : @CutP.OK (extKA Tryd.prog fiKT fiK2) c w rho0 := by
  letI : Ext := extKA Tryd.prog fiKT fiK2
  refine CutP.ok_of ⟨(fun e he => by cases he), (fun e he => by cases he)⟩ (by rw [hiv]; exact fun i => ⟨by show (-9223372036854775808 : Int) ≤ 0; decide, by show (0 : Int) ≤ 9223372036854775807; decide⟩) fun iv fs h1 h2 φ hφ => ?_
  rw [hE]
  exact enil_ok h1 h2 φ hφ
theorem find1 {e : KE2} {p q : Nat} {c d : CutP} {k : Int} (hf : e.f = 16) (hx : e.xs = [.int .i64 k]) (hc : lget fiC p = some c) (e1 : c.lab = none) (e2 : c.a0 = listT [.int .i64 k] 0 .lf) (e3 : c.nH = 0) (hd : lget fiC q = some d) (e4 : d.lab = none) (hN : d.N = 0) (y1 : c.ys = []) (y2 : d.ys = []) (i1 : c.iv = []) (i2 : d.iv = []) (E1 : c.E = Enil) (E2 : d.E = Enil) (hv : valX c.tr rho0.int = .goto q []) (hwf : wf2 e = true) (hB : adaptB 0 c d e [] [] [] [] = true) (ρ : Rho) (w0 : World) : KE2ok Tryd.prog ρ w0 e := by
  refine ke2_of fiauto (by rw [hf]; exact Tryd.func16) (by kernel_rfl) (args := [.int .i64 k]) (by kernel_rfl) (by rw [hx]) hc e1 e2 e3 hd hwf hB ⟨rho0, rho0, 0, trivial, ?_, trivial⟩
  exact @RunsH.exit (extKA Tryd.prog fiKT fiK2) fiC w0 q rho0 p rho0 c d [] hc (fi_ok i1 E1) hv hd e4 (fun i hi => by rw [hN] at hi; exact absurd hi (Nat.not_lt_zero _)) (by rw [y2]; trivial) (fi_ok i2 E2)
theorem findOK (ρ : Rho) (w0 : World) : ∀ e ∈ findK2, KE2ok Tryd.prog ρ w0 e := by
  intro e he
  simp only [findK2, List.mem_cons, List.not_mem_nil, or_false] at he
  rcases he with rfl | rfl | rfl | rfl | rfl | rfl | rfl | rfl | rfl | rfl | rfl | rfl | rfl | rfl | rfl | rfl | rfl | rfl | rfl | rfl | rfl | rfl | rfl | rfl | rfl | rfl | rfl | rfl | rfl
  · exact find1 (p := 0) (q := 29) (k := 1) rfl rfl rfl rfl rfl rfl rfl rfl rfl rfl rfl rfl rfl rfl rfl rfl (by kernel_rfl) (by kernel_rfl) ρ w0
  · exact find1 (p := 1) (q := 30) (k := 2) rfl rfl rfl rfl rfl rfl rfl rfl rfl rfl rfl rfl rfl rfl rfl rfl (by kernel_rfl) (by kernel_rfl) ρ w0
  · exact find1 (p := 2) (q := 31) (k := 3) rfl rfl rfl rfl rfl rfl rfl rfl rfl rfl rfl rfl rfl rfl rfl rfl (by kernel_rfl) (by kernel_rfl) ρ w0
  · exact find1 (p := 3) (q := 32) (k := 4) rfl rfl rfl rfl rfl rfl rfl rfl rfl rfl rfl rfl rfl rfl rfl rfl (by kernel_rfl) (by kernel_rfl) ρ w0
  · exact find1 (p := 4) (q := 33) (k := 5) rfl rfl rfl rfl rfl rfl rfl rfl rfl rfl rfl rfl rfl rfl rfl rfl (by kernel_rfl) (by kernel_rfl) ρ w0
  · exact find1 (p := 5) (q := 34) (k := 6) rfl rfl rfl rfl rfl rfl rfl rfl rfl rfl rfl rfl rfl rfl rfl rfl (by kernel_rfl) (by kernel_rfl) ρ w0
  · exact find1 (p := 6) (q := 35) (k := 7) rfl rfl rfl rfl rfl rfl rfl rfl rfl rfl rfl rfl rfl rfl rfl rfl (by kernel_rfl) (by kernel_rfl) ρ w0
  · exact find1 (p := 7) (q := 36) (k := 8) rfl rfl rfl rfl rfl rfl rfl rfl rfl rfl rfl rfl rfl rfl rfl rfl (by kernel_rfl) (by kernel_rfl) ρ w0
  · exact find1 (p := 8) (q := 37) (k := 9) rfl rfl rfl rfl rfl rfl rfl rfl rfl rfl rfl rfl rfl rfl rfl rfl (by kernel_rfl) (by kernel_rfl) ρ w0
  · exact find1 (p := 9) (q := 38) (k := 10) rfl rfl rfl rfl rfl rfl rfl rfl rfl rfl rfl rfl rfl rfl rfl rfl (by kernel_rfl) (by kernel_rfl) ρ w0
  · exact find1 (p := 10) (q := 39) (k := 11) rfl rfl rfl rfl rfl rfl rfl rfl rfl rfl rfl rfl rfl rfl rfl rfl (by kernel_rfl) (by kernel_rfl) ρ w0
  · exact find1 (p := 11) (q := 40) (k := 12) rfl rfl rfl rfl rfl rfl rfl rfl rfl rfl rfl rfl rfl rfl rfl rfl (by kernel_rfl) (by kernel_rfl) ρ w0
  · exact find1 (p := 12) (q := 41) (k := 13) rfl rfl rfl rfl rfl rfl rfl rfl rfl rfl rfl rfl rfl rfl rfl rfl (by kernel_rfl) (by kernel_rfl) ρ w0
  · exact find1 (p := 13) (q := 42) (k := 14) rfl rfl rfl rfl rfl rfl rfl rfl rfl rfl rfl rfl rfl rfl rfl rfl (by kernel_rfl) (by kernel_rfl) ρ w0
  · exact find1 (p := 14) (q := 43) (k := 15) rfl rfl rfl rfl rfl rfl rfl rfl rfl rfl rfl rfl rfl rfl rfl rfl (by kernel_rfl) (by kernel_rfl) ρ w0
  · exact find1 (p := 15) (q := 44) (k := 16) rfl rfl rfl rfl rfl rfl rfl rfl rfl rfl rfl rfl rfl rfl rfl rfl (by kernel_rfl) (by kernel_rfl) ρ w0
  · exact find1 (p := 16) (q := 45) (k := 17) rfl rfl rfl rfl rfl rfl rfl rfl rfl rfl rfl rfl rfl rfl rfl rfl (by kernel_rfl) (by kernel_rfl) ρ w0
  · exact find1 (p := 17) (q := 46) (k := 18) rfl rfl rfl rfl rfl rfl rfl rfl rfl rfl rfl rfl rfl rfl rfl rfl (by kernel_rfl) (by kernel_rfl) ρ w0
  · exact find1 (p := 18) (q := 47) (k := 19) rfl rfl rfl rfl rfl rfl rfl rfl rfl rfl rfl rfl rfl rfl rfl rfl (by kernel_rfl) (by kernel_rfl) ρ w0
  · exact find1 (p := 19) (q := 48) (k := 20) rfl rfl rfl rfl rfl rfl rfl rfl rfl rfl rfl rfl rfl rfl rfl rfl (by kernel_rfl) (by kernel_rfl) ρ w0
  · exact find1 (p := 20) (q := 49) (k := 21) rfl rfl rfl rfl rfl rfl rfl rfl rfl rfl rfl rfl rfl rfl rfl rfl (by kernel_rfl) (by kernel_rfl) ρ w0
  · exact find1 (p := 21) (q := 50) (k := 22) rfl rfl rfl rfl rfl rfl rfl rfl rfl rfl rfl rfl rfl rfl rfl rfl (by kernel_rfl) (by kernel_rfl) ρ w0
  · exact find1 (p := 22) (q := 51) (k := 23) rfl rfl rfl rfl rfl rfl rfl rfl rfl rfl rfl rfl rfl rfl rfl rfl (by kernel_rfl) (by kernel_rfl) ρ w0
  · exact find1 (p := 23) (q := 52) (k := 24) rfl rfl rfl rfl rfl rfl rfl rfl rfl rfl rfl rfl rfl rfl rfl rfl (by kernel_rfl) (by kernel_rfl) ρ w0
  · exact find1 (p := 24) (q := 53) (k := 25) rfl rfl rfl rfl rfl rfl rfl rfl rfl rfl rfl rfl rfl rfl rfl rfl (by kernel_rfl) (by kernel_rfl) ρ w0
  · exact find1 (p := 25) (q := 54) (k := 26) rfl rfl rfl rfl rfl rfl rfl rfl rfl rfl rfl rfl rfl rfl rfl rfl (by kernel_rfl) (by kernel_rfl) ρ w0
  · exact find1 (p := 26) (q := 55) (k := 27) rfl rfl rfl rfl rfl rfl rfl rfl rfl rfl rfl rfl rfl rfl rfl rfl (by kernel_rfl) (by kernel_rfl) ρ w0
  · exact find1 (p := 27) (q := 56) (k := 28) rfl rfl rfl rfl rfl rfl rfl rfl rfl rfl rfl rfl rfl rfl rfl rfl (by kernel_rfl) (by kernel_rfl) ρ w0
  · exact find1 (p := 28) (q := 57) (k := 29) rfl rfl rfl rfl rfl rfl rfl rfl rfl rfl rfl rfl rfl rfl rfl rfl (by kernel_rfl) (by kernel_rfl) ρ w0
/-! ### an automaton over the list's index -/
section
variable {w : World} {g : EvG}
theorem eagree (i j : Nat) : agree 14 (erho g 0 [] i) (erho g 0 [] j) := fun k hk => by
  match k, hk with
  | 0, _ => exact ⟨rfl, rfl, rfl, rfl, rfl⟩
  | 1, _ => exact ⟨rfl, rfl, rfl, rfl, rfl⟩
  | 2, _ => exact ⟨rfl, rfl, rfl, rfl, rfl⟩
  | 3, _ => exact ⟨rfl, rfl, rfl, rfl, rfl⟩
  | 4, _ => exact ⟨rfl, rfl, rfl, rfl, rfl⟩
  | 5, _ => exact ⟨rfl, rfl, rfl, rfl, rfl⟩
  | 6, _ => exact ⟨rfl, rfl, rfl, rfl, rfl⟩
  | 7, _ => exact ⟨rfl, rfl, rfl, rfl, rfl⟩
  | 8, _ => exact ⟨rfl, rfl, rfl, rfl, rfl⟩
  | 9, _ => exact ⟨rfl, rfl, rfl, rfl, rfl⟩
  | 10, _ => exact ⟨rfl, rfl, rfl, rfl, rfl⟩
  | 11, _ => exact ⟨rfl, rfl, rfl, rfl, rfl⟩
  | 12, _ => exact ⟨rfl, rfl, rfl, rfl, rfl⟩
  | 13, _ => exact ⟨rfl, rfl, rfl, rfl, rfl⟩
theorem ev_args {c : Int} {s : List UInt8} {i : Nat} {kv : VV} (hkv : VR ⟨fun _ => none, erho g c s i⟩ kv (.int .i64 g.k)) : VRs ⟨fun _ => none, erho g c s i⟩ [evV kv] [g.val] := by
  simp only [VRs, VR, evV, si]
  refine ⟨_, [], rfl, ⟨[.int .i64 g.k, .int .i64 g.a, .int .i64 g.b, .int .i64 g.n, .int .i64 g.m, .slice g.oa g.l.length g.ca, .int .i64 g.i5, .int .i64 g.i6, .int .i64 g.i7, .int .i64 g.i8, .int .i64 g.i9, .int .i64 g.i10, .slice g.ob g.t.length g.cb], ?_, rfl⟩, rfl⟩
  exact ⟨_, _, rfl, hkv, _, _, rfl, rfl, _, _, rfl, rfl, _, _, rfl, rfl, _, _, rfl, rfl, _, _, rfl, rfl, _, _, rfl, rfl, _, _, rfl, rfl, _, _, rfl, rfl, _, _, rfl, rfl, _, _, rfl, rfl, _, _, rfl, rfl, _, _, rfl, rfl, rfl⟩
def loops (C : List CutP) : Prop := AllC (fun d => d.ys = [.sint .i64 14] → d.iv = eciv0 ∧ d.E = Cent ∧ d.N = 14) C
theorem chk_calls {KT : List KE} {K2 : List KE2} {C : List CutP} {fn : Func} {body : Code} {f : FuncId} {S : List Nat} (A : @Auto (extKA Tryd.prog KT K2) Tryd.prog (rcKA Tryd.prog KT K2 20000) fn body S 1000 C (fun _ => none)) (hf : Tryd.prog.funcs[f]? = some fn) (hbody : fn.body = some body) (hnt : Nat.ble 1 fn.ntmps = true) (hloop : loops C) (h : g.OK w)
    (ext : ∀ i, i ≤ g.l.length → (∀ e ∈ KT, KEok Tryd.prog (erho g 0 [] i) w e) ∧ ∀ e ∈ K2, KE2ok Tryd.prog (erho g 0 [] i) w e) {p : Nat} {c : CutP} (hc : lget C p = some c) (e1 : c.lab = none) {kv : VV} (e2 : c.a0 = listT [evV kv] 0 .lf) (e3 : c.l = .lf) (e4 : c.nH = 0) (hE : c.E = Cent) (hiv : IvOK c.iv (erho g 0 [] 0))
    (hkv : VR ⟨fun _ => none, erho g 0 [] 0⟩ kv (.int .i64 g.k)) {z : Int} (hr : Rd2 C 14 15 (fun i => eint g 0 [] i) g.l.length p 0 (.int .i64 z)) : Calls Tryd.prog f #[g.val] w fun e w' => e = .returned (.int .i64 z) ∧ Below w.heap.size w w' := by
  letI : Ext := extKA Tryd.prog KT K2
  have hnl := h.nl
  obtain ⟨k, hk⟩ := rd2_runs (w0 := w) (rho := erho g 0 []) (ia := 14) (ij := 15) (n := g.l.length) (fun i => rfl) (fun i => rfl) (fun q d hq hy i j => by rw [(hloop.get hq hy).2.2]; exact eagree i j)
    (fun q d i hq hy hi => CutP.ok_of (ext i hi) (by rw [(hloop.get hq hy).1]; exact iv_eciv0 h (by decide) (by decide) (by omega)) fun iv fs h1 h2 φ hφ => by rw [(hloop.get hq hy).2.1]; exact cent_ok h h1 h2 φ hφ) hr (res := .int .i64 z) (fun ρ => rfl)
    (fun c' hc' => by
      rw [hc] at hc'
      cases hc'
      exact CutP.ok_of (ext 0 (Nat.zero_le _)) hiv fun iv fs h1 h2 φ hφ => by rw [hE]; exact cent_ok h h1 h2 φ hφ)
  exact auto_callsP A hf hbody (args := [evV kv]) hnt hc e1 e2 e3 e4 (fun r b h => by cases h) (ev_args hkv) hk
theorem ec_loops : loops ecC := ⟨(fun h => by cases h), (fun h => by cases h), (fun h => by cases h), (fun h => by cases h), (fun h => by cases h), (fun h => by cases h), (fun h => by cases h), (fun h => by cases h), (fun h => by cases h), (fun h => by cases h), (fun h => by cases h), (fun h => by cases h), (fun h => by cases h), (fun h => by cases h), (fun h => by cases h), (fun h => by cases h), (fun h => by cases h), (fun h => by cases h), (fun h => by cases h), (fun h => by cases h), (fun h => by cases h), (fun h => by cases h), (fun h => by cases h), (fun h => by cases h), (fun h => by cases h), (fun h => by cases h), (fun h => by cases h), (fun h => by cases h), (fun _ => ⟨rfl, rfl, rfl⟩), (fun _ => ⟨rfl, rfl, rfl⟩), (fun _ => ⟨rfl, rfl, rfl⟩), (fun _ => ⟨rfl, rfl, rfl⟩), (fun _ => ⟨rfl, rfl, rfl⟩), (fun _ => ⟨rfl, rfl, rfl⟩), (fun _ => ⟨rfl, rfl, rfl⟩), (fun _ => ⟨rfl, rfl, rfl⟩), (fun _ => ⟨rfl, rfl, rfl⟩), (fun _ => ⟨rfl, rfl, rfl⟩), (fun _ => ⟨rfl, rfl, rfl⟩), (fun _ => ⟨rfl, rfl, rfl⟩), (fun _ => ⟨rfl, rfl, rfl⟩), (fun _ => ⟨rfl, rfl, rfl⟩), (fun _ => ⟨rfl, rfl, rfl⟩), (fun _ => ⟨rfl, rfl, rfl⟩), (fun _ => ⟨rfl, rfl, rfl⟩), (fun _ => ⟨rfl, rfl, rfl⟩), (fun _ => ⟨rfl, rfl, rfl⟩), (fun _ => ⟨rfl, rfl, rfl⟩), (fun _ => ⟨rfl, rfl, rfl⟩), (fun _ => ⟨rfl, rfl, rfl⟩), (fun _ => ⟨rfl, rfl, rfl⟩), (fun _ => ⟨rfl, rfl, rfl⟩), (fun _ => ⟨rfl, rfl, rfl⟩), (fun _ => ⟨rfl, rfl, rfl⟩), trivial⟩
theorem et_loops : loops etC := ⟨(fun h => by cases h), (fun h => by cases h), (fun h => by cases h), (fun _ => ⟨rfl, rfl, rfl⟩), (fun _ => ⟨rfl, rfl, rfl⟩), (fun _ => ⟨rfl, rfl, rfl⟩), trivial⟩
theorem ef_loops : loops efC := ⟨(fun h => by cases h), (fun h => by cases h), (fun h => by cases h), (fun _ => ⟨rfl, rfl, rfl⟩), trivial⟩
/-! ### items that may be -/
def mayB (g : EvG) : Bool := match valX emt0 (eint g 0 [] 0) with
  | .ret (.bool b) => b
  | _ => false
def isB : Leaf → Bool
  | .ret (.bool _) => true
  | _ => false
theorem may_all : allL isB emt0 = true := by kernel_rfl
theorem may_val : valX emt0 (eint g 0 [] 0) = .ret (.bool (mayB g)) := by
  have := allL_ok (v := eint g 0 [] 0) may_all
  unfold mayB
  unfold isB at this
  split at this
  · rename_i b hb
    rw [hb]
  · cases this
def EvG.item (g : EvG) : Value := .agg #[.int .i64 g.i5, .int .i64 g.i6, .int .i64 g.i7, .int .i64 g.i8, .int .i64 g.i9, .int .i64 g.i10, .slice g.ob g.t.length g.cb]
def itV : VV := .agg [si 5, si 6, si 7, si 8, si 9, si 10, .sym 11]
theorem it_args {c : Int} {s : List UInt8} {i : Nat} : VRs ⟨fun _ => none, erho g c s i⟩ [itV] [g.item] := by
  simp only [VRs, VR, itV, si]
  refine ⟨_, [], rfl, ⟨[.int .i64 g.i5, .int .i64 g.i6, .int .i64 g.i7, .int .i64 g.i8, .int .i64 g.i9, .int .i64 g.i10, .slice g.ob g.t.length g.cb], ?_, rfl⟩, rfl⟩
  exact ⟨_, _, rfl, rfl, _, _, rfl, rfl, _, _, rfl, rfl, _, _, rfl, rfl, _, _, rfl, rfl, _, _, rfl, rfl, _, _, rfl, rfl, rfl⟩
theorem it_of {φ : Phi} {vs : List Value} {c : Int} {s : List UInt8} {i : Nat} (hφ : φ.ρ = erho g c s i) (hv : VRs φ [itV] vs) : vs = [g.item] := by
  simp only [VRs, VR, itV, si, hφ] at hv
  obtain ⟨_, _, rfl, ⟨_, ⟨_, _, rfl, rfl, _, _, rfl, rfl, _, _, rfl, rfl, _, _, rfl, rfl, _, _, rfl, rfl, _, _, rfl, rfl, _, _, rfl, rfl, rfl⟩, rfl⟩, rfl⟩ := hv
  rfl
theorem mayE (h : g.OK w) (h2 : g.t.length ≤ 2) : Calls Tryd.prog 31 #[g.item] w fun e w' => e = .returned (.bool (mayB g)) ∧ Below w.heap.size w w' := by
  letI : Ext := extKA Tryd.prog emKT emK2
  obtain ⟨k, hk⟩ := run_ret (C := emC) (w0 := w) (p := 0) (ρ := erho g 0 [] 0) (res := .bool (mayB g)) (c := emc0) (r := .bool (mayB g)) rfl (CutP.ok_of ⟨(fun e he => by cases he), (fun e he => by cases he)⟩ (iv_emiv0 h (by decide) (by decide) (by omega) h2) fun iv fs => cent_ok h) may_val rfl
  exact auto_callsP emauto Tryd.func31 (by kernel_rfl) (args := [itV]) (by kernel_rfl) (c := emc0) rfl rfl rfl rfl rfl (fun r b h => by cases h) it_args hk
theorem keMay (h : g.OK w) (h2 : g.t.length ≤ 2) {b : Bool} (hb : mayB g = b) (i : Nat) : KEok Tryd.prog (erho g 0 [] i) w ⟨31, [itV], [], .bool b⟩ := by
  intro φ vs w' hφ h1 h3 hv _
  rw [it_of hφ hv]
  refine (mayE (h.later h1 h3) h2).mono ?_
  rintro en w'' ⟨rfl, hbl⟩
  exact ⟨_, rfl, by simp only [VR, hb], hbl⟩
/-! ### the numbers -/
theorem int_kv {c : Int} {s : List UInt8} {i : Nat} {k : Int} (hk : g.k = k) : VR ⟨fun _ => none, erho g c s i⟩ (.int .i64 k) (.int .i64 g.k) := by simp only [VR, hk]
theorem sym_kv {c : Int} {s : List UInt8} {i : Nat} : VR ⟨fun _ => none, erho g c s i⟩ (si 24) (.int .i64 g.k) := by simp only [VR, si]; rfl
def okP (Ce : List CutP) (p : Nat) : Bool := okE 14 12 15 Ce p
def allP (f : Nat → Bool) : Nat → Bool
  | 0 => true
  | n + 1 => match f n with
    | true => allP f n
    | false => false
theorem allP_ok {f : Nat → Bool} : ∀ {n : Nat}, allP f n = true → ∀ p, p < n → f p = true
  | 0, _, p, hp => by omega
  | n + 1, h, p, hp => by
    simp only [allP] at h
    split at h
    · rename_i h1
      by_cases e : p = n
      · rw [e]; exact h1
      · exact allP_ok h p (by omega)
    · cases h
theorem ok_plain : allP (okP ecC) 26 = true := by kernel_rfl
theorem ok_out : okE 14 12 15 ecC 26 = true ∧ okE 14 12 15 ecC 27 = true := ⟨by kernel_rfl, by kernel_rfl⟩
/-- Out of range: what the document's function runs through. -/
def tIv : Ivs := ivLo (ivHi eciv0 6 3) 6 1
theorem ok_true : allP (okP etC) 3 = true := by kernel_rfl
def kindP (iv : Ivs) (rs : Rels) (o : Leaf) : Bool := match o with
  | .ret (.bool true) => match decide (1 ≤ (ivAt iv 6).1) with
    | true => decide ((ivAt iv 6).2 ≤ 3)
    | false => false
  | _ => true
theorem may_kind : allI kindP emt0 emiv0 [] = true := by kernel_rfl
theorem may_in (h : g.OK w) (h2 : g.t.length ≤ 2) (hm : mayB g = true) : IvOK tIv (erho g 0 [] 0) := by
  obtain ⟨iv, rs, k1, k2⟩ := allI_ok may_kind (VOK_of (iv_emiv0 (c := 0) (s := []) (i := 0) h (by decide) (by decide) (by omega) h2))
  have e : valX emt0 (erho g 0 [] 0).int = .ret (.bool true) := by rw [show valX emt0 (erho g 0 [] 0).int = _ from may_val, hm]
  rw [e] at k2
  have k3 := k1.1 6
  have k4 : 1 ≤ (ivAt iv 6).1 ∧ (ivAt iv 6).2 ≤ 3 := by
    simp only [kindP] at k2
    split at k2
    · rename_i h1
      exact ⟨of_decide_eq_true h1, of_decide_eq_true k2⟩
    · cases k2
  have i0 := iv_eciv0 (c := 0) (s := []) (i := 0) h (by decide) (by decide) (by omega)
  exact (i0.hi (i := 6) (c := 3) (by omega)).lo (i := 6) (c := 1) (by omega)
theorem ok_false : allP (okP efC) 3 = true := by kernel_rfl
def tellG (C : List CutP) (p : Nat) (g : EvG) : Int := tellE C p (fun i => eint g 0 [] i) g.l.length
/-- What an entry tells: one function's automaton, the other's. -/
theorem pair_ok {Ce : List CutP} {p : Nat} (hok : okP Ce p = true) : Rd2 Ce 14 15 (fun i => eint g 0 [] i) g.l.length p 0 (.int .i64 (tellG Ce p g)) ∧ 0 ≤ tellG Ce p g ∧ tellG Ce p g ≤ 1000 :=
  okE_ok (n := g.l.length) (v := fun i => eint g 0 [] i) hok (fun i => rfl) (fun i => rfl)
/-- A plain kind's entry. -/
def posK : Int → Nat
  | 1 => 0
  | 2 => 1
  | 3 => 2
  | 4 => 3
  | 5 => 4
  | 6 => 5
  | 7 => 6
  | 8 => 7
  | 9 => 8
  | 10 => 9
  | 11 => 10
  | 12 => 11
  | 13 => 12
  | 14 => 13
  | 16 => 14
  | 18 => 15
  | 19 => 16
  | 20 => 17
  | 21 => 18
  | 22 => 19
  | 23 => 20
  | 24 => 21
  | 25 => 22
  | 26 => 23
  | 27 => 24
  | 29 => 25
  | _ => 0
def posI : Int → Nat
  | 17 => 1
  | 28 => 2
  | _ => 0
def isItem (k : Int) : Bool := decide (k = 15 ∨ k = 17 ∨ k = 28)
/-- Which events may be: an error's number. -/
def chk (g : EvG) : Int := if g.k ≤ 0 then tellG ecC 26 g else if 30 ≤ g.k then tellG ecC 27 g else if isItem g.k = true then (if 3 ≤ g.t.length then 3 else if mayB g = true then tellG etC (posI g.k) g else tellG efC (posI g.k) g) else tellG ecC (posK g.k) g
theorem no_ext (i : Nat) : (∀ e ∈ ecKT, KEok Tryd.prog (erho g 0 [] i) w e) ∧ ∀ e ∈ ecK2, KE2ok Tryd.prog (erho g 0 [] i) w e := ⟨(fun e he => by cases he), fun e he => findOK _ _ e he⟩
abbrev Both (w : World) (g : EvG) (z : Int) : Prop := (Calls Tryd.prog 9 #[g.val] w fun e w' => e = .returned (.int .i64 z) ∧ Below w.heap.size w w') ∧ 0 ≤ z ∧ z ≤ 1000
theorem plain_ok {p : Nat} {k : Int} {c : CutP} (h : g.OK w) (hk : g.k = k) (hp : p < 26) (hc : lget ecC p = some c) (e1 : c.lab = none) (e2 : c.a0 = listT [evV (.int .i64 k)] 0 .lf) (e3 : c.l = .lf) (e4 : c.nH = 0) (e5 : c.E = Cent) (e6 : c.iv = eciv0) : Both w g (tellG ecC p g) := by
  have i0 := iv_eciv0 (c := 0) (s := []) (i := 0) h (by decide) (by decide) (by omega)
  obtain ⟨k1, k3, k4⟩ := pair_ok (g := g) (allP_ok ok_plain p hp)
  exact ⟨chk_calls ecauto Tryd.func9 (by kernel_rfl) (by kernel_rfl) ec_loops h (fun i _ => no_ext i) hc e1 e2 e3 e4 e5 (by rw [e6]; exact i0) (int_kv hk) k1, k3, k4⟩
theorem true_ok {p : Nat} {k : Int} {c : CutP} (h : g.OK w) (h2 : g.t.length ≤ 2) (hm : mayB g = true) (hk : g.k = k) (hp : p < 3) (hc : lget etC p = some c) (e1 : c.lab = none) (e2 : c.a0 = listT [evV (.int .i64 k)] 0 .lf) (e3 : c.l = .lf) (e4 : c.nH = 0) (e5 : c.E = Cent) (e6 : c.iv = eciv0) : Both w g (tellG etC p g) := by
  have i0 := iv_eciv0 (c := 0) (s := []) (i := 0) h (by decide) (by decide) (by omega)
  obtain ⟨k1, k3, k4⟩ := pair_ok (g := g) (allP_ok ok_true p hp)
  refine ⟨chk_calls etauto Tryd.func9 (by kernel_rfl) (by kernel_rfl) et_loops h (fun i _ => ⟨fun e he => ?_, fun e he => findOK _ _ e he⟩) hc e1 e2 e3 e4 e5 (by rw [e6]; exact i0) (int_kv hk) k1, k3, k4⟩
  simp only [etKT, List.mem_singleton] at he
  subst he
  exact keMay h h2 hm i
theorem false_ok {p : Nat} {k : Int} {c : CutP} (h : g.OK w) (h2 : g.t.length ≤ 2) (hm : mayB g = false) (hk : g.k = k) (hp : p < 3) (hc : lget efC p = some c) (e1 : c.lab = none) (e2 : c.a0 = listT [evV (.int .i64 k)] 0 .lf) (e3 : c.l = .lf) (e4 : c.nH = 0) (e5 : c.E = Cent) (e6 : c.iv = eciv0) : Both w g (tellG efC p g) := by
  have i0 := iv_eciv0 (c := 0) (s := []) (i := 0) h (by decide) (by decide) (by omega)
  obtain ⟨k1, k3, k4⟩ := pair_ok (g := g) (allP_ok ok_false p hp)
  refine ⟨chk_calls efauto Tryd.func9 (by kernel_rfl) (by kernel_rfl) ef_loops h (fun i _ => ⟨fun e he => ?_, fun e he => findOK _ _ e he⟩) hc e1 e2 e3 e4 e5 (by rw [e6]; exact i0) (int_kv hk) k1, k3, k4⟩
  simp only [efKT, List.mem_singleton] at he
  subst he
  exact keMay h h2 hm i
theorem elongB (t : Nat) (h : g.OK w) (h3 : 3 ≤ g.t.length) : IvOK eliv0 (erho g 0 [] 0) := by
  have f := eint_fits (c := 0) (s := []) (i := 0) h (by decide) (by decide) (by omega)
  have hl := h.nl
  have ht := h.nt
  exact iv_all (f := eint g 0 [] 0) ⟨f 0, f 1, f 2, f 3, f 4, f 5, f 6, f 7, f 8, f 9, f 10, f 11, ⟨by show (0 : Int) ≤ (g.l.length : Int); omega, by show (g.l.length : Int) ≤ (9223372036854775807 : Int); omega⟩, ⟨by show (3 : Int) ≤ (g.t.length : Int); omega, by show (g.t.length : Int) ≤ (9223372036854775807 : Int); omega⟩, ⟨by show (0 : Int) ≤ ((0 : Nat) : Int); decide, by show ((0 : Nat) : Int) ≤ (260 : Int); decide⟩, ⟨by show (1 : Int) ≤ ((0 : Nat) : Int) + 1; decide, by show ((0 : Nat) : Int) + 1 ≤ (261 : Int); decide⟩, f 16, f 17, f 18, f 19, f 20, f 21, f 22, f 23, trivial⟩ f
theorem long_loops : loops elC := ⟨(fun h => by cases h), (fun h => by cases h), (fun h => by cases h), trivial⟩
theorem long_ok {p : Nat} {k : Int} {c : CutP} (h : g.OK w) (h3 : 3 ≤ g.t.length) (hk : g.k = k) (hc : lget elC p = some c) (e1 : c.lab = none) (e2 : c.a0 = listT [evV (.int .i64 k)] 0 .lf) (e3 : c.l = .lf) (e4 : c.nH = 0) (e5 : c.E = Cent) (e6 : c.iv = eliv0) (e7 : ∀ v, valX c.tr v = .ret (.int .i64 3)) : Both w g 3 := by
  have i0 := elongB 0 h h3
  exact ⟨chk_calls elauto Tryd.func9 (by kernel_rfl) (by kernel_rfl) long_loops h (fun i _ => ⟨(fun e he => by cases he), fun e he => by cases he⟩) hc e1 e2 e3 e4 e5 (by rw [e6]; exact i0) (int_kv hk) (.ret hc (Nat.zero_le _) (e7 _)), by decide, by decide⟩
theorem both3 : ∀ v, valX (.cut 12 (250) (.leaf (.ret (.int .i64 (3)))) (.leaf (.ret (.int .i64 (3))))) v = Leaf.ret (.int .i64 3) := fun v => by
  simp only [valX]
  split <;> rfl
theorem plains (h : g.OK w) (h1 : 0 < g.k) (h2 : g.k < 30) (h3 : isItem g.k = false) : Both w g (tellG ecC (posK g.k) g) := by
  have h3 := of_decide_eq_false h3
  rcases (show g.k = 1 ∨ g.k = 2 ∨ g.k = 3 ∨ g.k = 4 ∨ g.k = 5 ∨ g.k = 6 ∨ g.k = 7 ∨ g.k = 8 ∨ g.k = 9 ∨ g.k = 10 ∨ g.k = 11 ∨ g.k = 12 ∨ g.k = 13 ∨ g.k = 14 ∨ g.k = 16 ∨ g.k = 18 ∨ g.k = 19 ∨ g.k = 20 ∨ g.k = 21 ∨ g.k = 22 ∨ g.k = 23 ∨ g.k = 24 ∨ g.k = 25 ∨ g.k = 26 ∨ g.k = 27 ∨ g.k = 29 by omega) with hk | hk | hk | hk | hk | hk | hk | hk | hk | hk | hk | hk | hk | hk | hk | hk | hk | hk | hk | hk | hk | hk | hk | hk | hk | hk
  · rw [hk]; exact plain_ok (p := 0) h hk (by decide) rfl rfl rfl rfl rfl rfl rfl 
  · rw [hk]; exact plain_ok (p := 1) h hk (by decide) rfl rfl rfl rfl rfl rfl rfl 
  · rw [hk]; exact plain_ok (p := 2) h hk (by decide) rfl rfl rfl rfl rfl rfl rfl 
  · rw [hk]; exact plain_ok (p := 3) h hk (by decide) rfl rfl rfl rfl rfl rfl rfl 
  · rw [hk]; exact plain_ok (p := 4) h hk (by decide) rfl rfl rfl rfl rfl rfl rfl 
  · rw [hk]; exact plain_ok (p := 5) h hk (by decide) rfl rfl rfl rfl rfl rfl rfl 
  · rw [hk]; exact plain_ok (p := 6) h hk (by decide) rfl rfl rfl rfl rfl rfl rfl 
  · rw [hk]; exact plain_ok (p := 7) h hk (by decide) rfl rfl rfl rfl rfl rfl rfl 
  · rw [hk]; exact plain_ok (p := 8) h hk (by decide) rfl rfl rfl rfl rfl rfl rfl 
  · rw [hk]; exact plain_ok (p := 9) h hk (by decide) rfl rfl rfl rfl rfl rfl rfl 
  · rw [hk]; exact plain_ok (p := 10) h hk (by decide) rfl rfl rfl rfl rfl rfl rfl 
  · rw [hk]; exact plain_ok (p := 11) h hk (by decide) rfl rfl rfl rfl rfl rfl rfl 
  · rw [hk]; exact plain_ok (p := 12) h hk (by decide) rfl rfl rfl rfl rfl rfl rfl 
  · rw [hk]; exact plain_ok (p := 13) h hk (by decide) rfl rfl rfl rfl rfl rfl rfl 
  · rw [hk]; exact plain_ok (p := 14) h hk (by decide) rfl rfl rfl rfl rfl rfl rfl 
  · rw [hk]; exact plain_ok (p := 15) h hk (by decide) rfl rfl rfl rfl rfl rfl rfl 
  · rw [hk]; exact plain_ok (p := 16) h hk (by decide) rfl rfl rfl rfl rfl rfl rfl 
  · rw [hk]; exact plain_ok (p := 17) h hk (by decide) rfl rfl rfl rfl rfl rfl rfl 
  · rw [hk]; exact plain_ok (p := 18) h hk (by decide) rfl rfl rfl rfl rfl rfl rfl 
  · rw [hk]; exact plain_ok (p := 19) h hk (by decide) rfl rfl rfl rfl rfl rfl rfl 
  · rw [hk]; exact plain_ok (p := 20) h hk (by decide) rfl rfl rfl rfl rfl rfl rfl 
  · rw [hk]; exact plain_ok (p := 21) h hk (by decide) rfl rfl rfl rfl rfl rfl rfl 
  · rw [hk]; exact plain_ok (p := 22) h hk (by decide) rfl rfl rfl rfl rfl rfl rfl 
  · rw [hk]; exact plain_ok (p := 23) h hk (by decide) rfl rfl rfl rfl rfl rfl rfl 
  · rw [hk]; exact plain_ok (p := 24) h hk (by decide) rfl rfl rfl rfl rfl rfl rfl 
  · rw [hk]; exact plain_ok (p := 25) h hk (by decide) rfl rfl rfl rfl rfl rfl rfl 
theorem items (h : g.OK w) (h3 : isItem g.k = true) : Both w g (if 3 ≤ g.t.length then 3 else if mayB g = true then tellG etC (posI g.k) g else tellG efC (posI g.k) g) := by
  have h3 := of_decide_eq_true h3
  by_cases hl : 3 ≤ g.t.length
  · rw [if_pos hl]
    rcases h3 with hk | hk | hk
    · exact long_ok (p := 0) h hl hk rfl rfl rfl rfl rfl rfl rfl both3
    · exact long_ok (p := 1) h hl hk rfl rfl rfl rfl rfl rfl rfl both3
    · exact long_ok (p := 2) h hl hk rfl rfl rfl rfl rfl rfl rfl both3
  · rw [if_neg hl]
    cases hm : mayB g with
    | true =>
      rw [if_pos rfl]
      rcases h3 with hk | hk | hk
      · rw [hk]; exact true_ok (p := 0) h (by omega) hm hk (by decide) rfl rfl rfl rfl rfl rfl rfl 
      · rw [hk]; exact true_ok (p := 1) h (by omega) hm hk (by decide) rfl rfl rfl rfl rfl rfl rfl 
      · rw [hk]; exact true_ok (p := 2) h (by omega) hm hk (by decide) rfl rfl rfl rfl rfl rfl rfl 
    | false =>
      rw [if_neg (by decide)]
      rcases h3 with hk | hk | hk
      · rw [hk]; exact false_ok (p := 0) h (by omega) hm hk (by decide) rfl rfl rfl rfl rfl rfl rfl 
      · rw [hk]; exact false_ok (p := 1) h (by omega) hm hk (by decide) rfl rfl rfl rfl rfl rfl rfl 
      · rw [hk]; exact false_ok (p := 2) h (by omega) hm hk (by decide) rfl rfl rfl rfl rfl rfl rfl 
theorem out_tell {p : Nat} {c : CutP} (hc : lget ecC p = some c) (ht : c.tr = (.cut 12 (250) (.cut 13 (2) (.leaf (.ret (.int .i64 (2)))) (.leaf (.ret (.int .i64 (3))))) (.leaf (.ret (.int .i64 (3)))))) : tellG ecC p g = leafZ (valX (.cut 12 (250) (.cut 13 (2) (.leaf (.ret (.int .i64 (2)))) (.leaf (.ret (.int .i64 (3))))) (.leaf (.ret (.int .i64 (3))))) (eint g 0 [] 0)) := by
  unfold tellG tellE
  rw [hc]
  simp only [ht, valX]
  by_cases h1 : eint g 0 [] 0 12 ≤ 250
  · rw [if_pos h1]
    by_cases h2 : eint g 0 [] 0 13 ≤ 2
    · rw [if_pos h2]
    · rw [if_neg h2]
  · rw [if_neg h1]
theorem out_tell26 : tellG ecC 26 g = leafZ (valX (.cut 12 (250) (.cut 13 (2) (.leaf (.ret (.int .i64 (2)))) (.leaf (.ret (.int .i64 (3))))) (.leaf (.ret (.int .i64 (3))))) (eint g 0 [] 0)) := out_tell rfl rfl
theorem out_tell27 : tellG ecC 27 g = leafZ (valX (.cut 12 (250) (.cut 13 (2) (.leaf (.ret (.int .i64 (2)))) (.leaf (.ret (.int .i64 (3))))) (.leaf (.ret (.int .i64 (3))))) (eint g 0 [] 0)) := out_tell rfl rfl
theorem checks (h : g.OK w) : Both w g (chk g) := by
  unfold chk
  by_cases h1 : g.k ≤ 0
  · rw [if_pos h1]
    have i0 := iv_eciv26 (c := 0) (s := []) (i := 0) h (by decide) (by decide) (by omega) h1
    obtain ⟨k1, k3, k4⟩ := okE_ok (n := g.l.length) (v := fun i => eint g 0 [] i) ok_out.1 (fun i => rfl) (fun i => rfl)
    exact ⟨chk_calls ecauto Tryd.func9 (by kernel_rfl) (by kernel_rfl) ec_loops h (fun i _ => no_ext i) (p := 26) rfl rfl rfl rfl rfl rfl i0 sym_kv k1, k3, k4⟩
  · rw [if_neg h1]
    by_cases h2 : 30 ≤ g.k
    · rw [if_pos h2]
      have i0 := iv_eciv27 (c := 0) (s := []) (i := 0) h (by decide) (by decide) (by omega) h2
      obtain ⟨k1, k3, k4⟩ := okE_ok (n := g.l.length) (v := fun i => eint g 0 [] i) ok_out.2 (fun i => rfl) (fun i => rfl)
      exact ⟨chk_calls ecauto Tryd.func9 (by kernel_rfl) (by kernel_rfl) ec_loops h (fun i _ => no_ext i) (p := 27) rfl rfl rfl rfl rfl rfl i0 sym_kv k1, k3, k4⟩
    · rw [if_neg h2]
      cases h3 : isItem g.k with
      | true => rw [if_pos rfl]; exact items h h3
      | false => rw [if_neg (by decide)]; exact plains h (by omega) (by omega) h3
end
end
end Go.Proofs.YtjfbakhebdhbmaaDoor.event
