/-
  Which codes may be: what the program's check tells of any code, of any numbers of targets and cards ('spec').
-/
import Derived.Test.YtgmdbpmookoafaaDoorTrees
import Derived.WalkKit
import Derived.ProofKit
namespace Go.Proofs.YtgmdbpmookoafaaDoor.more
open Go.RowKit
set_option linter.unusedVariables false
abbrev I64 (z : Int) : Prop := -9223372036854775808 ≤ z ∧ z ≤ 9223372036854775807
abbrev Ins := Int × Int × Int
/-- What the symbols stand for at the i-th instruction. -/
def vals (t c : Int) (xs : List Ins) (i : Nat) : Nat → Int
  | 0 => t
  | 1 => c
  | 2 => xs.length
  | 3 => (xs.getD i (0, 0, 0)).1
  | 4 => (xs.getD i (0, 0, 0)).2.1
  | 5 => (xs.getD i (0, 0, 0)).2.2
  | 6 => i
  | 7 => i + 1
  | _ => 0
def rhoAt (oa : Option Addr) (cap B O : Nat) (t c : Int) (xs : List Ins) (i : Nat) : Go.Ev.Rho :=
  ⟨vals t c xs i, fun _ => .slice oa xs.length cap, fun _ => B, fun k => if k = 3 then O + i * 3 else 0, fun _ => rfl, fun _ => [], fun _ _ h => by cases h⟩
/-- A slice that holds these instructions. -/
structure Lst (w : World) (oa : Option Addr) (B O : Nat) (xs : List Ins) : Prop where
  cells : ∀ (i : Nat) (x : Ins), xs[i]? = some x → oa = some ⟨B, O, none⟩ ∧ B < w.heap.size ∧ w.cell? ⟨B, O + i * 3, none⟩ = some (.int .i64 x.1) ∧ w.cell? ⟨B, O + i * 3 + 1, none⟩ = some (.int .i64 x.2.1) ∧ w.cell? ⟨B, O + i * 3 + 2, none⟩ = some (.int .i64 x.2.2)
  fits : ∀ x ∈ xs, I64 x.1 ∧ I64 x.2.1 ∧ I64 x.2.2
theorem at_of {xs : List Ins} {i : Nat} (h : i < xs.length) : xs[i]? = some (xs.getD i (0, 0, 0)) := by
  simp [List.getD_eq_getElem?_getD, h]
theorem Lst.fit {w : World} {oa : Option Addr} {B O : Nat} {xs : List Ins} (h : Lst w oa B O xs) (i : Nat) : I64 (xs.getD i (0, 0, 0)).1 ∧ I64 (xs.getD i (0, 0, 0)).2.1 ∧ I64 (xs.getD i (0, 0, 0)).2.2 := by
  by_cases hi : i < xs.length
  · exact h.fits _ (List.mem_of_getElem? (at_of hi))
  · have e : xs.getD i (0, 0, 0) = (0, 0, 0) := by simp [List.getD_eq_getElem?_getD, List.getElem?_eq_none (by omega : xs.length ≤ i)]
    rw [e]
    exact ⟨⟨by decide, by decide⟩, ⟨by decide, by decide⟩, ⟨by decide, by decide⟩⟩
section
variable {w : World} {oa : Option Addr} {cap B O : Nat} {t c : Int} {xs : List Ins}
theorem ivW_ok (hL : Lst w oa B O xs) (ht : I64 t) (hc : I64 c) (hn : (xs.length : Int) < 9223372036854775807) {i : Nat} (hi : i ≤ xs.length) : Go.Ev.IvOK ivW (rhoAt oa cap B O t c xs i) := by
  obtain ⟨f1, f2, f3⟩ := hL.fit i
  refine Go.Ev.ivs_cons ht (Go.Ev.ivs_cons hc (Go.Ev.ivs_cons ⟨by show (0 : Int) ≤ (xs.length : Int); omega, by show (xs.length : Int) ≤ _; omega⟩ (Go.Ev.ivs_nil fun j => ?_)))
  match j with
  | 0 => exact f1
  | 1 => exact f2
  | 2 => exact f3
  | 3 => exact ⟨by show _ ≤ (i : Int); omega, by show (i : Int) ≤ _; omega⟩
  | 4 => exact ⟨by show _ ≤ (i : Int) + 1; omega, by show (i : Int) + 1 ≤ _; omega⟩
  | j + 5 => exact ⟨by show _ ≤ (0 : Int); decide, by show (0 : Int) ≤ _; decide⟩
/-- Inside the bounds of the loops. -/
structure In (t c : Int) (xs : List Ins) : Prop where
  t0 : 0 ≤ t
  t2 : t ≤ 2
  c0 : 0 ≤ c
  c40 : c ≤ 40
  n32 : xs.length ≤ 32
theorem inB_ok {iv : Go.Ev.Ivs} {i : Nat} (h : inB iv = true) (k : Go.Ev.IvOK iv (rhoAt oa cap B O t c xs i)) : In t c xs := by
  unfold inB at h
  split at h
  · split at h
    · rename_i a b c' d e f h1 h2 h3 h4 h5
      have k0 := k 0
      have k1 := k 1
      have k2 := k 2
      have h1 := of_decide_eq_true h1
      have h2 := of_decide_eq_true h2
      have h3 := of_decide_eq_true h3
      have h4 := of_decide_eq_true h4
      have h5 := of_decide_eq_true h5
      simp only [Go.Ev.ivAt, Go.Ev.lget] at k0 k1 k2
      have e0 : (rhoAt oa cap B O t c xs i).int 0 = t := rfl
      have e1 : (rhoAt oa cap B O t c xs i).int 1 = c := rfl
      have e2 : (rhoAt oa cap B O t c xs i).int 2 = (xs.length : Int) := rfl
      rw [e0] at k0
      rw [e1] at k1
      rw [e2] at k2
      exact ⟨by omega, by omega, by omega, by omega, by omega⟩
    · cases h
  · cases h
theorem iv0_ok (hL : Lst w oa B O xs) (hin : In t c xs) {i : Nat} (hi : i ≤ xs.length) : Go.Ev.IvOK iv0 (rhoAt oa cap B O t c xs i) := by
  obtain ⟨f1, f2, f3⟩ := hL.fit i
  have hn := hin.n32
  refine Go.Ev.ivs_cons ⟨hin.t0, hin.t2⟩ (Go.Ev.ivs_cons ⟨hin.c0, hin.c40⟩ (Go.Ev.ivs_cons ⟨by show (0 : Int) ≤ (xs.length : Int); omega, by show (xs.length : Int) ≤ _; omega⟩ (Go.Ev.ivs_nil fun j => ?_)))
  match j with
  | 0 => exact f1
  | 1 => exact f2
  | 2 => exact f3
  | 3 => exact ⟨by show _ ≤ (i : Int); omega, by show (i : Int) ≤ _; omega⟩
  | 4 => exact ⟨by show _ ≤ (i : Int) + 1; omega, by show (i : Int) + 1 ≤ _; omega⟩
  | j + 5 => exact ⟨by show _ ≤ (0 : Int); decide, by show (0 : Int) ≤ _; decide⟩
theorem iv1_ok (hL : Lst w oa B O xs) (hin : In t c xs) {i : Nat} (hi : i < xs.length) : Go.Ev.IvOK iv1 (rhoAt oa cap B O t c xs i) := by
  obtain ⟨f1, f2, f3⟩ := hL.fit i
  have hn := hin.n32
  exact Go.Ev.ivs_cons ⟨hin.t0, hin.t2⟩ (Go.Ev.ivs_cons ⟨hin.c0, hin.c40⟩ (Go.Ev.ivs_cons ⟨by show (0 : Int) ≤ (xs.length : Int); omega, by show (xs.length : Int) ≤ _; omega⟩ (Go.Ev.ivs_cons f1 (Go.Ev.ivs_cons f2 (Go.Ev.ivs_cons f3
    (Go.Ev.ivs_cons ⟨by show 0 ≤ (i : Int); omega, by show (i : Int) ≤ _; omega⟩ (Go.Ev.ivs_cons ⟨by show 1 ≤ (i : Int) + 1; omega, by show (i : Int) + 1 ≤ _; omega⟩
      (Go.Ev.ivs_nil fun j => ⟨by show _ ≤ (0 : Int); decide, by show (0 : Int) ≤ _; decide⟩))))))))
theorem iv2_ok (hin : In t c xs) : Go.Ev.IvOK iv2 (rhoAt oa cap B O t c xs xs.length) := by
  have hn := hin.n32
  have e : xs.getD xs.length (0, 0, 0) = (0, 0, 0) := by simp [List.getD_eq_getElem?_getD]
  have z : ∀ z : Int, z = 0 → 0 ≤ z ∧ z ≤ 0 := fun z h => by omega
  refine Go.Ev.ivs_cons ⟨hin.t0, hin.t2⟩ (Go.Ev.ivs_cons ⟨hin.c0, hin.c40⟩ (Go.Ev.ivs_cons ⟨by show (0 : Int) ≤ (xs.length : Int); omega, by show (xs.length : Int) ≤ _; omega⟩
    (Go.Ev.ivs_cons (z _ (by show (xs.getD xs.length (0, 0, 0)).1 = 0; rw [e])) (Go.Ev.ivs_cons (z _ (by show (xs.getD xs.length (0, 0, 0)).2.1 = 0; rw [e])) (Go.Ev.ivs_cons (z _ (by show (xs.getD xs.length (0, 0, 0)).2.2 = 0; rw [e]))
      (Go.Ev.ivs_cons ⟨by show 0 ≤ (xs.length : Int); omega, by show (xs.length : Int) ≤ _; omega⟩ (Go.Ev.ivs_nil fun j => ?_)))))))
  match j with
  | 0 => exact ⟨by show _ ≤ (xs.length : Int) + 1; omega, by show (xs.length : Int) + 1 ≤ _; omega⟩
  | j + 1 => exact ⟨by show _ ≤ (0 : Int); decide, by show (0 : Int) ≤ _; decide⟩
theorem E0_ok {iv : Go.Ev.Ivs} {fs : List Go.Ev.Fact} {i : Nat} {φ : Go.Ev.Phi} (hφ : φ.ρ = rhoAt oa cap B O t c xs i) (h1 : Go.Ev.IvOK iv (rhoAt oa cap B O t c xs i)) (h2 : Go.Ev.FsOK fs (rhoAt oa cap B O t c xs i)) : Go.Ev.EnvOK (E0 iv fs) φ w := by
  refine ⟨trivial, fun i => by rw [hφ]; exact h1 i, fun f hf => ?_, fun i c h => by cases h⟩
  rw [hφ]
  rcases List.mem_append.1 hf with h | h
  · exact h2 f h
  · simp only [facts0, List.mem_singleton] at h
    subst h
    exact Go.Ev.fact_len rfl rfl
theorem E1_ok (hL : Lst w oa B O xs) (hin : In t c xs) {iv : Go.Ev.Ivs} {fs : List Go.Ev.Fact} {i : Nat} (hi : i < xs.length) {φ : Go.Ev.Phi} (hφ : φ.ρ = rhoAt oa cap B O t c xs i) (h1 : Go.Ev.IvOK iv (rhoAt oa cap B O t c xs i)) (h2 : Go.Ev.FsOK fs (rhoAt oa cap B O t c xs i)) : Go.Ev.EnvOK (E1 iv fs) φ w := by
  obtain ⟨g1, g2, g3, g4, g5⟩ := hL.cells i _ (at_of hi)
  have hn := hin.n32
  refine ⟨trivial, fun i => by rw [hφ]; exact h1 i, fun f hf => ?_, fun k cs h => ?_⟩
  · rw [hφ]
    rcases List.mem_append.1 hf with h | h
    · exact h2 f h
    · simp only [facts1, List.mem_cons, List.not_mem_nil, or_false] at h
      rcases h with rfl | rfl | rfl | rfl
      · exact Go.Ev.fact_len rfl rfl
      · refine Go.Ev.fact_at (n := i) (B := B) (O := O) (l := xs.length) (c := cap) ?_ rfl hi rfl rfl
        show some (Value.slice oa xs.length cap) = _
        rw [g1]
      · exact Go.Ev.factLss (decide_eq_true (show (i : Int) < (xs.length : Int) by omega))
      · exact Go.Ev.fact_add rfl (show -9223372036854775808 ≤ (i : Int) + 1 by omega) (show (i : Int) + 1 ≤ 9223372036854775807 by omega)
  · have hk : k = 3 ∧ cs = [Go.Ev.sv iv .i64 3, Go.Ev.sv iv .i64 4, Go.Ev.sv iv .i64 5] := by
      simp only [E1] at h
      split at h
      · rename_i hb
        exact ⟨Nat.eq_of_beq_eq_true hb, (Option.some.inj h).symm⟩
      · cases h
    obtain ⟨rfl, rfl⟩ := hk
    have v3 : Go.Ev.VR φ (Go.Ev.sv iv .i64 3) (.int .i64 (xs.getD i (0, 0, 0)).1) := by have := Go.Ev.VR_sv (φ := φ) (iv := iv) (by rw [hφ]; exact h1) .i64 3; rw [hφ] at this; exact this
    have v4 : Go.Ev.VR φ (Go.Ev.sv iv .i64 4) (.int .i64 (xs.getD i (0, 0, 0)).2.1) := by have := Go.Ev.VR_sv (φ := φ) (iv := iv) (by rw [hφ]; exact h1) .i64 4; rw [hφ] at this; exact this
    have v5 : Go.Ev.VR φ (Go.Ev.sv iv .i64 5) (.int .i64 (xs.getD i (0, 0, 0)).2.2) := by have := Go.Ev.VR_sv (φ := φ) (iv := iv) (by rw [hφ]; exact h1) .i64 5; rw [hφ] at this; exact this
    have eb : φ.ρ.blk 3 = B := by rw [hφ]; rfl
    have eo : φ.ρ.off 3 = O + i * 3 := by rw [hφ]; rfl
    rw [eb, eo]
    refine ⟨g2, fun j x hj => ?_⟩
    match j with
    | 0 => simp only [List.getElem?_cons_zero, Option.some.injEq] at hj; subst hj; exact ⟨_, g3, v3⟩
    | 1 => simp only [List.getElem?_cons_succ, List.getElem?_cons_zero, Option.some.injEq] at hj; subst hj; exact ⟨_, g4, v4⟩
    | 2 => simp only [List.getElem?_cons_succ, List.getElem?_cons_zero, Option.some.injEq] at hj; subst hj; exact ⟨_, g5, v5⟩
    | j + 3 => simp at hj
theorem E2_ok (hin : In t c xs) {φ : Go.Ev.Phi} (hφ : φ.ρ = rhoAt oa cap B O t c xs xs.length) : Go.Ev.EnvOK (E2 iv2 []) φ w := by
  refine ⟨trivial, fun i => by rw [hφ]; exact iv2_ok hin i, fun f hf => ?_, fun i c h => by cases h⟩
  rw [hφ]
  simp only [E2, List.nil_append, facts2, List.mem_cons, List.not_mem_nil, or_false] at hf
  rcases hf with rfl | rfl
  · exact Go.Ev.fact_len rfl rfl
  · exact Go.Ev.factLss (decide_eq_false (show ¬ ((xs.length : Int) < (xs.length : Int)) by omega))
end
/-! ### what both tell -/
def leaf0 (t c : Int) (xs : List Ins) : Go.Ev.Ivs × List Go.Ev.Fact := Go.Ev.leafOf T0 (vals t c xs 0) ivW []
def leaf1 (t c : Int) (xs : List Ins) (i : Nat) : Go.Ev.Ivs × List Go.Ev.Fact := Go.Ev.leafOf AT.tr (vals t c xs i) iv1 []
def good (t c : Int) (xs : List Ins) (i : Nat) : Bool := Go.Ev.valB AT (vals t c xs i)
noncomputable def spec (t c : Int) (xs : List Ins) : Int := match inB (leaf0 t c xs).1 with
  | true => if ∀ i, i < xs.length → good t c xs i = true then 0 else 9
  | false => match whole bC Tryd.f9 (leaf0 t c xs).1 (leaf0 t c xs).2 with
    | some x => x
    | none => 0
noncomputable def EI (t c : Int) (xs : List Ins) (i : Nat) : Go.Ev.Env := if i < xs.length then E1 (leaf1 t c xs i).1 (leaf1 t c xs i).2 else E2 iv2 []
theorem rcOK : Go.Ev.CEok Tryd.prog (· = none) rc := by
  unfold rc
  exact Go.Ev.evN_rc (Go.Ev.noNG_of noNG) mixed (Go.Ev.kn0_ok Tryd.prog) _
theorem fsNil {ρ : Go.Ev.Rho} : Go.Ev.FsOK [] ρ := fun f h => by cases h
/-- One of the two functions. -/
theorem contract_of {f : FuncId} {fn : Func} {b : Code} {s : Go.Ev.Side} {k1 k2 id tI : Nat} (hf : Tryd.prog.funcs[f]? = some fn) (hb : fn.body = some b) (hs : s.nt = fn.ntmps) (hres : s.res = fn.results.toList) (hnt : Nat.ble fn.ntmps Go.Ev.top = true) (h3 : Nat.ble args.length fn.ntmps = true)
    (hsh : Go.Ev.shapeB b k1 k2 id = true) (hLB : s.LB = Go.Ev.loopAt b k1 k2) (hpre : Go.Ev.preB2 rc 3 s b k1 k2 (Go.Ev.listT args 0 .lf) (E0 iv0 []) = true) (hend : Go.Ev.endB Tryd.prog rc s b k1 id (E2 iv2 []) (.int .i64 0) = true) (hix : s.ix = [(tI, .i64, 6, 7)]) (hbad : s.bad = badV)
    (hbody : ∀ iv fs, s.out Tryd.prog rc 3 (E1 iv fs) = outB iv fs)
    (hwhole : ∀ iv fs, whole b fn iv fs = whole bC Tryd.f9 iv fs)
    {w : World} {oa : Option Addr} {cap B O : Nat} {t c : Int} {xs : List Ins} (hL : Lst w oa B O xs) (ht : I64 t) (hc : I64 c) (hn : (xs.length : Int) < 9223372036854775807) :
    Calls Tryd.prog f #[.slice oa xs.length cap, .int .i64 t, .int .i64 c] w fun e w' => e = .returned (.int .i64 (spec t c xs)) ∧ Below w.heap.size w w' := by
  have hnt' : fn.ntmps ≤ Go.Ev.top := Nat.le_of_ble_eq_true hnt
  obtain ⟨q1, q2, q3⟩ := Go.Ev.leafOf_ok (ρ := rhoAt oa cap B O t c xs 0) (v := vals t c xs 0) rfl all0 (ivW_ok hL ht hc hn (Nat.zero_le _)) fsNil
  have ha : Go.Ev.VRs ⟨fun _ => none, rhoAt oa cap B O t c xs 0⟩ args [.slice oa xs.length cap, .int .i64 t, .int .i64 c] := by
    simp only [args, Go.Ev.VRs, Go.Ev.VR]
    exact ⟨_, _, rfl, rfl, _, _, rfl, rfl, _, _, rfl, rfl, rfl⟩
  cases hin : inB (leaf0 t c xs).1 with
  | false =>
    have hx : ∃ x, whole bC Tryd.f9 (leaf0 t c xs).1 (leaf0 t c xs).2 = some x := by
      unfold lc0 at q1
      rw [show inB (Go.Ev.leafOf T0 (vals t c xs 0) ivW []).1 = false from hin] at q1
      simp only at q1
      split at q1
      · rename_i x hx; exact ⟨x, hx⟩
      · cases q1
    obtain ⟨x, hx⟩ := hx
    have hsp : spec t c xs = x := by unfold spec; rw [hin, hx]
    rw [hsp]
    refine Go.Ev.rs_calls hf hb h3 hnt (E := E0 (leaf0 t c xs).1 (leaf0 t c xs).2) (E0_ok rfl q2 q3) (fun r b h => by cases h) ha fun act k => ?_
    exact Go.Ev.run_fn rcOK hnt' (R := (· = rhoAt oa cap B O t c xs 0)) ((hwhole _ _).trans hx) k
  | true =>
    have hI := inB_ok hin q2
    have hsp : spec t c xs = if ∀ i, i < xs.length → good t c xs i = true then 0 else 9 := by unfold spec; rw [hin]
    have leaf_ok : ∀ i, i < xs.length → Go.Ev.IvOK (leaf1 t c xs i).1 (rhoAt oa cap B O t c xs i) ∧ Go.Ev.FsOK (leaf1 t c xs i).2 (rhoAt oa cap B O t c xs i) := fun i hi =>
      Go.Ev.leafB_ok (ρ := rhoAt oa cap B O t c xs i) (v := vals t c xs i) rfl (iv1_ok hL hI hi) fsNil
    refine Go.Ev.rs_calls hf hb h3 hnt (E := E0 iv0 []) (E0_ok rfl (iv0_ok hL hI (Nat.zero_le _)) fsNil) (fun r b h => by cases h) ha fun act k => ?_
    have hres' := Go.Ev.search_fn2 (vB := .int .i64 9) (vG := .int .i64 0) (good := good t c xs) (len := xs.length) (EI := EI t c xs) (rhoAt := rhoAt oa cap B O t c xs) rcOK hs hres hnt' hsh hLB hpre hend
      (by unfold EI; rw [if_neg (by omega)]) (by rw [hix]; intro p hp; simp only [List.mem_singleton] at hp; subst hp; rfl)
      (fun i => by unfold EI; split <;> rfl)
      (fun i _ k hk => ⟨by match k, hk with | 0, _ => rfl | 1, _ => rfl | 2, _ => rfl, rfl, rfl, by show (if k = 3 then _ else 0) = (if k = 3 then _ else 0); rw [if_neg (by omega), if_neg (by omega)], rfl⟩)
      (fun i hi _ φ hφ => by
        unfold EI
        split
        · rename_i hlt
          exact E1_ok hL hI hlt hφ (leaf_ok i hlt).1 (leaf_ok i hlt).2
        · have e : i = xs.length := by omega
          subst e
          exact E2_ok hI hφ)
      (fun i hi => by
        unfold EI
        rw [if_pos hi, hbody]
        exact Go.Ev.valB_ok all1)
      (fun i hi p hp => by rw [hix] at hp; simp only [List.mem_singleton] at hp; subst hp; show ((i + 1 : Nat) : Int) = (i : Int) + 1; omega)
      (fun φ v hv => by rw [hbad] at hv; simpa only [badV, Go.Ev.VR] using hv) (fun φ v hv => by simpa only [Go.Ev.VR] using hv) k
    rw [hsp]
    have e : (Value.int .i64 (if ∀ i, i < xs.length → good t c xs i = true then 0 else 9)) = if ∀ i, i < xs.length → good t c xs i = true then Value.int .i64 0 else Value.int .i64 9 := by split <;> rfl
    rw [e]
    exact hres'
theorem spec_in {w : World} {oa : Option Addr} {B O : Nat} {t c : Int} {xs : List Ins} (hL : Lst w oa B O xs) (ht : I64 t) (hc : I64 c) (hn : (xs.length : Int) < 9223372036854775807) : 0 ≤ spec t c xs ∧ spec t c xs ≤ 1000 ∧ (spec t c xs = 0 → In t c xs ∧ ∀ i, i < xs.length → good t c xs i = true) := by
  obtain ⟨q1, q2, _⟩ := Go.Ev.leafOf_ok (ρ := rhoAt oa 0 B O t c xs 0) (v := vals t c xs 0) rfl all0 (ivW_ok hL ht hc hn (Nat.zero_le _)) fsNil
  unfold spec
  cases hin : inB (leaf0 t c xs).1 with
  | true =>
    simp only
    split
    · rename_i hg
      exact ⟨by decide, by decide, fun _ => ⟨inB_ok hin q2, hg⟩⟩
    · exact ⟨by decide, by decide, fun h => by cases h⟩
  | false =>
    unfold lc0 at q1
    rw [show inB (Go.Ev.leafOf T0 (vals t c xs 0) ivW []).1 = false from hin] at q1
    simp only at q1
    split at q1
    · rename_i x h1
      have h1' : whole bC Tryd.f9 (leaf0 t c xs).1 (leaf0 t c xs).2 = some x := h1
      rw [h1']
      split at q1
      · rename_i g1
        have g1 := of_decide_eq_true g1
        have g2 := of_decide_eq_true q1
        exact ⟨by show 0 ≤ x; omega, g2, fun h => absurd (show x = 0 from h) (by omega)⟩
      · cases q1
    · cases q1
theorem in_inB {t c : Int} {xs : List Ins} (h : In t c xs) : inB (leaf0 t c xs).1 = true := by
  obtain ⟨h1, h2, h3, h4, h5⟩ := h
  have e0 : vals t c xs 0 0 = t := rfl
  have e1 : vals t c xs 0 1 = c := rfl
  have e2 : vals t c xs 0 2 = (xs.length : Int) := rfl
  unfold leaf0 T0
  simp only [Go.Ev.leafOf, e0, e1, e2]
  repeat' split
  all_goals first
    | rfl
    | omega
theorem spec_zero {t c : Int} {xs : List Ins} (h : In t c xs) (hg : ∀ i, i < xs.length → good t c xs i = true) : spec t c xs = 0 := by
  unfold spec
  rw [in_inB h]
  simp only
  rw [if_pos hg]
/-- For more targets, more cards. -/
theorem good_more {t c u d : Int} {xs : List Ins} {i : Nat} (h : In t c xs) (h' : In u d xs) (htu : t ≤ u) (hcd : c ≤ d) (hf : I64 (xs.getD i (0, 0, 0)).1 ∧ I64 (xs.getD i (0, 0, 0)).2.1 ∧ I64 (xs.getD i (0, 0, 0)).2.2) (hi : i ≤ xs.length) (hg : good t c xs i = true) : good u d xs i = true := by
  have hn := h.n32
  let v : Nat → Int := fun k => match Nat.beq k 8, Nat.beq k 9 with
    | true, _ => u
    | _, true => d
    | _, _ => vals t c xs i k
  have hv : Go.Ev.VOK ivM rsM v := by
    refine ⟨Go.Ev.ivs_cons ⟨h.t0, h.t2⟩ (Go.Ev.ivs_cons ⟨h.c0, h.c40⟩ (Go.Ev.ivs_cons ⟨by show (0 : Int) ≤ (xs.length : Int); omega, by show (xs.length : Int) ≤ _; omega⟩ (Go.Ev.ivs_cons hf.1 (Go.Ev.ivs_cons hf.2.1 (Go.Ev.ivs_cons hf.2.2
      (Go.Ev.ivs_cons ⟨by show _ ≤ (i : Int); omega, by show (i : Int) ≤ _; omega⟩ (Go.Ev.ivs_cons ⟨by show _ ≤ (i : Int) + 1; omega, by show (i : Int) + 1 ≤ _; omega⟩
        (Go.Ev.ivs_cons ⟨h'.t0, h'.t2⟩ (Go.Ev.ivs_cons ⟨h'.c0, h'.c40⟩ (Go.Ev.ivs_nil fun j => ⟨by show _ ≤ (0 : Int); decide, by show (0 : Int) ≤ _; decide⟩)))))))))), fun p hp => ?_⟩
    simp only [rsM, List.mem_cons, List.not_mem_nil, or_false] at hp
    rcases hp with rfl | rfl
    · exact decide_eq_false (show ¬ (u < t) by omega)
    · exact decide_eq_false (show ¬ (d < c) by omega)
  obtain ⟨iv, rs, hl, hv'⟩ := Go.Ev.chkV_ok allM hv
  have e1 : Go.Ev.valB AT v = true := by
    rw [Go.Ev.valB_congr (m := 6) (v' := vals t c xs i) (fun k hk => ?_) (by kernel_rfl)]
    · exact hg
    · match k, hk with
      | 0, _ => rfl
      | 1, _ => rfl
      | 2, _ => rfl
      | 3, _ => rfl
      | 4, _ => rfl
      | 5, _ => rfl
  have e2 : Go.Ev.valB (AT.ren fM) v = good u d xs i := by
    rw [Go.Ev.valB_ren]
    unfold good
    refine Go.Ev.valB_congr (m := 6) (fun k hk => ?_) (by kernel_rfl)
    match k, hk with
    | 0, _ => rfl
    | 1, _ => rfl
    | 2, _ => rfl
    | 3, _ => rfl
    | 4, _ => rfl
    | 5, _ => rfl
  unfold lcM at hl
  split at hl
  · rename_i hb
    rw [Go.Ev.boxB_ok hv' hb] at e1
    cases e1
  · rename_i hb
    rw [← e2]
    exact Go.Ev.boxB_ok hv' hb
  · cases hl
/-- The law's own loop asks three numbers. -/
def only (t : Go.Ev.TrB) : Bool := match t with
  | .leaf _ => true
  | .cut i _ l r => match Nat.beq i 10, Nat.beq i 11, Nat.beq i 3, only l with
    | true, _, _, true => only r
    | _, true, _, true => only r
    | _, _, true, true => only r
    | _, _, _, _ => false
  | .rel _ i j l r => match Nat.beq i 10, Nat.beq i 11, Nat.beq i 3, Nat.beq j 10, Nat.beq j 11, Nat.beq j 3, only l with
    | true, _, _, true, _, _, true => only r
    | true, _, _, _, true, _, true => only r
    | true, _, _, _, _, true, true => only r
    | _, true, _, true, _, _, true => only r
    | _, true, _, _, true, _, true => only r
    | _, true, _, _, _, true, true => only r
    | _, _, true, true, _, _, true => only r
    | _, _, true, _, true, _, true => only r
    | _, _, true, _, _, true, true => only r
    | _, _, _, _, _, _, _ => false
theorem only_ok {v v' : Nat → Int} (h : ∀ j, (j = 10 ∨ j = 11 ∨ j = 3) → v j = v' j) : ∀ {t : Go.Ev.TrB}, only t = true → Go.Ev.valB t v = Go.Ev.valB t v'
  | .leaf _, _ => rfl
  | .cut i c l r, k => by
    have key : (i = 10 ∨ i = 11 ∨ i = 3) ∧ only l = true ∧ only r = true := by
      simp only [only] at k
      split at k
      · rename_i h1 h2; exact ⟨.inl (Nat.eq_of_beq_eq_true h1), h2, k⟩
      · rename_i h1 h2 _; exact ⟨.inr (.inl (Nat.eq_of_beq_eq_true h1)), h2, k⟩
      · rename_i h1 h2 _ _; exact ⟨.inr (.inr (Nat.eq_of_beq_eq_true h1)), h2, k⟩
      · cases k
    simp only [Go.Ev.valB, h i key.1, only_ok h key.2.1, only_ok h key.2.2]
  | .rel _ i j l r, k => by
    have key : (i = 10 ∨ i = 11 ∨ i = 3) ∧ (j = 10 ∨ j = 11 ∨ j = 3) ∧ only l = true ∧ only r = true := by
      simp only [only] at k
      split at k <;> first
        | (cases k; done)
        | (refine ⟨?_, ?_, ?_, k⟩ <;> simp_all)
    simp only [Go.Ev.valB, h i key.1, h j key.2.1, only_ok h key.2.2.1, only_ok h key.2.2.2]
theorem valAL {v v' : Nat → Int} (h : ∀ j, (j = 10 ∨ j = 11 ∨ j = 3) → v j = v' j) : Go.Ev.valB AL v = Go.Ev.valB AL v' := only_ok h (by kernel_rfl)
/-- Of a beginning that no jump leaves. -/
theorem good_take {t c : Int} {xs : List Ins} {i k : Nat} {v : Nat → Int} (h : In t c xs) (hk : k ≤ xs.length) (hik : i < k) (hf : I64 (xs.getD i (0, 0, 0)).1 ∧ I64 (xs.getD i (0, 0, 0)).2.1 ∧ I64 (xs.getD i (0, 0, 0)).2.2) (hg : good t c xs i = true)
    (hv10 : v 10 = (xs.getD i (0, 0, 0)).1) (hv11 : v 11 = (xs.getD i (0, 0, 0)).2.1) (hv3 : v 3 = k) (hb : Go.Ev.valB AL v = true) : good t c (xs.take k) i = true := by
  have hn := h.n32
  let u : Nat → Int := fun j => match Nat.beq j 8 with
    | true => k
    | false => vals t c xs i j
  have hv : Go.Ev.VOK ivP rsP u := by
    refine ⟨Go.Ev.ivs_cons ⟨h.t0, h.t2⟩ (Go.Ev.ivs_cons ⟨h.c0, h.c40⟩ (Go.Ev.ivs_cons ⟨by show (0 : Int) ≤ (xs.length : Int); omega, by show (xs.length : Int) ≤ _; omega⟩ (Go.Ev.ivs_cons hf.1 (Go.Ev.ivs_cons hf.2.1 (Go.Ev.ivs_cons hf.2.2
      (Go.Ev.ivs_cons ⟨by show _ ≤ (i : Int); omega, by show (i : Int) ≤ _; omega⟩ (Go.Ev.ivs_cons ⟨by show _ ≤ (i : Int) + 1; omega, by show (i : Int) + 1 ≤ _; omega⟩
        (Go.Ev.ivs_cons ⟨by show 0 ≤ (k : Int); omega, by show (k : Int) ≤ _; omega⟩ (Go.Ev.ivs_nil fun j => ⟨by show _ ≤ (0 : Int); decide, by show (0 : Int) ≤ _; decide⟩))))))))), fun p hp => ?_⟩
    simp only [rsP, List.mem_singleton] at hp
    subst hp
    exact decide_eq_false (show ¬ ((xs.length : Int) < (k : Int)) by omega)
  obtain ⟨iv, rs, hl, hv'⟩ := Go.Ev.chkV_ok allP hv
  have e0 : Go.Ev.valB (AL.ren gP) u = true := by
    rw [Go.Ev.valB_ren, ← hb]
    refine valAL (fun j hj => ?_)
    rcases hj with rfl | rfl | rfl
    · exact hv10.symm
    · exact hv11.symm
    · exact hv3.symm
  have e1 : Go.Ev.valB AT u = true := by
    rw [Go.Ev.valB_congr (m := 6) (v' := vals t c xs i) (fun k hk => ?_) (by kernel_rfl)]
    · exact hg
    · match k, hk with
      | 0, _ => rfl
      | 1, _ => rfl
      | 2, _ => rfl
      | 3, _ => rfl
      | 4, _ => rfl
      | 5, _ => rfl
  have hd : (xs.take k).getD i (0, 0, 0) = xs.getD i (0, 0, 0) := by
    simp [List.getD_eq_getElem?_getD, hik]
  have hlen : (xs.take k).length = k := by rw [List.length_take]; omega
  have e2 : Go.Ev.valB (AT.ren fP) u = good t c (xs.take k) i := by
    rw [Go.Ev.valB_ren]
    unfold good
    refine Go.Ev.valB_congr (m := 6) (fun j hj => ?_) (by kernel_rfl)
    match j, hj with
    | 0, _ => rfl
    | 1, _ => rfl
    | 2, _ => show (k : Int) = ((xs.take k).length : Int); rw [hlen]
    | 3, _ => show (xs.getD i (0, 0, 0)).1 = ((xs.take k).getD i (0, 0, 0)).1; rw [hd]
    | 4, _ => show (xs.getD i (0, 0, 0)).2.1 = ((xs.take k).getD i (0, 0, 0)).2.1; rw [hd]
    | 5, _ => show (xs.getD i (0, 0, 0)).2.2 = ((xs.take k).getD i (0, 0, 0)).2.2; rw [hd]
  unfold lcP at hl
  split at hl
  · rename_i hb'
    rw [Go.Ev.boxB_ok hv' hb'] at e0
    cases e0
  · rename_i hb'
    rw [Go.Ev.boxB_ok hv' hb'] at e1
    cases e1
  · rename_i hb'
    rw [← e2]
    exact Go.Ev.boxB_ok hv' hb'
  · cases hl
section
variable {w : World} {oa : Option Addr} {cap B O : Nat} {t c : Int} {xs : List Ins}
theorem preC : Go.Ev.preB2 rc 3 sideC bC 3 1 (Go.Ev.listT args 0 .lf) (E0 iv0 []) = true := by kernel_rfl
theorem endC : Go.Ev.endB Tryd.prog rc sideC bC 3 1 (E2 iv2 []) (.int .i64 0) = true := by kernel_rfl
theorem contractC (hL : Lst w oa B O xs) (ht : I64 t) (hc : I64 c) (hn : (xs.length : Int) < 9223372036854775807) :
    Calls Tryd.prog 9 #[.slice oa xs.length cap, .int .i64 t, .int .i64 c] w fun e w' => e = .returned (.int .i64 (spec t c xs)) ∧ Below w.heap.size w w' :=
  contract_of (s := sideC) Tryd.func9 (b := bC) (by kernel_rfl) rfl rfl (by kernel_rfl) (by kernel_rfl) (k1 := 3) (k2 := 1) (id := 1) (by kernel_rfl) rfl preC endC rfl rfl (fun _ _ => rfl) (fun _ _ => rfl) hL ht hc hn
end
end Go.Proofs.YtgmdbpmookoafaaDoor.more
