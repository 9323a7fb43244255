/-
  'CodeChecks': of any code (its first forty instructions), of any numbers of targets and cards, the program's check and the document's come to the same. The condition: the listed tables hold what the row lists (the chapter's rows, that each statement asks, look into them); the card ties that to the program's text.
-/
import Derived.Test.YtgmdbpmookoafaaDoorChecks
import Derived.Test.YtgmdbpmookoafaaDoorTie
import Derived.Test.YtgmdbpmookoafaaDoorCards
import Derived.WalkKit
import Derived.ProofKit
import Derived.OpenShut
import Derived.Carry
import Derived.Deep.Slices
import Derived.Lay
import Derived.MakeChecks
import Derived.SevenTiedAt
namespace Go.Proofs.YtgmdbpmookoafaaDoor.codes
open Go.ChangeShapes Go.WideShapes Go.ChangeAt Go.RowKit
set_option linter.unusedVariables false
theorem own : ownKnob Tryd.prog.godebug = none := by kernel_rfl
def nums0 : List Int := [0, 1, 28, 2, 29, 14, 24, 3, 30, 22, 20, 15, 25, 17, 4, 8, 31, 27, 13, 23, 21, 19, 16, 7, 26, 12, 18, 6, 11, 5, 10, 9]
def nums1 : List Int := [0, 1, 56, 2, 57, 49, 28, 3, 61, 58, 42, 50, 38, 29, 17, 4, 62, 47, 59, 36, 45, 43, 51, 22, 53, 39, 33, 30, 24, 18, 12, 5, 63, 55, 48, 27, 60, 41, 37, 16, 46, 35, 44, 21, 52, 32, 23, 11, 54, 26, 40, 15, 34, 20, 31, 10, 25, 14, 19, 9, 13, 8, 7, 6]
def nums2 : List Int := [1, 10, 100, 1000, 10000, 100000, 1000000, 10000000, 100000000, 1000000000, 10000000000, 100000000000, 1000000000000, 10000000000000, 100000000000000, 1000000000000000, 10000000000000000, 100000000000000000, 1000000000000000000, 10000000000000000000]
noncomputable def tabs : Go.Ev.Tabs := [(1, nums0.map fun z => Value.int .u8 z), (2, nums1.map fun z => Value.int .u8 z), (0, nums2.map fun z => Value.int .u64 z)]
/-! ### the chapter's rows -/
namespace rows
instance said : Go.Ev.Ext := ⟨fun _ w => Go.Ev.TabsOK tabs w⟩
theorem none_known : ∀ f ∈ ([] : List FuncId), ∀ w : World, Go.Ev.TabsOK tabs w → Calls Tryd.prog f #[] w fun e w' => e = .returned (.bool true) ∧ Below w.heap.size w w' := by
  intro f hf
  cases hf
theorem ran : Go.Ev.runT Tryd.prog tabs [] 20000 11 = true := by kernel_rfl
theorem works (w : World) (h : Go.Ev.TabsOK tabs w) : Calls Tryd.prog 11 #[] w fun e w' => e = .returned (.bool true) ∧ Below w.heap.size w w' :=
  Go.Ev.runT_calls (Go.Ev.noNG_of noNG) mixed (fun _ _ h => h) none_known ran w h h
end rows
/-! ### the statement's function -/
noncomputable def KT : List Go.Ev.KE := [⟨9, [.sym 1, .sint .i64 0, .sint .i64 1], [], .sint .i64 3⟩, ⟨10, [.sym 1, .sint .i64 0, .sint .i64 1], [], .sint .i64 3⟩, ⟨11, [], [], .bool true⟩]
def EA : Go.Ev.Env := ⟨fun _ => none, Go.Ev.ivAt [(-9223372036854775808, 9223372036854775807), (-9223372036854775808, 9223372036854775807), (0, 40)], [.len false (.sym 0) (.sint .i64 2), .cut 3 (.sym 0) none (some (.sint .i64 2)) (.sym 1)], fun _ => none⟩
def EB : Go.Ev.Env := ⟨fun _ => none, Go.Ev.ivAt [(-9223372036854775808, 9223372036854775807), (-9223372036854775808, 9223372036854775807), (41, 9223372036854775807)], [.len false (.sym 0) (.sint .i64 2), .cut 3 (.sym 0) none (some (.int .i64 40)) (.sym 1)], fun _ => none⟩
noncomputable def runL (E : Go.Ev.Env) : Bool := match Go.Ev.runE Tryd.prog (Go.Ev.knL KT) 20000 3 [.sym 0, .sint .i64 0, .sint .i64 1] E with
  | some (.bool b, _) => b
  | _ => false
theorem ranA : runL EA = true := by kernel_rfl
theorem ranB : runL EB = true := by kernel_rfl
section
instance saidL : Go.Ev.Ext := ⟨fun ρ w => ∀ e ∈ KT, Go.Ev.KEok Tryd.prog ρ w e⟩
theorem runL_calls {E : Go.Ev.Env} (h : runL E = true) {w : World} {ρ : Go.Ev.Rho} (hE : Go.Ev.EnvOK E ⟨fun _ => none, ρ⟩ w) (hb : ∀ r, E.blk r = none) {args : List Value} (ha : Go.Ev.VRs ⟨fun _ => none, ρ⟩ [.sym 0, .sint .i64 0, .sint .i64 1] args) :
    Calls Tryd.prog 3 ⟨args⟩ w fun e w' => e = .returned (.bool true) ∧ Below w.heap.size w w' := by
  unfold runL at h
  split at h
  · rename_i b H' hr
    subst h
    refine (Go.Ev.runE_calls (Go.Ev.noNG_of noNG) mixed (Go.Ev.knL_ok (fun _ _ h => h)) hr hE (fun r b h => by rw [hb r] at h; cases h) ha).mono ?_
    rintro e w' ⟨v', φ', rfl, _, hv, hb⟩
    simp only [Go.Ev.VR] at hv
    subst hv
    exact ⟨rfl, hb⟩
  · cases h
/-- What the symbols stand for. -/
def rhoL (oa : Option Addr) (cap : Nat) (t c : Int) (n m : Nat) (s : Int) : Go.Ev.Rho :=
  ⟨fun k => match k with | 0 => t | 1 => c | 2 => n | 3 => s | _ => 0, fun k => match k with | 0 => .slice oa n cap | _ => .slice oa m cap, fun _ => 0, fun _ => 0, fun k => by cases k <;> rfl, fun k b h => by cases k <;> cases h⟩
theorem Lst.later {w w' : World} {oa : Option Addr} {B O : Nat} {xs : List Ins} (h : Lst w oa B O xs) (hs : w.heap.size ≤ w'.heap.size) (ho : ∀ k, k < w.heap.size → w'.heap[k]? = w.heap[k]?) : Lst w' oa B O xs := by
  refine ⟨fun i x hi => ?_, h.fits⟩
  obtain ⟨g1, g2, g3, g4, g5⟩ := h.cells i x hi
  have e : ∀ o, w'.cell? ⟨B, o, none⟩ = w.cell? ⟨B, o, none⟩ := fun o => by simp only [World.cell?, ho B g2]
  exact ⟨g1, Nat.lt_of_lt_of_le g2 hs, by rw [e]; exact g3, by rw [e]; exact g4, by rw [e]; exact g5⟩
theorem Lst.take {w : World} {oa : Option Addr} {B O : Nat} {xs : List Ins} (h : Lst w oa B O xs) (m : Nat) : Lst w oa B O (xs.take m) := by
  refine ⟨fun i x hi => h.cells i x ?_, fun x hx => h.fits x (List.mem_of_mem_take hx)⟩
  rw [List.getElem?_take] at hi
  split at hi
  · exact hi
  · cases hi
theorem law {w : World} (hT : Go.Ev.TabsOK tabs w) {oa : Option Addr} {cap B O : Nat} {t c : Int} {xs : List Ins} (hL : Lst w oa B O xs) (ht : I64 t) (hc : I64 c) (hn : (xs.length : Int) ≤ 9223372036854775807) (hcap : xs.length ≤ cap) :
    Calls Tryd.prog 3 #[.slice oa xs.length cap, .int .i64 t, .int .i64 c] w fun e w' => e = .returned (.bool true) ∧ Below w.heap.size w w' := by
  have hl : (xs.take 40).length = min 40 xs.length := List.length_take
  have hL' := hL.take 40
  have hn' : ((xs.take 40).length : Int) < 9223372036854775807 := by rw [hl]; omega
  have hs := spec_in hL' ht hc hn'
  have ext : ∀ e ∈ KT, Go.Ev.KEok Tryd.prog (rhoL oa cap t c xs.length (xs.take 40).length (spec t c (xs.take 40))) w e := by
    intro e he φ vs w' hφ hsz ho hv _
    have one : ∀ vs, Go.Ev.VRs φ [.sym 1, .sint .i64 0, .sint .i64 1] vs → vs = [.slice oa (xs.take 40).length cap, .int .i64 t, .int .i64 c] := by
      intro vs h
      simp only [Go.Ev.VRs, Go.Ev.VR, hφ] at h
      obtain ⟨_, _, rfl, rfl, _, _, rfl, rfl, _, _, rfl, rfl, rfl⟩ := h
      rfl
    simp only [KT, List.mem_cons, List.not_mem_nil, or_false] at he
    rcases he with rfl | rfl | rfl
    · rw [one vs hv]
      refine (contractC (hL'.later hsz ho) ht hc hn').mono ?_
      rintro e w'' ⟨rfl, hb⟩
      exact ⟨_, rfl, by simp only [Go.Ev.VR, hφ]; rfl, hb⟩
    · rw [one vs hv]
      refine (contractR (hL'.later hsz ho) ht hc hn').mono ?_
      rintro e w'' ⟨rfl, hb⟩
      exact ⟨_, rfl, by simp only [Go.Ev.VR, hφ]; rfl, hb⟩
    · simp only [Go.Ev.VRs] at hv
      subst hv
      refine (rows.works w' (hT.of_old ho)).mono ?_
      rintro e w'' ⟨rfl, hb⟩
      exact ⟨_, rfl, by simp only [Go.Ev.VR], hb⟩
  have ha : Go.Ev.VRs ⟨fun _ => none, rhoL oa cap t c xs.length (xs.take 40).length (spec t c (xs.take 40))⟩ [.sym 0, .sint .i64 0, .sint .i64 1] [.slice oa xs.length cap, .int .i64 t, .int .i64 c] := by
    simp only [Go.Ev.VRs, Go.Ev.VR]
    exact ⟨_, _, rfl, rfl, _, _, rfl, rfl, _, _, rfl, rfl, rfl⟩
  have rest : ∀ i, I64 ((rhoL oa cap t c xs.length (xs.take 40).length (spec t c (xs.take 40))).int (i + 3)) := fun i => by
    match i with
    | 0 => exact ⟨by show _ ≤ spec t c (xs.take 40); omega, by show spec t c (xs.take 40) ≤ _; omega⟩
    | i + 1 => exact ⟨by show _ ≤ (0 : Int); decide, by show (0 : Int) ≤ _; decide⟩
  have sl : ∀ (l n : Nat), Value.slice (if cap = (0 : Int).toNat then oa else oa.map (·.add ((0 : Int).toNat * 3))) (((l : Nat) : Int).toNat - (0 : Int).toNat) (cap - (0 : Int).toNat) = Value.slice oa l cap := by
    intro l n
    have e1 : (if cap = (0 : Int).toNat then oa else oa.map (·.add ((0 : Int).toNat * 3))) = oa := by
      split
      · rfl
      · cases oa with
        | none => rfl
        | some a => simp [Addr.add]
    rw [e1]
    simp
  by_cases h40 : xs.length ≤ 40
  · have e : (xs.take 40).length = xs.length := by rw [hl]; omega
    refine runL_calls ranA ⟨ext, Go.Ev.ivs_cons ht (Go.Ev.ivs_cons hc (Go.Ev.ivs_cons ⟨by show (0 : Int) ≤ (xs.length : Int); omega, by show (xs.length : Int) ≤ 40; omega⟩ (Go.Ev.ivs_nil rest))), fun f hf => ?_, fun i c h => by cases h⟩ (fun r => rfl) ha
    simp only [EA, List.mem_cons, List.not_mem_nil, or_false] at hf
    rcases hf with rfl | rfl
    · exact Go.Ev.fact_len rfl rfl
    · refine ⟨oa, xs.length, cap, 0, (xs.length : Int), rfl, rfl, rfl, Int.le_refl _, by omega, by omega, ?_⟩
      rw [sl xs.length 0]
      show some (Value.slice oa (xs.take 40).length cap) = _
      rw [e]
  · have e : (xs.take 40).length = 40 := by rw [hl]; omega
    refine runL_calls ranB ⟨ext, Go.Ev.ivs_cons ht (Go.Ev.ivs_cons hc (Go.Ev.ivs_cons ⟨by show (41 : Int) ≤ (xs.length : Int); omega, by show (xs.length : Int) ≤ _; omega⟩ (Go.Ev.ivs_nil rest))), fun f hf => ?_, fun i c h => by cases h⟩ (fun r => rfl) ha
    simp only [EB, List.mem_cons, List.not_mem_nil, or_false] at hf
    rcases hf with rfl | rfl
    · exact Go.Ev.fact_len rfl rfl
    · refine ⟨oa, xs.length, cap, 0, ((40 : Nat) : Int), rfl, rfl, rfl, Int.le_refl _, by omega, by omega, ?_⟩
      rw [sl 40 0]
      show some (Value.slice oa (xs.take 40).length cap) = _
      rw [e]
end
/-! ### what an argument holds -/
theorem lit64 {x : Int} (h : (Lit.int .i64 x).wf = true) : I64 x := by
  simpa [Lit.wf, IntKind.min, IntKind.max, IntKind.signed, IntKind.bits] using h
set_option maxRecDepth 100000 in
theorem ins_of {H : Type} {enc : TypeId × Value → H} {w : World} {base : Nat} {sp : Nat → Bool} {held : Bool} {fuel : Nat} {cs : List Value} {y : DataW H × List MemPlace} (h : DataW.trod enc Tryd.prog w base sp held fuel 34 cs = some y) :
    ∃ x : Ins, cs = [.int .i64 x.1, .int .i64 x.2.1, .int .i64 x.2.2] ∧ I64 x.1 ∧ I64 x.2.1 ∧ I64 x.2.2 := by
  obtain ⟨xs, n, rfl, hx, hl, hxl, hall⟩ := DataW.trod_struct Tryd.underlying34 h
  have hc3 : Tryd.prog.cellsOf 3 = 1 := by kernel_rfl
  have hc34 : Tryd.prog.cellsOf 34 = 3 := by kernel_rfl
  rw [hc34] at hl
  match cs, hl with
  | [a, b, c], _ =>
    have h0 : DataW.trod enc Tryd.prog w base sp held n 3 (([a, b, c].drop 0).take (Tryd.prog.cellsOf 3)) = xs[0]? := hall 0 _ rfl
    have h1 : DataW.trod enc Tryd.prog w base sp held n 3 (([a, b, c].drop 1).take (Tryd.prog.cellsOf 3)) = xs[1]? := hall 1 _ rfl
    have h2 : DataW.trod enc Tryd.prog w base sp held n 3 (([a, b, c].drop 2).take (Tryd.prog.cellsOf 3)) = xs[2]? := hall 2 _ rfl
    rw [hc3] at h0 h1 h2
    simp only [List.take_succ_cons, List.take_zero, List.drop_succ_cons, List.drop_zero] at h0 h1 h2
    have hlen : xs.length = 3 := hxl
    match xs, hlen with
    | [x0, x1, x2], _ =>
      simp only [List.getElem?_cons_zero, List.getElem?_cons_succ] at h0 h1 h2
      obtain ⟨a', e0, _, w0⟩ := DataW.trod_int Tryd.underlying3 h0
      obtain ⟨b', e1, _, w1⟩ := DataW.trod_int Tryd.underlying3 h1
      obtain ⟨c', e2, _, w2⟩ := DataW.trod_int Tryd.underlying3 h2
      simp only [List.cons.injEq, and_true] at e0 e1 e2
      subst e0 e1 e2
      exact ⟨(a', b', c'), rfl, lit64 w0, lit64 w1, lit64 w2⟩
theorem choose_ins {p : Nat → Ins → Prop} : ∀ {n : Nat}, (∀ i, i < n → ∃ x, p i x) → ∃ xs : List Ins, xs.length = n ∧ ∀ i x, xs[i]? = some x → p i x
  | 0, _ => ⟨[], rfl, fun i x h => by simp at h⟩
  | n + 1, h => by
    obtain ⟨xs, h1, h2⟩ := choose_ins (n := n) fun i hi => h i (by omega)
    obtain ⟨x, hx⟩ := h n (by omega)
    refine ⟨xs ++ [x], by simp [h1], fun i y hy => ?_⟩
    rw [List.getElem?_append] at hy
    split at hy
    · exact h2 i y hy
    · rename_i hi
      have : i = n := by
        have := (List.getElem?_eq_some_iff.1 hy).1
        simp at this
        omega
      subst this
      rw [h1] at hy
      simp at hy
      subst hy
      exact hx
set_option maxRecDepth 100000 in
theorem lst_of {H : Type} {enc : TypeId × Value → H} {w : World} {sp : Nat → Bool} {held : Bool} {r : Reach} {b0 : Nat} {v : Value} {d : DataW H} {ps : List MemPlace} (hval : Value.okWide Tryd.prog w r b0 22 v) (h : DataW.Trod enc Tryd.prog w 0 sp held 22 v d ps) :
    ∃ oa cap B O, ∃ xs : List Ins, v = .slice oa xs.length cap ∧ Lst w oa B O xs ∧ xs.length ≤ cap ∧ (xs.length : Int) ≤ 9223372036854775807 := by
  obtain ⟨a0, len, cap, rfl⟩ := okWide_slice Tryd.underlying22 hval
  obtain ⟨fuel, hf⟩ := h
  have hc34 : Tryd.prog.cellsOf 34 = 3 := by kernel_rfl
  rcases Go.Deep.open_slice Tryd.underlying22 hf with ⟨hcs, _⟩ | ⟨a, len', cap', m, n, D, Pl, hcs, _, hl, hm, hmm, _, hall⟩
  · simp only [Value.cells, List.cons.injEq, Value.slice.injEq, and_true] at hcs
    obtain ⟨rfl, rfl, rfl⟩ := hcs
    exact ⟨none, 0, 0, 0, [], rfl, ⟨fun i x hi => by simp at hi, fun x hx => by cases hx⟩, Nat.le_refl _, by simp⟩
  · simp only [Value.cells, List.cons.injEq, Value.slice.injEq, and_true] at hcs
    obtain ⟨rfl, rfl, rfl⟩ := hcs
    have hlm : len ≤ m := by rw [hmm]; split <;> omega
    rw [hc34] at hall
    have each : ∀ i, i < len → ∃ x : Ins, (w.cell? (a.add (i * 3)) = some (.int .i64 x.1) ∧ w.cell? ((a.add (i * 3)).add 1) = some (.int .i64 x.2.1) ∧ w.cell? ((a.add (i * 3)).add 2) = some (.int .i64 x.2.2)) ∧ I64 x.1 ∧ I64 x.2.1 ∧ I64 x.2.2 := by
      intro i hi
      obtain ⟨cs', h1, h2⟩ := hall i (by omega)
      obtain ⟨x, rfl, hx⟩ := ins_of h2
      obtain ⟨_, _, hcell⟩ := World.cells?_some h1
      refine ⟨x, ⟨?_, hcell 1 (by omega), hcell 2 (by omega)⟩, hx⟩
      have := hcell 0 (by omega)
      simpa [Addr.add] using this
    obtain ⟨xs, hx1, hx2⟩ := choose_ins each
    have hbig : (xs.length : Int) ≤ 9223372036854775807 := by
      have : cap ≤ maxLen := hm
      have e : maxLen ≤ 9223372036854775807 := by decide
      omega
    cases xs with
    | nil =>
      have : len = 0 := by simpa using hx1.symm
      subst this
      exact ⟨some a, cap, 0, 0, [], rfl, ⟨fun i x hi => by simp at hi, fun x hx => by cases hx⟩, hl, hbig⟩
    | cons x0 xs' =>
      have h00 := (hx2 0 x0 rfl).1.1
      obtain ⟨B, O, spot⟩ := a
      have hspot : spot = none := by simpa [Addr.add] using World.cell?_spot h00
      subst hspot
      refine ⟨some ⟨B, O, none⟩, cap, B, O, x0 :: xs', by rw [hx1], ⟨fun i x hi => ?_, fun x hx => ?_⟩, by omega, hbig⟩
      · obtain ⟨⟨g1, g2, g3⟩, _⟩ := hx2 i x hi
        rw [Addr.add_lit] at g1 g2 g3
        rw [Addr.add_lit] at g2 g3
        refine ⟨rfl, ?_, g1, g2, g3⟩
        unfold World.cell? at g1
        split at g1
        · rename_i he
          exact (Array.getElem?_eq_some_iff.1 he).1
        · cases g1
      · obtain ⟨i, hi⟩ := List.getElem?_of_mem hx
        exact (hx2 i x hi).2
theorem laid_met (W : World) (hL : laidMet Tryd.prog Rows.codeChecksRow.laid W) : Go.Ev.TabsOK tabs W :=
  Go.Ev.tabsOK_cons (Go.Ev.tab_of_reads (k := .u8) (zs := nums0) (Go.Lib.laidMet.reads hL (n := "math/bits.deBruijn32tab") (d := Rows.laid_math_bits_deBruijn32tab) (.head _)) (g := 1) (t := 109) (e := 5) (m := 32) (by kernel_rfl) (by kernel_rfl) (by kernel_rfl) (by kernel_rfl) (by kernel_rfl) (by kernel_rfl))
    (Go.Ev.tabsOK_cons (Go.Ev.tab_of_reads (k := .u8) (zs := nums1) (Go.Lib.laidMet.reads hL (n := "math/bits.deBruijn64tab") (d := Rows.laid_math_bits_deBruijn64tab) (.tail _ (.head _))) (g := 2) (t := 110) (e := 5) (m := 64) (by kernel_rfl) (by kernel_rfl) (by kernel_rfl) (by kernel_rfl) (by kernel_rfl) (by kernel_rfl))
    (Go.Ev.tabsOK_cons (Go.Ev.tab_of_reads (k := .u64) (zs := nums2) (Go.Lib.laidMet.reads hL (n := "internal/strconv.uint64pow10") (d := Rows.laid_internal_strconv_uint64pow10) (.tail _ (.tail _ (.head _)))) (g := 0) (t := 107) (e := 87) (m := 20) (by kernel_rfl) (by kernel_rfl) (by kernel_rfl) (by kernel_rfl) (by kernel_rfl) (by kernel_rfl))
    (Go.Ev.tabsOK_nil W)))
set_option maxRecDepth 100000 in
theorem lifted (os : Os) (started : os.Started) (H : Type) (enc : TypeId × Value → H) :
    ReturnsInHanded {} Tryd.checked os 3 .any (fun w args => (Rows.codeChecksSpec.pre enc Tryd.prog Tryd.f3 [] false w args ∧ laidMetH Tryd.prog Rows.codeChecksRow.laid w) ∧ sizedMet enc Tryd.prog Tryd.f3 (OpenSpec.ofChange Rows.codeChecksSpec) false w args)
      (Rows.codeChecksSpec.post enc Tryd.prog Tryd.f3 false true false false) := by
  refine returnsInHanded_of_change_and (C := Tryd.checked) (X := fun w _ => laidMetH Tryd.prog Rows.codeChecksRow.laid w) (fun _ _ _ hh h => h.of_heap hh) own started (by kernel_rfl) Tryd.func3
    (ChangeSpec.witness_shaped (enc := enc) (C := Tryd.checked) (os := os) (X := fun w _ => laidMetH Tryd.prog Rows.codeChecksRow.laid w) false (World.laidAll Tryd.prog os Rows.codeChecksRow.laid) #[.slice none 0 0, .int .i64 0, .int .i64 0] 8 (World.laidAll_os _ _ _)
      (World.shaped_of_ZipB (by kernel_rfl) (by kernel_rfl)) (by kernel_rfl) (by kernel_rfl) (by kernel_rfl)
      (by rw [MakeChecks.laidMetH_plain _ _ _ (by kernel_rfl)]; exact laidMet_laidAll _ (by kernel_rfl) (by kernel_rfl))) ?_
  intro W base args ds gs before hval0 hW _ _ hL _
  have hval : ∀ (j : Nat) t v, Tryd.f3.params[j]? = some t → args[j]? = some v → Value.okWide Tryd.prog W .any base t v := hval0
  have hW' := hW
  obtain ⟨p, q, hA0, hV, rfl, _, _⟩ := hW
  have hA : DataW.TrodAll enc Tryd.prog W 0 (fun _ => true) true Tryd.f3.params.toList args.toList ds p := hA0
  rw [Tryd.params3] at hA hval
  obtain ⟨v0, v1, v2, d0, d1, d2, p0, p1, p2, rfl, rfl, rfl, h0, h1, h2⟩ := trodAll_three hA
  obtain ⟨rfl, rfl⟩ := trodVars_none hV
  obtain ⟨t, rfl, rfl, rfl, wt⟩ := open_int Tryd.underlying3 (hval 1 3 v1 rfl rfl) h1
  obtain ⟨c, rfl, rfl, rfl, wc⟩ := open_int Tryd.underlying3 (hval 2 3 v2 rfl rfl) h2
  obtain ⟨oa, cap, B, O, xs, rfl, hxs, hcap, hn⟩ := lst_of (hval 0 22 v0 rfl rfl) h0
  have hlt : ∀ x ∈ p0, x.block < W.heap.size := fun x hx => by simpa using hW'.lt x (by simp [hx])
  simp only [List.append_nil] at hW'
  rw [MakeChecks.laidMetH_plain _ _ _ (by kernel_rfl)] at hL
  refine (law (laid_met W hL) hxs (lit64 wt) (lit64 wc) hn hcap).mono fun e W' ⟨he, hb⟩ => ?_
  subst he
  have hargs := Below.trod (by kernel_rfl) (by kernel_rfl) (of_decide_eq_true (by kernel_rfl)) h0 hb hlt
  exact ⟨_, rfl, _, _, _, [], p0 ++ ([] ++ []), [], hW', trodAll_mk1 (shut_bool Tryd.underlying4 _), trodAll_mk3 hargs (shut_int Tryd.underlying3 wt) (shut_int Tryd.underlying3 wc), rfl, hb.frame _, fun h => by cases h⟩
theorem over : Rows.codeChecksRow.holds Tryd.pinned (OpenSpec.ofChange Rows.codeChecksSpec) :=
  OpenClaim.holds_of_wide 3 Tryd.f3 rfl rfl rfl rfl rfl rfl rfl ⟨rfl, rfl, rfl, rfl, rfl⟩ rfl rfl rfl rfl rfl (by kernel_rfl) Tryd.func3 (by kernel_rfl)
    (of_decide_eq_true (by kernel_rfl)) (by unfold Func.isWrapper; first | (rw [if_pos (by decide +kernel)]; kernel_rfl) | (rw [if_neg (by decide +kernel)]; exact ⟨rfl, rfl⟩))
    (fun os started H enc _ => lifted os started H enc)
theorem checksProved : Rows.CodeChecksCardSaid :=
  Claim7.holds_tied_plain_at .later [] [.data, .data, .data] true (true, "7abd0002bc4a667ec958eb1064d949b687c8540c000e41d455896065a9830dfe") false over (fun _ h => by cases h) (by kernel_rfl) (fun _ h => by cases h) codeChecks_row_tie rfl ⟨rfl, rfl⟩ (by kernel_rfl) rfl
    (fun f fn hf hfn => by
      obtain rfl : f = 3 := Option.some.inj ((show Tryd.prog.funcNamed "trefoil/trefoillaw04.CodeChecks" = some 3 by kernel_rfl).symm.trans hf) |>.symm
      obtain rfl : fn = Tryd.f3 := (Option.some.inj (Tryd.func3.symm.trans hfn)).symm
      exact ⟨by kernel_rfl, fun j t ht => by
        rw [Tryd.params3] at ht
        have hm : t ∈ [22, 3, 3] := by simpa using Array.mem_of_getElem? ht
        have hall : ([22, 3, 3].all fun u => !Tryd.prog.wantsStandIn u) = true := by kernel_rfl
        exact (show Tryd.prog.wantsStandIn t = false by simpa using List.all_eq_true.1 hall t hm)⟩)
    (by kernel_rfl)
end Go.Proofs.YtgmdbpmookoafaaDoor.codes
