/-
  The law CardGreater: what the kernel runs.
-/
import Derived.Test.YtgbpkilegbechaaTxA
import Derived.Test.YtgbpkilegbechaaEvQe
namespace Go.Proofs.Ytgbpkilegbechaa.greater
open Go.Ev Go.RowKit
set_option linter.unusedVariables false
noncomputable section
def i8 (n : Int) : VV := .int .i64 n
def s8 (i : Nat) : VV := .sint .u8 i
def grbody : Code := match Try.f5.body with | some c => c | none => .skip
/-! ### a round of the first loop -/
/-- The number of a cell. -/
def aI (k j : Nat) : Nat := 1000 + 13 * k + j
/-- An ability's cells. -/
def abVV (k : Nat) (tap tg cd : VV) : List VV := [si (aI k 0), si (aI k 1), si (aI k 2), si (aI k 3), si (aI k 4), si (aI k 5), si (aI k 6), tap, tg, cd, si (aI k 10), si (aI k 11), si (aI k 12)]
def abV (k : Nat) : List VV := abVV k (.sym (aI k 7)) (.sym (aI k 8)) (.sym (aI k 9))
def absV : Nat → List VV
  | 0 => []
  | k + 1 => absV k ++ abV k
/-- A variant: as it comes, a sign, lists of so many. -/
structure Va where
  tap : Option Bool
  tg : Option Nat
  cd : Option Nat
def tapVV (k : Nat) (v : Va) : VV := match v.tap with | some b => .bool b | none => .sym (aI k 7)
def lsVV (s : Nat) (c : Nat) : Nat → VV
  | 0 => .slice none 0 0
  | n + 1 => .slice (some ⟨.sym s, 0⟩) (n + 1) c
def tgVV (k : Nat) (v : Va) (c : Nat) : VV := match v.tg with | some n => lsVV 91 c n | none => .sym (aI k 8)
def cdVV (k : Nat) (v : Va) (c : Nat) : VV := match v.cd with | some n => lsVV 92 c n | none => .sym (aI k 9)
def lastV (k : Nat) (v : Va) (c : Nat) : List VV := abVV k (tapVV k v) (tgVV k v c) (cdVV k v c)
def intsV : Nat → Nat → List VV
  | 0, _ => []
  | n + 1, k => si k :: intsV n (k + 1)
def hdV : List VV := .sym 0 :: intsV 9 1
/-- The list of abilities, as it comes: how many; if none: is it there? -/
def alV (n : Nat) (e : Bool) (c : Nat) : VV := match n, e with
  | 0, false => .slice none 0 0
  | 0, true => .sliceE
  | n + 1, _ => .slice (some ⟨.sym 90, 0⟩) (n + 1) c
def grB (n : Nat) (v : Va) (c2 : Nat) (i : Nat) : Option (List VV) := match i with
  | 4 => some [s8 30, s8 31, s8 32]
  | 5 => some [si 40, si 41, si 42]
  | 90 => match n with
    | 0 => none
    | k + 1 => some (absV k ++ lastV k v c2)
  | 91 => match v.tg with
    | some (t + 1) => some (intsV (t + 1) 500)
    | _ => none
  | 92 => match v.cd with
    | some (t + 1) => some (intsV (3 * (t + 1)) 600)
    | _ => none
  | _ => none
def grE (i n f : Nat) (v : Va) (c2 : Nat) : Env := ⟨fun _ => none, ivAt [], [.bin .rem (s8 (30 + i)) (.int .u8 30) (.int .u8 (f : Int))], grB n v c2⟩
def grT (i : Nat) (t7 : VV) : List (Nat × VV) := [(4, .ptr (some ⟨.sym 4, 0⟩)), (5, .ptr (some ⟨.sym 5, 0⟩)), (7, t7), (8, i8 i)]
def grrun (i n f : Nat) (e : Bool) (v : Va) (c c2 : Nat) : Option SegO := match ctx 0 grbody 0 [] with
  | some (b, K) => seg (rcK Try.prog []) Try.f5.ntmps [0] 1000 b 1 (.lp b 0 :: K) (mkT Try.f5.ntmps (grT i (.ptr (some ⟨.loc 0, 0⟩)))) ⟨grE i n f v c2, .nd .lf (some (.cells (hdV ++ [alV n e c]) none 0 none)) .lf, 1⟩
  | none => none
/-! ### what a card may be, as it is found -/
def intB : VV → Bool
  | .sint .i64 _ => true
  | .int .i64 z => match decide (-9223372036854775808 ≤ z) with
    | true => decide (z ≤ 9223372036854775807)
    | false => false
  | _ => false
def intsB : List VV → Bool
  | [] => true
  | x :: l => match intB x with
    | true => intsB l
    | false => false
/-- A cell of the abilities that came. -/
def symB (n j m : Nat) : Bool := match Nat.ble 1000 m, Nat.beq ((m - 1000) % 13) j with
  | true, true => Nat.blt ((m - 1000) / 13) n
  | _, _ => false
def tapB (n : Nat) : VV → Bool
  | .bool _ => true
  | .sym m => symB n 7 m
  | _ => false
def lsB (H : VH) (zi sz bd n j : Nat) : VV → Bool
  | .slice none 0 0 => true
  | .sym m => symB n j m
  | .slice (some ⟨.loc b, 0⟩) (t + 1) _ => match Nat.beq b zi, Nat.ble (t + 1) bd, H.locs.get b with
    | false, true, some (.cells l _ _ _) => match Nat.beq l.length (sz * (t + 1)) with
      | true => intsB l
      | false => false
    | _, _, _ => false
  | _ => false
def abB (H : VH) (zi i n : Nat) : List VV → Bool
  | [a0, a1, a2, a3, a4, a5, a6, tp, tg, cd, b0, b1, b2] => match intsB [a0, a1, a2, a3, a4, a5, a6, b0, b1, b2], tapB n tp, lsB H zi 1 (1 + i) n 8 tg with
    | true, true, true => lsB H zi 3 (2 + i) n 9 cd
    | _, _, _ => false
  | _ => false
def absB (H : VH) (zi i n : Nat) : Nat → List VV → Bool
  | 0, _ => true
  | k + 1, l => match abB H zi i n (l.take 13) with
    | true => absB H zi i n k (l.drop 13)
    | false => false
def alB (H : VH) (zi i n : Nat) : VV → Bool
  | .slice none 0 0 => true
  | .sliceE => true
  | .slice (some ⟨.loc b, 0⟩) 0 _ => true
  | .slice (some ⟨.loc b, 0⟩) (m + 1) c => match Nat.beq b zi, Nat.ble (m + 1) (2 + i), Nat.ble (m + 1) c, H.locs.get b with
    | false, true, true, some (.cells l _ _ _) => match Nat.ble (13 * (m + 1)) l.length with
      | true => absB H zi i n (m + 1) l
      | false => false
    | _, _, _, _ => false
  | _ => false
def nameB : VV → Bool
  | .sym 0 => true
  | .string s => Nat.ble s.size 17
  | _ => false
def cdB (H : VH) (zi i n : Nat) : List VV → Bool
  | [nm, a1, a2, a3, a4, a5, a6, a7, a8, a9, al] => match nameB nm, intsB [a1, a2, a3, a4, a5, a6, a7, a8, a9] with
    | true, true => alB H zi i n al
    | _, _ => false
  | _ => false
def grok (i n : Nat) : Option SegO → Bool
  | some (.cut 0 a H) => match keepL a (grT (i + 1) (.ptr (some ⟨.loc 0, 0⟩))), H.locs.get 0 with
    | true, some (.cells c none 0 _) => cdB H 0 (i + 1) n c
    | _, _ => false
  | _ => false
def vas (i f : Nat) : List Va := match f with
  | 14 => [⟨some true, none, none⟩, ⟨some false, none, none⟩]
  | 15 => (List.range (2 + i)).map fun t => ⟨none, some t, none⟩
  | 17 => (List.range (3 + i)).map fun t => ⟨none, none, some t⟩
  | _ => [⟨none, none, none⟩]
def allL' {α : Type} (p : α → Bool) : List α → Bool
  | [] => true
  | x :: l => match p x with
    | true => allL' p l
    | false => false
def esOf : Nat → List Bool
  | 0 => [false, true]
  | _ + 1 => [false]
def grall1 (c c2 i n : Nat) : Bool := allL' (fun e => allL' (fun f => allL' (fun v => grok i n (grrun i n f e v c c2)) (vas i f)) (List.range 24)) (esOf n)
/-- A field that is none. -/
def grskip (i f : Nat) : Option SegO := match ctx 0 grbody 0 [] with
  | some (b, K) => seg (rcK Try.prog []) Try.f5.ntmps [0] 1000 b 1 (.lp b 0 :: K) (mkT Try.f5.ntmps (grT i (.ptr (some ⟨.sym 7, 0⟩)))) ⟨grE i 0 f ⟨none, none, none⟩ 0, .lf, 0⟩
  | none => none
def grsk (i f : Nat) : Bool := match grskip i f with
  | some (.cut 0 a H) => keepL a (grT (i + 1) (.ptr (some ⟨.sym 7, 0⟩)))
  | _ => false
def grskall : Bool := allL' (fun i => allL' (fun f => grsk i (24 + f)) (List.range 6)) (List.range 3)
/-! ### from the entry on -/
def grent (r : Nat) : Option SegO := seg (rcK Try.prog []) Try.f5.ntmps [0] 1000 grbody 0 [] (listT [s8 10, .agg [s8 30, s8 31, s8 32], .agg [si 40, si 41, si 42]] 0 .lf) ⟨⟨fun _ => none, ivAt [], [.bin .rem (s8 10) (.int .u8 4) (.int .u8 (r : Int))], fun _ => none⟩, .lf, 0⟩
def bxB (H : VH) (l : List VV) : VV → Bool
  | .ptr (some ⟨.loc b, 0⟩) => match H.locs.get b with
    | some (.cells c _ _ _) => vvsEq c l
    | _ => false
  | _ => false
def grentB : Option SegO → Bool
  | some (.cut 0 a H) => match vvEq (tget a 8) (i8 0), bxB H [s8 30, s8 31, s8 32] (tget a 4), bxB H [si 40, si 41, si 42] (tget a 5), tget a 7 with
    | true, true, true, .ptr (some ⟨.loc b, 0⟩) => match H.locs.get b with
      | some (.cells c none 0 _) => cdB H b 0 0 c
      | _ => false
    | _, _, _, _ => false
  | _ => false
/-! ### behind the first loop -/
def cdA (al : VV) : VV := .agg (hdV ++ [al])
def ke8 (al : VV) (k : Int) (r : VV) : KE := ⟨8, [cdA al, i8 k], [], r⟩
def finK (n : Nat) (e1 e2 e21 e40 : VV) : List KE := [ke8 (.sym 1) 1 e1, ke8 (.sym 1) 2 e2, ke8 (.sym 1) 21 e21, ke8 (.sym 1) 40 e40, ke8 (.slice none 0 0) 1 (i8 0), ⟨10, [], [], .bool true⟩] ++ (List.range n).map fun j => ke8 (.sym (50 + j)) 1 (i8 0)
def finS (e1 e2 e21 e40 : VV) : List KE := [ke8 (.sym 1) 1 e1, ke8 (.sym 1) 2 e2, ke8 (.sym 1) 21 e21, ke8 (.sym 1) 40 e40, ⟨10, [], [], .bool true⟩]
def finF (n : Nat) (b : Bool) : List Fact := [.len false (.sym 1) (i8 n), .bin .eql (si 1) (i8 3) (.bool b)] ++ (List.range n).map fun j => .cut 13 (.sym 1) (some (i8 j)) (some (i8 ((j : Int) + 1))) (.sym (50 + j))
def finB (i : Nat) : Option (List VV) := match i with
  | 7 => some (hdV ++ [.sym 1])
  | _ => none
def fin (K : List KE) (F : List Fact) : Option SegO := match ctx 0 grbody 0 [] with
  | some (b, K') => seg (rcK Try.prog K) Try.f5.ntmps [] 1000 b 1 (.lp b 0 :: K') (mkT Try.f5.ntmps (grT 3 (.ptr (some ⟨.sym 7, 0⟩)))) ⟨⟨fun _ => none, ivAt [], F, finB⟩, .lf, 0⟩
  | none => none
def finC (o : Option SegO) : Bool := match o with
  | some (.out .ret a H) => match resL Try.prog a H Try.f5.results.toList with
    | some [.bool true] => true
    | _ => false
  | _ => false
/-- It may be, and is no spell; it is a spell; it is too long; it may not be. -/
def fin0 (n : Nat) : Bool := finC (fin (finK n (i8 0) (i8 0) (i8 0) (i8 0)) (finF n false))
def fin1 : Bool := finC (fin (finS (i8 0) (i8 0) (i8 0) (i8 0)) [.bin .eql (si 1) (i8 3) (.bool true)])
def fin3 : Bool := finC (fin (finS (i8 3) (i8 3) (i8 3) (i8 3)) [])
def fin10 : Bool := finC (fin (finS (i8 10) (si 41) (si 42) (si 43)) [])
theorem ran10 : runV Try.prog 20000 10 = true := by kernel_rfl
theorem walk10 (w : World) : Calls Try.prog 10 #[] w fun e w' => e = .returned (.bool true) ∧ Below w.heap.size w w' := runV_calls (noNG_of noNG) mixed ran10 w
theorem finT : allL' id [fin0 0, fin0 1, fin0 2, fin0 3, fin0 4, fin0 5, fin1, fin3, fin10, grskall, grentB (grent 0), grentB (grent 1), grentB (grent 2), grentB (grent 3)] = true := by kernel_rfl
theorem allL'_at {α : Type} {p : α → Bool} : ∀ {l : List α}, allL' p l = true → ∀ x ∈ l, p x = true
  | [], _, x, hx => by cases hx
  | y :: l, h, x, hx => by
    simp only [allL'] at h
    split at h
    · rename_i h1
      rcases List.mem_cons.1 hx with rfl | hx
      · exact h1
      · exact allL'_at h x hx
    · cases h
theorem finT_at {b : Bool} (h : b ∈ [fin0 0, fin0 1, fin0 2, fin0 3, fin0 4, fin0 5, fin1, fin3, fin10, grskall, grentB (grent 0), grentB (grent 1), grentB (grent 2), grentB (grent 3)]) : b = true := allL'_at finT b h
end
end Go.Proofs.Ytgbpkilegbechaa.greater
