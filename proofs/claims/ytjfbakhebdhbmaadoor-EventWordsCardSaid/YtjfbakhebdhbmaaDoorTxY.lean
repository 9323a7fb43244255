/-
  An event as it comes; how long a text is.
-/
import Derived.Test.YtjfbakhebdhbmaaDoorTxR
namespace Go.Proofs.YtjfbakhebdhbmaaDoor.event
open Go.Ev Go.RowKit
set_option linter.unusedVariables false
noncomputable section
/-! ### how long a text is -/
section
variable {w : World} {g : EvG}
def pcSz : VV → Nat
  | .string s => s.size
  | _ => 6000
def sumSz : List VV → Nat
  | [] => 0
  | p :: l => pcSz p + sumSz l
def szOK : Leaf → Bool
  | .ret (.cat ps) => match arePc ps with
    | true => Nat.ble (sumSz ps) 100000
    | false => false
  | _ => false
theorem bstr_size (l : List UInt8) : (bstr l).size = l.length := List.size_toArray
theorem pc_sz (h : g.OK w) : ∀ {p : VV}, isPc p = true → ∃ b, pieceS (erho g 0 [] 0) p = some b ∧ b.size ≤ pcSz p := by
  intro p hp
  unfold isPc at hp
  split at hp
  · exact ⟨_, rfl, Nat.le_refl _⟩
  · rename_i k
    have := lowMem_ok hp
    simp only [List.mem_cons, List.not_mem_nil, or_false] at this
    have it : ∀ {n : Int}, I64 n → (bstr (Go.Lib.itoa n)).size ≤ 6000 := fun hn => by
      have := itoa_len hn
      rw [bstr_size]
      omega
    rcases this with rfl | rfl | rfl | rfl | rfl | rfl | rfl | rfl | rfl | rfl | rfl | rfl | rfl | rfl
    · exact ⟨_, rfl, it h.fa⟩
    · exact ⟨_, rfl, it h.fb⟩
    · exact ⟨_, rfl, it h.fn⟩
    · exact ⟨_, rfl, it h.fm⟩
    · exact ⟨_, rfl, it h.f6⟩
    · exact ⟨_, rfl, it h.f7⟩
    · exact ⟨_, rfl, it h.f8⟩
    · exact ⟨_, rfl, it h.f9⟩
    · exact ⟨_, rfl, it h.f10⟩
    · exact ⟨_, rfl, it (h.ft 0).1⟩
    · exact ⟨_, rfl, it (h.ft 0).2⟩
    · exact ⟨_, rfl, it (h.ft 1).1⟩
    · exact ⟨_, rfl, it (h.ft 1).2⟩
    · exact ⟨_, rfl, by rw [bstr_size]; exact (permB_len h).2⟩
  · cases hp
theorem txt_sz (h : g.OK w) : ∀ {l : List VV}, arePc l = true → ∃ b, textS (erho g 0 [] 0) l = some b ∧ b.size ≤ sumSz l
  | [], _ => ⟨_, rfl, Nat.le_refl _⟩
  | p :: l, hp => by
    simp only [arePc] at hp
    split at hp
    · rename_i h1
      obtain ⟨b1, e1, s1⟩ := pc_sz h h1
      obtain ⟨b2, e2, s2⟩ := txt_sz h hp
      refine ⟨_, textS_cons e1 e2, ?_⟩
      rw [ByteArray.size_append]
      simp only [sumSz]
      omega
    · cases hp
theorem sz_all : allP (fun k => allL szOK (tT (k : Int))) 30 = true := by kernel_rfl
theorem txtB_size (h : g.OK w) : (txtB g).size ≤ 100000 := by
  unfold txtB
  by_cases hz : chk g = 0
  · rw [if_pos hz]
    have G := good_of h hz
    have h1 := G.k1
    have h2 := G.k2
    have hs := allP_ok sz_all g.k.toNat (by omega)
    have e : ((g.k.toNat : Nat) : Int) = g.k := by omega
    rw [e] at hs
    have ho := allL_ok (v := eint g 0 [] 0) hs
    generalize valX (tT g.k) (eint g 0 [] 0) = o at ho
    unfold szOK at ho
    split at ho
    · rename_i ps
      split at ho
      · rename_i h3
        obtain ⟨b, e1, e2⟩ := txt_sz h h3
        have := Nat.le_of_ble_eq_true ho
        simp only [bytesOf, e1]
        omega
      · cases ho
    · cases ho
  · rw [if_neg hz]
    decide
end
/-- The event as it comes: its lists may be longer. -/
structure Raw (g : EvG) (la lt : Nat) : Prop where
  hl : g.l.length = min la 260
  ht : g.t.length = min lt 4
  ca : la ≤ g.ca
  cb : lt ≤ g.cb
  ba : (la : Int) ≤ 9223372036854775807
  bb : (lt : Int) ≤ 9223372036854775807
def EvG.raw (g : EvG) (la lt : Nat) : Value := .agg #[.int .i64 g.k, .int .i64 g.a, .int .i64 g.b, .int .i64 g.n, .int .i64 g.m, .slice g.oa la g.ca, .int .i64 g.i5, .int .i64 g.i6, .int .i64 g.i7, .int .i64 g.i8, .int .i64 g.i9, .int .i64 g.i10, .slice g.ob lt g.cb]
theorem fact_min {ρ : Rho} {a b : Nat} {c : Int} (h : ρ.int b = if c < ρ.int a then c else ρ.int a) : FactOK ρ (.fn .min [si a, .int .i64 c] (si b)) :=
  ⟨[.int .i64 (ρ.int a), .int .i64 c], .int .i64 (ρ.int b), rfl, rfl, by show Value.int .i64 (ρ.int b) = _; rw [h]⟩
end
end Go.Proofs.YtjfbakhebdhbmaaDoor.event
