/-
  'EventChecks' over known calls.
-/
import Derived.Test.YtjfbakhebdhbmaaDoorTxR
namespace Go.Proofs.YtjfbakhebdhbmaaDoor.event
open Go.Ev Go.RowKit
set_option linter.unusedVariables false
noncomputable section
/-! ### how long a text is -/
section
variable {w : World} {g : EvG}
def pcSz : VV → Nat
  | .string s => s.size
  | _ => 6000
def sumSz : List VV → Nat
  | [] => 0
  | p :: l => pcSz p + sumSz l
def szOK : Leaf → Bool
  | .ret (.cat ps) => match arePc ps with
    | true => Nat.ble (sumSz ps) 100000
    | false => false
  | _ => false
theorem bstr_size (l : List UInt8) : (bstr l).size = l.length := List.size_toArray
theorem pc_sz (h : g.OK w) : ∀ {p : VV}, isPc p = true → ∃ b, pieceS (erho g 0 [] 0) p = some b ∧ b.size ≤ pcSz p := by
  intro p hp
  unfold isPc at hp
  split at hp
  · exact ⟨_, rfl, Nat.le_refl _⟩
  · rename_i k
    have := lowMem_ok hp
    simp only [List.mem_cons, List.not_mem_nil, or_false] at this
    have it : ∀ {n : Int}, I64 n → (bstr (Go.Lib.itoa n)).size ≤ 6000 := fun hn => by
      have := itoa_len hn
      rw [bstr_size]
      omega
    rcases this with rfl | rfl | rfl | rfl | rfl | rfl | rfl | rfl | rfl | rfl | rfl | rfl | rfl | rfl
    · exact ⟨_, rfl, it h.fa⟩
    · exact ⟨_, rfl, it h.fb⟩
    · exact ⟨_, rfl, it h.fn⟩
    · exact ⟨_, rfl, it h.fm⟩
    · exact ⟨_, rfl, it h.f6⟩
    · exact ⟨_, rfl, it h.f7⟩
    · exact ⟨_, rfl, it h.f8⟩
    · exact ⟨_, rfl, it h.f9⟩
    · exact ⟨_, rfl, it h.f10⟩
    · exact ⟨_, rfl, it (h.ft 0).1⟩
    · exact ⟨_, rfl, it (h.ft 0).2⟩
    · exact ⟨_, rfl, it (h.ft 1).1⟩
    · exact ⟨_, rfl, it (h.ft 1).2⟩
    · exact ⟨_, rfl, by rw [bstr_size]; exact (permB_len h).2⟩
  · cases hp
theorem txt_sz (h : g.OK w) : ∀ {l : List VV}, arePc l = true → ∃ b, textS (erho g 0 [] 0) l = some b ∧ b.size ≤ sumSz l
  | [], _ => ⟨_, rfl, Nat.le_refl _⟩
  | p :: l, hp => by
    simp only [arePc] at hp
    split at hp
    · rename_i h1
      obtain ⟨b1, e1, s1⟩ := pc_sz h h1
      obtain ⟨b2, e2, s2⟩ := txt_sz h hp
      refine ⟨_, textS_cons e1 e2, ?_⟩
      rw [ByteArray.size_append]
      simp only [sumSz]
      omega
    · cases hp
theorem sz_all : allP (fun k => allL szOK (tT (k : Int))) 30 = true := by kernel_rfl
theorem txtB_size (h : g.OK w) : (txtB g).size ≤ 100000 := by
  unfold txtB
  by_cases hz : chk g = 0
  · rw [if_pos hz]
    have G := good_of h hz
    have h1 := G.k1
    have h2 := G.k2
    have hs := allP_ok sz_all g.k.toNat (by omega)
    have e : ((g.k.toNat : Nat) : Int) = g.k := by omega
    rw [e] at hs
    have ho := allL_ok (v := eint g 0 [] 0) hs
    generalize valX (tT g.k) (eint g 0 [] 0) = o at ho
    unfold szOK at ho
    split at ho
    · rename_i ps
      split at ho
      · rename_i h3
        obtain ⟨b, e1, e2⟩ := txt_sz h h3
        have := Nat.le_of_ble_eq_true ho
        simp only [bytesOf, e1]
        omega
      · cases ho
    · cases ho
  · rw [if_neg hz]
    decide
end
def rawV : VV := .agg [si 24, si 1, si 2, si 3, si 4, .sym 70, si 5, si 6, si 7, si 8, si 9, si 10, .sym 72]
def rawF : List Fact := [.len false (.sym 70) (si 71), .len false (.sym 72) (si 73), .fn .min [si 71, .int .i64 260] (si 12), .fn .min [si 73, .int .i64 4] (si 13), .cut 1 (.sym 70) none (some (si 12)) (.sym 0), .cut 2 (.sym 72) none (some (si 13)) (.sym 11), .len true (.sym 54) (si 55)]
def mx : Int := 9223372036854775807
def mn : Int := -9223372036854775808
def rawIv : Ivs := [(mn, mx), (mn, mx), (mn, mx), (mn, mx), (mn, mx), (mn, mx), (mn, mx), (mn, mx), (mn, mx), (mn, mx), (mn, mx), (mn, mx), (0, 260), (0, 4)]
def rawE : Env := ⟨fun _ => none, ivAt rawIv, rawF, fun _ => none⟩
def rawKT : List KE := [⟨9, [evV (si 24)], [], si 25⟩, ⟨10, [evV (si 24)], [], si 25⟩, ⟨11, [evV (si 24)], [], .sym 54⟩, ⟨12, [evV (si 24)], [], .sym 54⟩, ⟨13, [], [], .bool true⟩]
def lawB : Bool := match runE Tryd.prog (knL rawKT) 2000 3 [rawV] rawE with
  | some (.bool true, _) => true
  | _ => false
theorem law_ran : lawB = true := by kernel_rfl
theorem law_res : ∃ H, runE Tryd.prog (knL rawKT) 2000 3 [rawV] rawE = some (.bool true, H) := by
  have h := law_ran
  unfold lawB at h
  split at h
  · rename_i H hr
    exact ⟨H, hr⟩
  · cases h
/-- The event as it comes: its lists may be longer. -/
structure Raw (g : EvG) (la lt : Nat) : Prop where
  hl : g.l.length = min la 260
  ht : g.t.length = min lt 4
  ca : la ≤ g.ca
  cb : lt ≤ g.cb
  ba : (la : Int) ≤ 9223372036854775807
  bb : (lt : Int) ≤ 9223372036854775807
def EvG.raw (g : EvG) (la lt : Nat) : Value := .agg #[.int .i64 g.k, .int .i64 g.a, .int .i64 g.b, .int .i64 g.n, .int .i64 g.m, .slice g.oa la g.ca, .int .i64 g.i5, .int .i64 g.i6, .int .i64 g.i7, .int .i64 g.i8, .int .i64 g.i9, .int .i64 g.i10, .slice g.ob lt g.cb]
section
variable {w : World} {g : EvG} {la lt : Nat}
def qint (g : EvG) (la lt : Nat) : Nat → Int := fun k => match k with
  | 71 => (la : Int)
  | 73 => (lt : Int)
  | 55 => ((txtB g).size : Int)
  | k => eint g (chk g) [] 0 k
def qvv (g : EvG) (la lt : Nat) : Nat → Value := fun k => match k with
  | 54 => .string (txtB g)
  | 70 => .slice g.oa la g.ca
  | 72 => .slice g.ob lt g.cb
  | k => evv g (chk g) [] 0 k
theorem qvv_one (j : Nat) : (qvv g la lt j).oneCell' = true := by
  unfold qvv
  split
  · rfl
  · rfl
  · rfl
  · exact evv_one _
def qrho (g : EvG) (la lt : Nat) : Rho := ⟨qint g la lt, qvv g la lt, fun _ => 0, fun _ => 0, qvv_one, fun _ => [], fun _ _ h => by cases h⟩
theorem raw_iv (h : g.OK w) (hr : Raw g la lt) : IvOK rawIv (qrho g la lt) := by
  have hc := (checks h).2.2
  have f := eint_fits (c := chk g) (s := []) (i := 0) h hc (by decide) (by omega)
  have q : ∀ k, I64 (qint g la lt k) := fun k => by
    unfold qint
    split
    · exact ⟨by omega, hr.ba⟩
    · exact ⟨by omega, hr.bb⟩
    · have := txtB_size h
      exact ⟨by omega, by omega⟩
    · exact f _
  have hl := hr.hl
  have ht := hr.ht
  exact iv_all (f := qint g la lt) ⟨q 0, q 1, q 2, q 3, q 4, q 5, q 6, q 7, q 8, q 9, q 10, q 11, ⟨by show (0 : Int) ≤ (g.l.length : Int); omega, by show (g.l.length : Int) ≤ (260 : Int); omega⟩, ⟨by show (0 : Int) ≤ (g.t.length : Int); omega, by show (g.t.length : Int) ≤ (4 : Int); omega⟩, trivial⟩ q
theorem fact_min {ρ : Rho} {a b : Nat} {c : Int} (h : ρ.int b = if c < ρ.int a then c else ρ.int a) : FactOK ρ (.fn .min [si a, .int .i64 c] (si b)) :=
  ⟨[.int .i64 (ρ.int a), .int .i64 c], .int .i64 (ρ.int b), rfl, rfl, by show Value.int .i64 (ρ.int b) = _; rw [h]⟩
theorem raw_fs (hr : Raw g la lt) : FsOK rawF (qrho g la lt) := by
  have hl := hr.hl
  have ht := hr.ht
  have hca := hr.ca
  have hcb := hr.cb
  refine fs_cons (fact_len rfl rfl) (fs_cons (fact_len rfl rfl) (fs_cons (fact_min ?_) (fs_cons (fact_min ?_) (fs_cons ?_ (fs_cons ?_ (fs_cons ⟨.string (txtB g), (txtB g).size, rfl, ⟨_, rfl, rfl⟩, rfl⟩ fs_nil))))))
  · show (g.l.length : Int) = if (260 : Int) < (la : Int) then 260 else (la : Int)
    split <;> omega
  · show (g.t.length : Int) = if (4 : Int) < (lt : Int) then 4 else (lt : Int)
    split <;> omega
  · exact fact_cut (a := g.oa) (l := la) (c := g.ca) (m := g.l.length) (k := .i64) rfl rfl (by omega) rfl
  · exact fact_cut (a := g.ob) (l := lt) (c := g.cb) (m := g.t.length) (k := .i64) rfl rfl (by omega) rfl
theorem ev_ofQ {φ : Phi} {vs : List Value} (hφ : φ.ρ = qrho g la lt) (hv : VRs φ [evV (si 24)] vs) : vs = [g.val] := by
  simp only [VRs, VR, evV, si, hφ] at hv
  obtain ⟨_, _, rfl, ⟨_, ⟨_, _, rfl, rfl, _, _, rfl, rfl, _, _, rfl, rfl, _, _, rfl, rfl, _, _, rfl, rfl, _, _, rfl, rfl, _, _, rfl, rfl, _, _, rfl, rfl, _, _, rfl, rfl, _, _, rfl, rfl, _, _, rfl, rfl, _, _, rfl, rfl, _, _, rfl, rfl, rfl⟩, rfl⟩, rfl⟩ := hv
  rfl
theorem raw_ext (hT : TabsOK tabs w) (h : g.OK w) : ∀ e ∈ rawKT, KEok Tryd.prog (qrho g la lt) w e := by
  intro e he
  simp only [rawKT, List.mem_cons, List.not_mem_nil, or_false] at he
  rcases he with rfl | rfl | rfl | rfl | rfl
  · intro φ vs w' hφ h1 h2 hv _
    rw [ev_ofQ hφ hv]
    refine (checks (h.later h1 h2)).1.mono ?_
    rintro en w'' ⟨rfl, hb⟩
    exact ⟨_, rfl, by simp only [VR, si, hφ]; rfl, hb⟩
  · intro φ vs w' hφ h1 h2 hv _
    rw [ev_ofQ hφ hv]
    refine (checks (h.later h1 h2)).2.1.mono ?_
    rintro en w'' ⟨rfl, hb⟩
    exact ⟨_, rfl, by simp only [VR, si, hφ]; rfl, hb⟩
  · intro φ vs w' hφ h1 h2 hv _
    rw [ev_ofQ hφ hv]
    refine (texts (itoaOK (hT.of_old h2)) (h.later h1 h2)).1.mono ?_
    rintro en w'' ⟨rfl, hb⟩
    exact ⟨_, rfl, by simp only [VR, hφ]; rfl, hb⟩
  · intro φ vs w' hφ h1 h2 hv _
    rw [ev_ofQ hφ hv]
    refine (texts (itoaOK (hT.of_old h2)) (h.later h1 h2)).2.mono ?_
    rintro en w'' ⟨rfl, hb⟩
    exact ⟨_, rfl, by simp only [VR, hφ]; rfl, hb⟩
  · intro φ vs w' hφ h1 h2 hv _
    simp only [VRs] at hv
    subst hv
    refine (rows.works w' (hT.of_old h2)).mono ?_
    rintro en w'' ⟨rfl, hb⟩
    exact ⟨_, rfl, by simp only [VR], hb⟩
theorem raw_args : VRs ⟨fun _ => none, qrho g la lt⟩ [rawV] [g.raw la lt] := by
  simp only [VRs, VR, rawV, si]
  refine ⟨_, [], rfl, ⟨[.int .i64 g.k, .int .i64 g.a, .int .i64 g.b, .int .i64 g.n, .int .i64 g.m, .slice g.oa la g.ca, .int .i64 g.i5, .int .i64 g.i6, .int .i64 g.i7, .int .i64 g.i8, .int .i64 g.i9, .int .i64 g.i10, .slice g.ob lt g.cb], ?_, rfl⟩, rfl⟩
  exact ⟨_, _, rfl, rfl, _, _, rfl, rfl, _, _, rfl, rfl, _, _, rfl, rfl, _, _, rfl, rfl, _, _, rfl, rfl, _, _, rfl, rfl, _, _, rfl, rfl, _, _, rfl, rfl, _, _, rfl, rfl, _, _, rfl, rfl, _, _, rfl, rfl, _, _, rfl, rfl, rfl⟩
theorem lawC (hT : TabsOK tabs w) (h : g.OK w) (hr : Raw g la lt) : Calls Tryd.prog 3 #[g.raw la lt] w fun e w' => e = .returned (.bool true) ∧ Below w.heap.size w w' := by
  obtain ⟨H, h1⟩ := law_res
  letI : Ext := extKT Tryd.prog rawKT
  refine (runE_calls (noNG_of noNG) mixed (knL_ok fun ρ w h => h) h1 (ρ := qrho g la lt) ⟨raw_ext hT h, raw_iv h hr, raw_fs hr, (fun i c h => by cases h)⟩ (fun r b h => by cases h) raw_args).mono ?_
  rintro e w' ⟨v', φ', rfl, hφ, hv, hb⟩
  simp only [VR] at hv
  subst hv
  exact ⟨rfl, hb⟩
end
end
end Go.Proofs.YtjfbakhebdhbmaaDoor.event
