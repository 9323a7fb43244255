/-
  Events: plain laws on texts: their blanks, their words.
-/
import Derived.Test.YtjfbakhebdhbmaaDoorTxX
namespace Go.Proofs.YtjfbakhebdhbmaaDoor.event
open Go.Ev Go.RowKit Go.Lib
set_option linter.unusedVariables false
noncomputable section
/-- No line feed, no blank in front, none behind another one. -/
def scan : Bool → List UInt8 → Option Bool
  | b, [] => some b
  | b, c :: l => match Nat.beq c.toNat 10, Nat.beq c.toNat 32, b with
    | true, _, _ => none
    | false, true, true => none
    | false, true, false => scan true l
    | false, false, _ => scan false l
theorem beq10 {c : UInt8} {n : Nat} (hn : n < 256) : Nat.beq c.toNat n = true ↔ c = UInt8.ofNat n := by
  constructor
  · intro h
    have := Nat.eq_of_beq_eq_true h
    rw [← this, UInt8.ofNat_toNat]
  · rintro rfl
    rw [UInt8.toNat_ofNat', Nat.mod_eq_of_lt hn]
    exact Nat.beq_refl n
theorem scan_append : ∀ (l m : List UInt8) (b : Bool), scan b (l ++ m) = match scan b l with | some b' => scan b' m | none => none
  | [], m, b => rfl
  | c :: l, m, b => by
    simp only [List.cons_append, scan]
    split
    · rfl
    · rfl
    · exact scan_append l m true
    · exact scan_append l m false
/-! ### decimals -/
theorem digit_ne {k : Nat} (h : k < 10) : UInt8.ofNat (48 + k) ≠ 10 ∧ UInt8.ofNat (48 + k) ≠ 32 := by
  rcases (show k = 0 ∨ k = 1 ∨ k = 2 ∨ k = 3 ∨ k = 4 ∨ k = 5 ∨ k = 6 ∨ k = 7 ∨ k = 8 ∨ k = 9 by omega) with e | e | e | e | e | e | e | e | e | e <;> subst e <;> exact ⟨by decide, by decide⟩
theorem dec_ne : ∀ (u : Nat), ∀ c ∈ decDigits u, c ≠ 10 ∧ c ≠ 32 := by
  intro u
  induction u using Nat.strongRecOn with
  | _ u ih =>
    intro c hc
    rw [decDigits] at hc
    split at hc
    · rename_i h
      simp only [List.mem_singleton] at hc
      rw [hc]
      exact digit_ne h
    · rename_i h
      rcases List.mem_append.1 hc with h1 | h1
      · exact ih (u / 10) (by omega) c h1
      · simp only [List.mem_singleton] at h1
        rw [h1]
        exact digit_ne (Nat.mod_lt _ (by decide))
theorem itoa_ne (n : Int) : ∀ c ∈ itoa n, c ≠ 10 ∧ c ≠ 32 := by
  intro c hc
  unfold itoa at hc
  split at hc
  · rcases List.mem_cons.1 hc with rfl | h
    · exact ⟨by decide, by decide⟩
    · exact dec_ne _ c h
  · exact dec_ne _ c hc
theorem scan_plain : ∀ {l : List UInt8} {b : Bool}, (∀ c ∈ l, c ≠ 10 ∧ c ≠ 32) → l ≠ [] → scan b l = some false
  | [], _, _, h => absurd rfl h
  | c :: l, b, h, _ => by
    obtain ⟨h1, h2⟩ := h c List.mem_cons_self
    have e1 : Nat.beq c.toNat 10 = false := by
      cases e : Nat.beq c.toNat 10 with
      | true => exact absurd ((beq10 (by decide)).1 e) h1
      | false => rfl
    have e2 : Nat.beq c.toNat 32 = false := by
      cases e : Nat.beq c.toNat 32 with
      | true => exact absurd ((beq10 (by decide)).1 e) h2
      | false => rfl
    simp only [scan, e1, e2]
    cases l with
    | nil => rfl
    | cons d l => exact scan_plain (fun c hc => h c (List.mem_cons_of_mem _ hc)) (by simp)
theorem itoa_scan {n : Int} (h : I64 n) (b : Bool) : scan b (itoa n) = some false := scan_plain (itoa_ne n) fun e => by
  have := (itoa_len h).1
  rw [e] at this
  simp at this
theorem nums_scan {g : EvG} {w : World} (h : g.OK w) : ∀ m i, scan false (numsFrom g.l i m) = some false
  | 0, _ => rfl
  | m + 1, i => by
    show scan false (32 :: (itoa (g.l.getD i 0) ++ numsFrom g.l (i + 1) m)) = _
    show scan true (itoa (g.l.getD i 0) ++ numsFrom g.l (i + 1) m) = _
    rw [scan_append, itoa_scan (h.fl i)]
    exact nums_scan h m (i + 1)
theorem perm_scan {g : EvG} {w : World} (h : g.OK w) : scan true (permB g) = some false := by
  unfold permB
  rw [List.append_assoc, scan_append, show scan true [112, 101, 114, 109, 32] = some true by decide]
  show scan true (itoa g.a ++ numsFrom g.l 0 g.l.length) = _
  rw [scan_append, itoa_scan h.fa]
  exact nums_scan h _ _
/-! ### the letters ahead -/
def isLet (c : UInt8) : Bool := match Nat.ble 97 c.toNat with
  | true => Nat.ble c.toNat 122
  | false => false
def wl : List UInt8 → List UInt8
  | [] => []
  | c :: l => match isLet c with
    | true => c :: wl l
    | false => []
def shut : List UInt8 → Bool
  | [] => false
  | c :: l => match isLet c with
    | true => shut l
    | false => true
theorem wl_append : ∀ {l : List UInt8} (m : List UInt8), shut l = true → wl (l ++ m) = wl l
  | [], _, h => by cases h
  | c :: l, m, h => by
    simp only [shut] at h
    simp only [List.cons_append, wl]
    split at h
    · exact congrArg (c :: ·) (wl_append m h)
    · rfl
/-! ### pieces -/
def pcS : Bool → VV → Option Bool
  | b, .string s => scan b s.data.toList
  | b, .sym k => match Nat.beq k 52 with
    | true => match b with
      | true => some false
      | false => none
    | false => some false
  | _, _ => none
def pcsS : Bool → List VV → Option Bool
  | b, [] => some b
  | b, p :: l => match pcS b p with
    | some b' => pcsS b' l
    | none => none
theorem pcS_ok {g : EvG} {w : World} (h : g.OK w) {p : VV} (hp : isPc p = true) {b b' : Bool} (hs : pcS b p = some b') : ∃ s, pieceS (erho g 0 [] 0) p = some s ∧ scan b s.data.toList = some b' := by
  unfold isPc at hp
  split at hp
  · exact ⟨_, rfl, hs⟩
  · rename_i k
    have := isPc.lowMem k [26]
    have hk := lowMem_ok hp
    simp only [List.mem_cons, List.not_mem_nil, or_false] at hk
    have it : ∀ {n : Int}, I64 n → scan b (bstr (itoa n)).data.toList = some false := fun hn => itoa_scan hn b
    rcases hk with rfl | rfl | rfl | rfl | rfl | rfl | rfl | rfl | rfl | rfl | rfl | rfl | rfl | rfl
    · cases hs; exact ⟨_, rfl, it h.fa⟩
    · cases hs; exact ⟨_, rfl, it h.fb⟩
    · cases hs; exact ⟨_, rfl, it h.fn⟩
    · cases hs; exact ⟨_, rfl, it h.fm⟩
    · cases hs; exact ⟨_, rfl, it h.f6⟩
    · cases hs; exact ⟨_, rfl, it h.f7⟩
    · cases hs; exact ⟨_, rfl, it h.f8⟩
    · cases hs; exact ⟨_, rfl, it h.f9⟩
    · cases hs; exact ⟨_, rfl, it h.f10⟩
    · cases hs; exact ⟨_, rfl, it (h.ft 0).1⟩
    · cases hs; exact ⟨_, rfl, it (h.ft 0).2⟩
    · cases hs; exact ⟨_, rfl, it (h.ft 1).1⟩
    · cases hs; exact ⟨_, rfl, it (h.ft 1).2⟩
    · cases b with
      | true => cases hs; exact ⟨_, rfl, perm_scan h⟩
      | false => cases hs
  · cases hp
theorem pcsS_ok {g : EvG} {w : World} (h : g.OK w) : ∀ {l : List VV} {b b' : Bool}, arePc l = true → pcsS b l = some b' → ∃ s, textS (erho g 0 [] 0) l = some s ∧ scan b s.data.toList = some b'
  | [], b, b', _, hs => ⟨_, rfl, hs⟩
  | p :: l, b, b', ha, hs => by
    simp only [arePc] at ha
    split at ha
    · rename_i h1
      simp only [pcsS] at hs
      split at hs
      · rename_i b1 h2
        obtain ⟨s, e1, e2⟩ := pcS_ok h h1 h2
        obtain ⟨t, e3, e4⟩ := pcsS_ok h ha hs
        refine ⟨_, textS_cons e1 e3, ?_⟩
        rw [ByteArray.data_append, Array.toList_append, scan_append, e2]
        exact e4
      · cases hs
    · cases ha
/-- The word ahead. -/
def wordP : List VV → List UInt8
  | .string s :: _ => match shut s.data.toList with
    | true => wl s.data.toList
    | false => []
  | .sym k :: _ => match Nat.beq k 52 with
    | true => [112, 101, 114, 109]
    | false => []
  | _ => []
def neB : List UInt8 → List UInt8 → Bool
  | [], [] => true
  | a :: l, b :: m => match Nat.beq a.toNat b.toNat with
    | true => neB l m
    | false => false
  | _, _ => false
theorem neB_ok : ∀ {l m : List UInt8}, neB l m = true → l = m
  | [], [], _ => rfl
  | a :: l, b :: m, h => by
    simp only [neB] at h
    split at h
    · rename_i e
      have e := Nat.eq_of_beq_eq_true e
      rw [neB_ok h, UInt8.toNat_inj.1 e]
    · cases h
  | [], _ :: _, h => by cases h
  | _ :: _, [], h => by cases h
theorem wordP_ok {g : EvG} {l : List VV} {s : ByteArray} (h : textS (erho g 0 [] 0) l = some s) (hw : wordP l ≠ []) : wl s.data.toList = wordP l := by
  unfold wordP at hw ⊢
  split at hw
  · rename_i t l
    simp only [textS, pieceS] at h
    split at h
    · rename_i a b e1 e2
      cases h
      cases e1
      rw [ByteArray.data_append, Array.toList_append]
      split at hw
      · rename_i e
        exact wl_append _ e
      · exact absurd rfl hw
    · cases h
  · rename_i k l
    split at hw
    · rename_i e
      have e := Nat.eq_of_beq_eq_true e
      subst e
      simp only [textS] at h
      split at h
      · rename_i a b e1 e2
        cases h
        have e1' : a = bstr (permB g) := (Option.some.inj e1).symm
        subst e1'
        rw [ByteArray.data_append, Array.toList_append]
        show wl (permB g ++ _) = _
        unfold permB
        rw [List.append_assoc, List.append_assoc]
        exact wl_append (l := [112, 101, 114, 109, 32]) _ (by decide)
      · cases h
    · exact absurd rfl hw
  · exact absurd rfl hw
def wordT : TrX Leaf → List UInt8
  | .leaf (.ret (.cat ps)) => wordP ps
  | .cut _ _ l _ => wordT l
  | .rel _ _ _ l _ => wordT l
  | _ => []
def okW (wd : List UInt8) : Leaf → Bool
  | .ret (.cat ps) => match arePc ps, pcsS true ps, neB (wordP ps) wd with
    | true, some false, true => true
    | _, _, _ => false
  | _ => false
def someB : List UInt8 → Bool
  | [] => false
  | _ :: _ => true
def okK (k : Nat) : Bool := match k with
  | 0 => true
  | k + 1 => match someB (wordT (tT ((k + 1 : Nat) : Int))) with
    | true => allL (okW (wordT (tT ((k + 1 : Nat) : Int)))) (tT ((k + 1 : Nat) : Int))
    | false => false
theorem all_words : allP okK 30 = true := by kernel_rfl
abbrev tB (g : EvG) : List UInt8 := (txtB g).data.toList
section
variable {w : World} {g : EvG}
theorem words_ok (h : g.OK w) (hz : chk g = 0) : scan true (tB g) = some false ∧ wl (tB g) = wordT (tT g.k) ∧ wordT (tT g.k) ≠ [] := by
  have G := good_of h hz
  have h1 := G.k1
  have h2 := G.k2
  obtain ⟨k, hk⟩ : ∃ k : Nat, g.k = ((k + 1 : Nat) : Int) := ⟨g.k.toNat - 1, by omega⟩
  have ho := allP_ok all_words (k + 1) (by omega)
  unfold tB txtB
  rw [if_pos hz, hk]
  simp only [okK] at ho
  split at ho
  · rename_i e
    have hl := allL_ok (v := eint g 0 [] 0) ho
    have hne : wordT (tT ((k + 1 : Nat) : Int)) ≠ [] := fun e2 => by rw [e2] at e; cases e
    generalize valX (tT ((k + 1 : Nat) : Int)) (eint g 0 [] 0) = o at hl
    unfold okW at hl
    split at hl
    · rename_i ps
      split at hl
      · rename_i a1 a2 a3
        have a3 := neB_ok a3
        obtain ⟨s, e1, e2⟩ := pcsS_ok h a1 a2
        have eb : bytesOf (erho g 0 [] 0) (.ret (.cat ps)) = s := by simp only [bytesOf, e1]
        rw [eb]
        exact ⟨e2, (wordP_ok e1 (by rw [a3]; exact hne)).trans a3, hne⟩
      · cases hl
    · cases hl
  · cases ho
theorem ok_text (h : g.OK w) (hz : chk g = 0) : txtB g ≠ ⟨#[63]⟩ := fun e => by
  obtain ⟨_, h2, h3⟩ := words_ok h hz
  have e' : tB g = [63] := by unfold tB; rw [e]
  rw [e'] at h2
  exact h3 (h2.symm.trans (by decide))
end
end
end Go.Proofs.YtjfbakhebdhbmaaDoor.event
