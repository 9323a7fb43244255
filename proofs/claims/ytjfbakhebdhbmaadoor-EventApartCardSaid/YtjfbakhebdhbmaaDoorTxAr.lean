/-
  Events that may be: two have one text just if they are alike (the second half).
-/
import Derived.Test.YtjfbakhebdhbmaaDoorTxP
import Derived.Test.YtjfbakhebdhbmaaDoorTxAk
import Derived.Test.YtjfbakhebdhbmaaDoorTxO
namespace Go.Proofs.YtjfbakhebdhbmaaDoor.event
open Go.Ev Go.RowKit Go.Lib
set_option linter.unusedVariables false
noncomputable section
/-! ### decimals, and what stands between them -/
def sepC (c : UInt8) : Prop := c = 32 ∨ c = 47
def noSep (l : List UInt8) : Prop := ∀ c ∈ l, ¬ sepC c
def headSep : List UInt8 → Prop
  | [] => True
  | c :: _ => sepC c
theorem cut_sep : ∀ {a b r t : List UInt8}, noSep a → noSep b → headSep r → headSep t → a ++ r = b ++ t → a = b ∧ r = t
  | [], [], r, t, _, _, _, _, h => ⟨rfl, h⟩
  | [], d :: b, r, t, _, hb, hr, _, h => by
    simp only [List.nil_append, List.cons_append] at h
    subst h
    exact absurd hr (hb d List.mem_cons_self)
  | d :: a, [], r, t, ha, _, _, ht, h => by
    simp only [List.nil_append, List.cons_append] at h
    subst h
    exact absurd ht (ha d List.mem_cons_self)
  | d :: a, e :: b, r, t, ha, hb, hr, ht, h => by
    simp only [List.cons_append, List.cons.injEq] at h
    obtain ⟨h1, h2⟩ := cut_sep (fun c hc => ha c (List.mem_cons_of_mem _ hc)) (fun c hc => hb c (List.mem_cons_of_mem _ hc)) hr ht h.2
    exact ⟨by rw [h.1, h1], h2⟩
theorem digit_sep {k : Nat} (h : k < 10) : ¬ sepC (UInt8.ofNat (48 + k)) := by
  rcases (show k = 0 ∨ k = 1 ∨ k = 2 ∨ k = 3 ∨ k = 4 ∨ k = 5 ∨ k = 6 ∨ k = 7 ∨ k = 8 ∨ k = 9 by omega) with e | e | e | e | e | e | e | e | e | e <;> subst e <;> (unfold sepC; decide)
theorem dec_sep : ∀ (u : Nat), noSep (decDigits u) := by
  intro u
  induction u using Nat.strongRecOn with
  | _ u ih =>
    intro c hc
    rw [decDigits] at hc
    split at hc
    · rename_i h
      simp only [List.mem_singleton] at hc
      rw [hc]
      exact digit_sep h
    · rename_i h
      rcases List.mem_append.1 hc with h1 | h1
      · exact ih (u / 10) (by omega) c h1
      · simp only [List.mem_singleton] at h1
        rw [h1]
        exact digit_sep (Nat.mod_lt _ (by decide))
theorem itoa_sep (n : Int) : noSep (itoa n) := by
  intro c hc
  unfold itoa at hc
  split at hc
  · rcases List.mem_cons.1 hc with rfl | h
    · unfold sepC; decide
    · exact dec_sep _ c h
  · exact dec_sep _ c hc
def numB (l : List UInt8) : Nat := l.foldl (fun a c => 10 * a + (c.toNat - 48)) 0
theorem digit_num {k : Nat} (h : k < 10) : (UInt8.ofNat (48 + k)).toNat - 48 = k := by
  rcases (show k = 0 ∨ k = 1 ∨ k = 2 ∨ k = 3 ∨ k = 4 ∨ k = 5 ∨ k = 6 ∨ k = 7 ∨ k = 8 ∨ k = 9 by omega) with e | e | e | e | e | e | e | e | e | e <;> subst e <;> decide
theorem num_dec : ∀ (u : Nat), numB (decDigits u) = u := by
  intro u
  induction u using Nat.strongRecOn with
  | _ u ih =>
    rw [decDigits]
    split
    · rename_i h
      simp only [numB, List.foldl_cons, List.foldl_nil, digit_num h]
      omega
    · rename_i h
      have := ih (u / 10) (by omega)
      unfold numB at this ⊢
      rw [List.foldl_append, this]
      simp only [List.foldl_cons, List.foldl_nil, digit_num (Nat.mod_lt u (by decide : 0 < 10))]
      omega
theorem dec_inj {u v : Nat} (h : decDigits u = decDigits v) : u = v := by rw [← num_dec u, h, num_dec]
theorem dec_no45 : ∀ (u : Nat), (45 : UInt8) ∉ decDigits u := by
  intro u
  induction u using Nat.strongRecOn with
  | _ u ih =>
    have dg : ∀ k, k < 10 → (45 : UInt8) ≠ UInt8.ofNat (48 + k) := by
      intro k h
      rcases (show k = 0 ∨ k = 1 ∨ k = 2 ∨ k = 3 ∨ k = 4 ∨ k = 5 ∨ k = 6 ∨ k = 7 ∨ k = 8 ∨ k = 9 by omega) with e | e | e | e | e | e | e | e | e | e <;> subst e <;> decide
    rw [decDigits]
    split
    · rename_i h
      simp only [List.mem_singleton]
      exact dg u h
    · rename_i h
      rw [List.mem_append, not_or]
      refine ⟨ih (u / 10) (by omega), ?_⟩
      simp only [List.mem_singleton]
      exact dg _ (Nat.mod_lt _ (by decide))
theorem itoa_inj {a b : Int} (h : itoa a = itoa b) : a = b := by
  unfold itoa at h
  split at h <;> split at h
  · simp only [List.cons.injEq, true_and] at h
    have := dec_inj h
    omega
  · exact absurd (h ▸ List.mem_cons_self) (dec_no45 _)
  · exact absurd (h.symm ▸ List.mem_cons_self) (dec_no45 _)
  · have := dec_inj h
    omega
/-- Numbers, each behind what stands ahead of it. -/
def lay : List (UInt8 × Int) → List UInt8
  | [] => []
  | (s, n) :: l => s :: (itoa n ++ lay l)
theorem lay_head : ∀ {l : List (UInt8 × Int)}, (∀ x ∈ l, sepC x.1) → headSep (lay l)
  | [], _ => trivial
  | x :: l, h => h x List.mem_cons_self
theorem lay_inj : ∀ {l m : List (UInt8 × Int)}, (∀ x ∈ l, sepC x.1) → (∀ x ∈ m, sepC x.1) → lay l = lay m → l = m
  | [], [], _, _, _ => rfl
  | [], x :: m, _, _, h => by cases h
  | x :: l, [], _, _, h => by cases h
  | (s, n) :: l, (t, k) :: m, hl, hm, h => by
    simp only [lay, List.cons.injEq] at h
    have hl' : ∀ x ∈ l, sepC x.1 := fun x hx => hl x (List.mem_cons_of_mem _ hx)
    have hm' : ∀ x ∈ m, sepC x.1 := fun x hx => hm x (List.mem_cons_of_mem _ hx)
    obtain ⟨h1, h2⟩ := cut_sep (itoa_sep n) (itoa_sep k) (lay_head hl') (lay_head hm') h.2
    rw [h.1, itoa_inj h1, lay_inj hl' hm' h2]
theorem text_inj {w w' : List UInt8} {l m : List (UInt8 × Int)} (h1 : noSep w) (h2 : noSep w') (hl : ∀ x ∈ l, sepC x.1) (hm : ∀ x ∈ m, sepC x.1) (h : w ++ lay l = w' ++ lay m) : w = w' ∧ l = m := by
  obtain ⟨h3, h4⟩ := cut_sep h1 h2 (lay_head hl) (lay_head hm) h
  exact ⟨h3, lay_inj hl hm h4⟩
/-! ### pieces, read -/
def symI : Nat → Nat
  | 26 => 1
  | 28 => 2
  | 30 => 3
  | 32 => 4
  | 34 => 6
  | 36 => 7
  | 38 => 8
  | 40 => 9
  | 42 => 10
  | 44 => 20
  | 46 => 21
  | 48 => 22
  | 50 => 23
  | _ => 0
def sepB (c : UInt8) : Bool := match Nat.beq c.toNat 32 with
  | true => true
  | false => Nat.beq c.toNat 47
theorem sepB_ok {c : UInt8} (h : sepB c = true) : sepC c := by
  unfold sepB at h
  split at h
  · rename_i e
    exact .inl ((beq10 (by decide)).1 e)
  · exact .inr ((beq10 (by decide)).1 h)
def letB : List UInt8 → Bool
  | [] => true
  | c :: l => match isLet c with
    | true => letB l
    | false => false
theorem letB_ok : ∀ {l : List UInt8}, letB l = true → noSep l
  | [], _, c, hc => by cases hc
  | d :: l, h, c, hc => by
    simp only [letB] at h
    split at h
    · rename_i e
      rcases List.mem_cons.1 hc with rfl | hc
      · obtain ⟨h1, _⟩ : 97 ≤ c.toNat ∧ c.toNat ≤ 122 := by
          unfold isLet at e
          split at e
          · rename_i e1
            exact ⟨Nat.le_of_ble_eq_true e1, Nat.le_of_ble_eq_true e⟩
          · cases e
        rintro (rfl | rfl)
        · exact absurd h1 (by decide)
        · exact absurd h1 (by decide)
      · exact letB_ok h c hc
    · cases h
/-- A word, and what stands behind it. -/
def litEnd : List UInt8 → Option (List UInt8 × UInt8)
  | [] => none
  | [c] => match sepB c with
    | true => some ([], c)
    | false => none
  | c :: l => match litEnd l with
    | some (w, s) => some (c :: w, s)
    | none => none
theorem litEnd_ok : ∀ {l w : List UInt8} {s : UInt8}, litEnd l = some (w, s) → l = w ++ [s] ∧ sepC s
  | [], w, s, h => by cases h
  | [c], w, s, h => by
    simp only [litEnd] at h
    split at h
    · rename_i e
      cases h
      exact ⟨rfl, sepB_ok e⟩
    · cases h
  | c :: d :: l, w, s, h => by
    simp only [litEnd] at h
    split at h
    · rename_i w' s' e
      cases h
      obtain ⟨h1, h2⟩ := litEnd_ok e
      exact ⟨by rw [h1]; rfl, h2⟩
    · cases h
def numSym (k : Nat) : Bool := match isPc (.sym k) with
  | true => match Nat.beq k 52 with
    | true => false
    | false => true
  | false => false
def parseR (s : UInt8) : List VV → Option (List (UInt8 × Nat))
  | [] => none
  | .sym k :: l => match numSym k with
    | true => match l with
      | [] => some [(s, symI k)]
      | .string t :: l' => match t.data.toList with
        | [c] => match sepB c, parseR c l' with
          | true, some r => some ((s, symI k) :: r)
          | _, _ => none
        | _ => none
      | _ => none
    | false => none
  | _ => none
def parseP : List VV → Option (List UInt8 × List (UInt8 × Nat))
  | .string t :: l => match litEnd t.data.toList with
    | some (w, s) => match letB w, parseR s l with
      | true, some r => some (w, r)
      | _, _ => none
    | none => none
  | _ => none
section
variable {w : World} {g : EvG}
abbrev numG (g : EvG) (k : Nat) : Int := eint g 0 [] 0 k
theorem numSym_ok {k : Nat} (h : numSym k = true) : pieceS (erho g 0 [] 0) (.sym k) = some (bstr (itoa (numG g (symI k)))) := by
  unfold numSym at h
  split at h
  · rename_i e
    split at h
    · cases h
    · rename_i e52
      unfold isPc at e
      have := lowMem_ok e
      simp only [List.mem_cons, List.not_mem_nil, or_false] at this
      rcases this with rfl | rfl | rfl | rfl | rfl | rfl | rfl | rfl | rfl | rfl | rfl | rfl | rfl | rfl
      all_goals first
        | rfl
        | (exfalso; exact absurd e52 (by decide))
  · cases h
theorem textS_cons_inv {ρ : Rho} {p : VV} {l : List VV} {b : ByteArray} (h : textS ρ (p :: l) = some b) : ∃ s t, pieceS ρ p = some s ∧ textS ρ l = some t ∧ b = s ++ t := by
  simp only [textS] at h
  split at h
  · rename_i s t e1 e2
    cases h
    exact ⟨s, t, e1, e2, rfl⟩
  · cases h
abbrev valF (g : EvG) (fs : List (UInt8 × Nat)) : List (UInt8 × Int) := fs.map fun f => (f.1, numG g f.2)
theorem parseR_ok : ∀ {l : List VV} {s : UInt8} {fs : List (UInt8 × Nat)} {b : ByteArray}, sepC s → parseR s l = some fs → textS (erho g 0 [] 0) l = some b → s :: b.data.toList = lay (valF g fs) ∧ ∀ f ∈ fs, sepC f.1
  | [], s, fs, b, _, h, _ => by simp [parseR] at h
  | p :: l, s, fs, b, hs, h, ht => by
    obtain ⟨b1, b2, e1, e2, rfl⟩ := textS_cons_inv ht
    cases p with
    | sym k =>
      unfold parseR at h
      split at h
      · rename_i hk
        rw [numSym_ok hk] at e1
        cases e1
        split at h
        · cases h
          simp only [textS] at e2
          cases e2
          refine ⟨?_, fun f hf => by simp only [List.mem_singleton] at hf; rw [hf]; exact hs⟩
          simp only [valF, List.map_cons, List.map_nil, lay, List.append_nil]
          rw [ByteArray.data_append, Array.toList_append]
          show s :: (itoa (numG g (symI k)) ++ []) = _
          rw [List.append_nil]
        · rename_i t l'
          obtain ⟨b3, b4, e3, e4, rfl⟩ := textS_cons_inv e2
          simp only [pieceS] at e3
          cases e3
          split at h
          · rename_i c hc
            split at h
            · rename_i r hsep hr
              cases h
              obtain ⟨k1, k2⟩ := parseR_ok (sepB_ok hsep) hr e4
              refine ⟨?_, fun f hf => by
                rcases List.mem_cons.1 hf with rfl | hf
                · exact hs
                · exact k2 f hf⟩
              simp only [valF, List.map_cons, lay]
              rw [ByteArray.data_append, Array.toList_append, ByteArray.data_append, Array.toList_append, hc]
              show s :: (itoa (numG g (symI k)) ++ (c :: b4.data.toList)) = _
              rw [k1]
            · cases h
          · cases h
        · cases h
      · cases h
    | _ => simp [parseR] at h
theorem parseP_ok {ps : List VV} {wd : List UInt8} {fs : List (UInt8 × Nat)} {b : ByteArray} (h : parseP ps = some (wd, fs)) (ht : textS (erho g 0 [] 0) ps = some b) : b.data.toList = wd ++ lay (valF g fs) ∧ noSep wd ∧ ∀ f ∈ fs, sepC f.1 := by
  unfold parseP at h
  split at h
  · rename_i t l
    obtain ⟨b1, b2, e1, e2, rfl⟩ := textS_cons_inv ht
    simp only [pieceS] at e1
    cases e1
    split at h
    · rename_i w' s hl
      split at h
      · rename_i r hlet hr
        cases h
        obtain ⟨q1, q2⟩ := litEnd_ok hl
        obtain ⟨k1, k2⟩ := parseR_ok q2 hr e2
        refine ⟨?_, letB_ok hlet, k2⟩
        rw [ByteArray.data_append, Array.toList_append, q1, List.append_assoc]
        show wd ++ (s :: b2.data.toList) = _
        rw [k1]
      · cases h
    · cases h
  · cases h
end
end
end Go.Proofs.YtjfbakhebdhbmaaDoor.event
namespace Go.Proofs.YtjfbakhebdhbmaaDoor.event
open Go.Ev Go.RowKit Go.Lib
set_option linter.unusedVariables false
noncomputable section
/-! ### what the texts of a kind hold -/
def fsT : TrX Leaf → List (UInt8 × Nat)
  | .leaf (.ret (.cat ps)) => match parseP ps with
    | some (_, fs) => fs
    | none => []
  | .cut _ _ l _ => fsT l
  | .rel _ _ _ l _ => fsT l
  | _ => []
def tgFs : Nat → List (UInt8 × Nat)
  | 0 => []
  | 1 => [(32, 20), (47, 21)]
  | _ => [(32, 20), (47, 21), (32, 22), (47, 23)]
def fEq : List (UInt8 × Nat) → List (UInt8 × Nat) → Bool
  | [], [] => true
  | (a, b) :: l, (c, d) :: m => match Nat.beq a.toNat c.toNat, Nat.beq b d with
    | true, true => fEq l m
    | _, _ => false
  | _, _ => false
theorem fEq_ok : ∀ {l m : List (UInt8 × Nat)}, fEq l m = true → l = m
  | [], [], _ => rfl
  | (a, b) :: l, (c, d) :: m, h => by
    simp only [fEq] at h
    split at h
    · rename_i e1 e2
      have e1 := UInt8.toNat_inj.1 (Nat.eq_of_beq_eq_true e1)
      have e2 := Nat.eq_of_beq_eq_true e2
      rw [e1, e2, fEq_ok h]
    · cases h
  | [], _ :: _, h => by cases h
  | _ :: _, [], h => by cases h
def okF (wd : List UInt8) (fs0 : List (UInt8 × Nat)) (iv : Ivs) (_ : Rels) : Leaf → Bool
  | .ret (.cat ps) => match arePc ps, parseP ps with
    | true, some (w, fs) => match neB w wd with
      | true => match decide ((ivAt iv 13).2 ≤ 0), decide (1 ≤ (ivAt iv 13).1), decide ((ivAt iv 13).2 ≤ 1), decide (2 ≤ (ivAt iv 13).1) with
        | true, _, _, _ => fEq fs fs0
        | _, true, true, _ => fEq fs (fs0 ++ tgFs 1)
        | _, _, _, true => fEq fs (fs0 ++ tgFs 2)
        | _, _, _, _ => false
      | false => false
    | _, _ => false
  | _ => false
def ivK (k : Int) : Ivs := match isItem k with
  | true => xt15xiv0
  | false => xt1xiv0
def okKF (k : Nat) : Bool := match k with
  | 0 => true
  | k + 1 => match Nat.beq (k + 1) 26 with
    | true => true
    | false => allI (okF (wordT (tT ((k + 1 : Nat) : Int))) (fsT (tT ((k + 1 : Nat) : Int)))) (tT ((k + 1 : Nat) : Int)) (ivK ((k + 1 : Nat) : Int)) []
theorem all_fields : allP okKF 30 = true := by kernel_rfl
def apartW (k : Nat) : Bool := allP (fun j => match neB (wordT (tT (k : Int))) (wordT (tT (j : Int))) with | true => Nat.beq k j | false => true) 30
theorem all_apart : allP apartW 30 = true := by kernel_rfl
section
variable {w : World} {g : EvG}
theorem nums_lay (l : List Int) : ∀ (m i : Nat), i + m = l.length → numsFrom l i m = lay ((l.drop i).map fun x => ((32 : UInt8), x))
  | 0, i, h => by rw [List.drop_eq_nil_of_le (by omega)]; rfl
  | m + 1, i, h => by
    rw [drop_at (d := (0 : Int)) (show i < l.length by omega)]
    simp only [numsFrom, List.map_cons, lay]
    rw [nums_lay l m (i + 1) (by omega)]
/-- What stands behind a text's word. -/
def LK (g : EvG) : List (UInt8 × Int) := if g.k = 26 then (32, g.a) :: g.l.map (fun x => (32, x)) else valF g (fsT (tT g.k) ++ tgFs g.t.length)
theorem text_is (h : g.OK w) (hz : chk g = 0) : tB g = wordT (tT g.k) ++ lay (LK g) ∧ noSep (wordT (tT g.k)) ∧ ∀ x ∈ LK g, sepC x.1 := by
  have G := good_of h hz
  have h1 := G.k1
  have h2 := G.k2
  by_cases h26 : g.k = 26
  · have hT : valX (tT g.k) (eint g 0 [] 0) = .ret (.cat [.sym 52]) := by
      rw [h26]
      show valX xt26xt0 _ = _
      simp only [xt26xt0, valX]
      split <;> rfl
    have ht : tB g = permB g := by
      unfold tB txtB
      rw [if_pos hz, hT]
      show (bstr (permB g) ++ ByteArray.empty).data.toList = _
      rw [ByteArray.data_append, Array.toList_append]
      show permB g ++ [] = _
      rw [List.append_nil]
    have hw : wordT (tT g.k) = [112, 101, 114, 109] := by
      rw [h26]
      rfl
    rw [ht, hw]
    unfold LK
    rw [if_pos h26]
    refine ⟨?_, letB_ok (by decide), fun x hx => ?_⟩
    · unfold permB
      rw [nums_lay g.l g.l.length 0 (by omega), List.drop_zero]
      simp only [lay, List.cons_append, List.nil_append]
    · rcases List.mem_cons.1 hx with rfl | hx
      · exact .inl rfl
      · obtain ⟨y, _, rfl⟩ := List.mem_map.1 hx
        exact .inl rfl
  · obtain ⟨k, hk⟩ : ∃ k : Nat, g.k = ((k + 1 : Nat) : Int) := ⟨g.k.toNat - 1, by omega⟩
    have ho := allP_ok all_fields (k + 1) (by omega)
    simp only [okKF] at ho
    split at ho
    · rename_i e
      have := Nat.eq_of_beq_eq_true e
      omega
    · have hiv : IvOK (ivK ((k + 1 : Nat) : Int)) (erho g 0 [] 0) := by
        rw [← hk]
        unfold ivK
        split
        · rename_i hi
          exact iv_xt15xiv0 h (by decide) (by decide) (by omega) (G.l26 h26) G.t2 rfl
        · rename_i hi
          exact iv_pl h G h26 hi
      obtain ⟨iv', rs', k1, k2⟩ := allI_ok ho (VOK_of hiv)
      have k13 := k1.1 13
      have e13 : (erho g 0 [] 0).int 13 = (g.t.length : Int) := rfl
      rw [e13] at k13
      have t2 := G.t2
      have e0 : (erho g 0 [] 0).int = eint g 0 [] 0 := rfl
      rw [e0] at k2
      have key : tB g = (bytesOf (erho g 0 [] 0) (valX (tT g.k) (eint g 0 [] 0))).data.toList := by
        unfold tB txtB
        rw [if_pos hz]
      unfold LK
      rw [if_neg h26, key, hk]
      generalize valX (tT ((k + 1 : Nat) : Int)) (eint g 0 [] 0) = o at k2
      unfold okF at k2
      split at k2
      · rename_i ps
        split at k2
        · rename_i wd fs a1 a2
          split at k2
          · rename_i a3
            have a3 := neB_ok a3
            obtain ⟨b, hb⟩ := pcs_ok (g := g) (c := 0) (s := []) (i := 0) a1
            obtain ⟨q1, q2, q3⟩ := parseP_ok a2 hb
            have eb : bytesOf (erho g 0 [] 0) (.ret (.cat ps)) = b := by simp only [bytesOf, hb]
            have fin : fs = fsT (tT ((k + 1 : Nat) : Int)) ++ tgFs g.t.length → b.data.toList = wordT (tT ((k + 1 : Nat) : Int)) ++ lay (valF g (fsT (tT ((k + 1 : Nat) : Int)) ++ tgFs g.t.length)) ∧ noSep (wordT (tT ((k + 1 : Nat) : Int))) ∧ ∀ x ∈ valF g (fsT (tT ((k + 1 : Nat) : Int)) ++ tgFs g.t.length), sepC x.1 := fun e => by
              rw [← e, ← a3]
              refine ⟨q1, q2, fun x hx => ?_⟩
              obtain ⟨y, hy, rfl⟩ := List.mem_map.1 hx
              exact q3 y hy
            rw [eb]
            split at k2
            · rename_i d1
              have d1 := of_decide_eq_true d1
              have : g.t.length = 0 := by omega
              exact fin (by rw [fEq_ok k2, this]; exact (List.append_nil _).symm)
            · rename_i d1 d2 _
              have d1 := of_decide_eq_true d1
              have d2 := of_decide_eq_true d2
              have : g.t.length = 1 := by omega
              exact fin (by rw [fEq_ok k2, this])
            · rename_i d1 _ _
              have d1 := of_decide_eq_true d1
              have : g.t.length = 2 := by omega
              exact fin (by rw [fEq_ok k2, this])
            · cases k2
          · cases k2
        · cases k2
      · cases k2
end
end
end Go.Proofs.YtjfbakhebdhbmaaDoor.event
namespace Go.Proofs.YtjfbakhebdhbmaaDoor.event
open Go.Ev Go.RowKit Go.Lib
set_option linter.unusedVariables false
noncomputable section
/-! ### what a kind has not is zero -/
def memN (k : Nat) : List Nat → Bool
  | [] => false
  | x :: l => match Nat.beq x k with
    | true => true
    | false => memN k l
theorem memN_ok {k : Nat} : ∀ {l : List Nat}, memN k l = true → k ∈ l
  | [], h => by cases h
  | x :: l, h => by
    simp only [memN] at h
    split at h
    · rename_i e
      rw [Nat.eq_of_beq_eq_true e]
      exact List.mem_cons_self
    · exact List.mem_cons_of_mem _ (memN_ok h)
def sndN : List (UInt8 × Nat) → List Nat
  | [] => []
  | (_, k) :: l => k :: sndN l
theorem sndN_mem {k : Nat} : ∀ {l : List (UInt8 × Nat)}, k ∈ sndN l → ∃ s, (s, k) ∈ l
  | [], h => by cases h
  | (s, j) :: l, h => by
    rcases List.mem_cons.1 h with rfl | h
    · exact ⟨s, List.mem_cons_self⟩
    · obtain ⟨s', h⟩ := sndN_mem h
      exact ⟨s', List.mem_cons_of_mem _ h⟩
/-- The numbers that a kind's text tells. -/
def symsK (k : Int) : List Nat := match decide (k = 26) with
  | true => [1]
  | false => sndN (fsT (tT k))
def zSkip (x : Nat) (S : List Nat) (five : Bool) : Bool := match memN x S with
  | true => true
  | false => match five with
    | true => false
    | false => Nat.beq x 5
def zAll (iv : Ivs) (S : List Nat) (five : Bool) : List Nat → Bool
  | [] => true
  | x :: l => match zSkip x S five with
    | true => zAll iv S five l
    | false => match decide ((ivAt iv x).1 = 0), decide ((ivAt iv x).2 = 0) with
      | true, true => zAll iv S five l
      | _, _ => false
def ten : List Nat := [1, 2, 3, 4, 5, 6, 7, 8, 9, 10]
theorem zAll_ok {iv : Ivs} {S : List Nat} {five : Bool} {v : Nat → Int} (hv : ∀ j, (ivAt iv j).1 ≤ v j ∧ v j ≤ (ivAt iv j).2) : ∀ {l : List Nat}, zAll iv S five l = true → ∀ x ∈ l, memN x S = false → (five = false → x ≠ 5) → v x = 0
  | [], _, x, hx, _, _ => by cases hx
  | y :: l, h, x, hx, hm, h5 => by
    simp only [zAll] at h
    split at h
    · rename_i hs
      rcases List.mem_cons.1 hx with rfl | hx'
      · exfalso
        unfold zSkip at hs
        rw [hm] at hs
        cases five with
        | true => cases hs
        | false => exact h5 rfl (Nat.eq_of_beq_eq_true hs)
      · exact zAll_ok hv h x hx' hm h5
    · split at h
      · rename_i e1 e2
        rcases List.mem_cons.1 hx with rfl | hx'
        · have e1 := of_decide_eq_true e1
          have e2 := of_decide_eq_true e2
          have := hv x
          omega
        · exact zAll_ok hv h x hx' hm h5
      · cases h
def zPlain (k : Nat) : Bool := match k with
  | 0 => true
  | k + 1 => match isItem ((k + 1 : Nat) : Int) with
    | true => true
    | false => boundB (fun iv => zAll iv (symsK ((k + 1 : Nat) : Int)) true ten) eciv0 ecC (posK ((k + 1 : Nat) : Int))
theorem z_plain : allP zPlain 30 = true := by kernel_rfl
def zTrue (k : Nat) : Bool := boundB (fun iv => zAll iv (symsK (k : Int)) false ten) tIv etC (posI (k : Int))
def zFalse (k : Nat) : Bool := boundB (fun iv => zAll iv (symsK (k : Int)) true ten) eciv0 efC (posI (k : Int))
theorem z_true : zTrue 15 = true ∧ zTrue 17 = true ∧ zTrue 28 = true := ⟨by kernel_rfl, by kernel_rfl, by kernel_rfl⟩
theorem z_false : zFalse 15 = true ∧ zFalse 17 = true ∧ zFalse 28 = true := ⟨by kernel_rfl, by kernel_rfl, by kernel_rfl⟩
def mayZ (iv : Ivs) (rs : Rels) (o : Leaf) : Bool := match o with
  | .ret (.bool true) => match decide ((ivAt iv 5).1 = 0) with
    | true => decide ((ivAt iv 5).2 = 0)
    | false => false
  | _ => true
theorem may_zero : allI mayZ emt0 emiv0 [] = true := by kernel_rfl
section
variable {w : World} {g h : EvG}
theorem may_five (hg : g.OK w) (h2 : g.t.length ≤ 2) (hm : mayB g = true) : numG g 5 = 0 := by
  obtain ⟨iv, rs, k1, k2⟩ := allI_ok may_zero (VOK_of (iv_emiv0 (c := 0) (s := []) (i := 0) hg (by decide) (by decide) (by omega) h2))
  have e : valX emt0 (erho g 0 [] 0).int = .ret (.bool true) := by rw [show valX emt0 (erho g 0 [] 0).int = _ from may_val, hm]
  rw [e] at k2
  have k3 := k1.1 5
  have e5 : (erho g 0 [] 0).int 5 = numG g 5 := rfl
  rw [e5] at k3
  simp only [mayZ] at k2
  split at k2
  · rename_i h1
    have h1 := of_decide_eq_true h1
    have k2 := of_decide_eq_true k2
    omega
  · cases k2
theorem zero_of (hg : g.OK w) (hz : chk g = 0) : ∀ x ∈ ten, memN x (symsK g.k) = false → numG g x = 0 := by
  have G := good_of hg hz
  have i0 : IvOK eciv0 (erho g 0 [] 0) := iv_eciv0 hg (by decide) (by decide) (by omega)
  have iL : ∀ i, i < g.l.length → ∀ j, (ivAt eciv0 j).1 ≤ eint g 0 [] i j ∧ eint g 0 [] i j ≤ (ivAt eciv0 j).2 := fun i hi => by
    have hn := hg.nl
    exact iv_eciv0 (c := 0) (s := []) (i := i) hg (by decide) (by decide) (by omega)
  have h1 := G.k1
  have h2 := G.k2
  intro x hx hm
  unfold chk at hz
  rw [if_neg (by omega), if_neg (by omega)] at hz
  cases h3 : isItem g.k with
  | false =>
    rw [h3, if_neg (by decide)] at hz
    obtain ⟨k, hk⟩ : ∃ k : Nat, g.k = ((k + 1 : Nat) : Int) := ⟨g.k.toNat - 1, by omega⟩
    have hb := allP_ok z_plain (k + 1) (by omega)
    simp only [zPlain, ← hk, h3] at hb
    obtain ⟨⟨iv', k1, k2⟩, _⟩ := bound_ok (n := g.l.length) (v := fun i => eint g 0 [] i) hb hz i0 iL
    exact zAll_ok k1 k2 x hx hm (fun e => by cases e)
  | true =>
    rw [h3, if_pos rfl] at hz
    by_cases h4 : 3 ≤ g.t.length
    · rw [if_pos h4] at hz; cases hz
    · rw [if_neg h4] at hz
      have hk := of_decide_eq_true h3
      cases hmay : mayB g with
      | true =>
        rw [hmay, if_pos rfl] at hz
        by_cases h5 : x = 5
        · subst h5
          exact may_five hg (by omega) hmay
        · have hb : boundB (fun iv => zAll iv (symsK g.k) false ten) tIv etC (posI g.k) = true := by
            rcases hk with e | e | e
            · rw [e]; exact z_true.1
            · rw [e]; exact z_true.2.1
            · rw [e]; exact z_true.2.2
          obtain ⟨⟨iv', k1, k2⟩, _⟩ := bound_ok (n := g.l.length) (v := fun i => eint g 0 [] i) hb hz (may_in hg (by omega) hmay) iL
          exact zAll_ok k1 k2 x hx hm (fun _ => h5)
      | false =>
        rw [hmay, if_neg (by decide)] at hz
        have hb : boundB (fun iv => zAll iv (symsK g.k) true ten) eciv0 efC (posI g.k) = true := by
          rcases hk with e | e | e
          · rw [e]; exact z_false.1
          · rw [e]; exact z_false.2.1
          · rw [e]; exact z_false.2.2
        obtain ⟨⟨iv', k1, k2⟩, _⟩ := bound_ok (n := g.l.length) (v := fun i => eint g 0 [] i) hb hz i0 iL
        exact zAll_ok k1 k2 x hx hm (fun e => by cases e)
/-! ### one text: alike -/
theorem word_kind {k j : Int} (hk : 0 < k ∧ k < 30) (hj : 0 < j ∧ j < 30) (e : wordT (tT k) = wordT (tT j)) : k = j := by
  have h1 := allP_ok all_apart k.toNat (by omega)
  have h2 := allP_ok h1 j.toNat (by omega)
  have ek : ((k.toNat : Nat) : Int) = k := by omega
  have ej : ((j.toNat : Nat) : Int) = j := by omega
  rw [ek, ej] at h2
  have ne : ∀ l : List UInt8, neB l l = true := fun l => by
    induction l with
    | nil => rfl
    | cons a l ih => simp only [neB, Nat.beq_refl, ih]
  rw [e, ne] at h2
  have := Nat.eq_of_beq_eq_true h2
  omega
theorem tg_len {n m : Nat} (hn : n ≤ 2) (hm : m ≤ 2) (e : (tgFs n).length = (tgFs m).length) : n = m := by
  rcases (show n = 0 ∨ n = 1 ∨ n = 2 by omega) with rfl | rfl | rfl <;> rcases (show m = 0 ∨ m = 1 ∨ m = 2 by omega) with rfl | rfl | rfl <;> first | rfl | (cases e)
theorem list_ext2 {l m : List (Int × Int)} (hl : l.length ≤ 2) (e : l.length = m.length) (h0 : 1 ≤ l.length → l.getD 0 (0, 0) = m.getD 0 (0, 0)) (h1 : 2 ≤ l.length → l.getD 1 (0, 0) = m.getD 1 (0, 0)) : l = m := by
  match l, m, hl, e, h0, h1 with
  | [], [], _, _, _, _ => rfl
  | [a], [b], _, _, h0, _ => have := h0 (by simp); simpa using this
  | [a, c], [b, d], _, _, h0, h1 =>
    have e0 := h0 (by simp)
    have e1 := h1 (by simp)
    simp at e0 e1
    rw [e0, e1]
theorem alike_of_text {w' : World} (hg : g.OK w) (hh : h.OK w') (zg : chk g = 0) (zh : chk h = 0) (e : txtB g = txtB h) : Alike g h := by
  have G := good_of hg zg
  have G' := good_of hh zh
  obtain ⟨a1, a2, a3⟩ := text_is hg zg
  obtain ⟨b1, b2, b3⟩ := text_is hh zh
  have et : tB g = tB h := by unfold tB; rw [e]
  rw [a1, b1] at et
  obtain ⟨ew, el⟩ := text_inj a2 b2 a3 b3 et
  have ek := word_kind ⟨G.k1, G.k2⟩ ⟨G'.k1, G'.k2⟩ ew
  have zero := zero_of hg zg
  have zero' := zero_of hh zh
  rw [← ek] at zero'
  have t2 := G.t2
  have t2' := G'.t2
  by_cases h26 : g.k = 26
  · have h26' : h.k = 26 := by omega
    have hi : isItem g.k = false := by rw [h26]; rfl
    have hi' : isItem h.k = false := by rw [h26']; rfl
    unfold LK at el
    rw [if_pos h26, if_pos h26', List.cons.injEq, Prod.mk.injEq] at el
    have hl : g.l = h.l := by
      have : ∀ (l m : List Int), l.map (fun x => ((32 : UInt8), x)) = m.map (fun x => (32, x)) → l = m := by
        intro l
        induction l with
        | nil => intro m hm; cases m with
          | nil => rfl
          | cons b m => cases hm
        | cons a l ih => intro m hm; cases m with
          | nil => cases hm
          | cons b m =>
            simp only [List.map_cons, List.cons.injEq, Prod.mk.injEq, true_and] at hm
            rw [hm.1, ih m hm.2]
      exact this _ _ el.2
    have q : ∀ x ∈ ten, x ≠ 1 → numG g x = numG h x := fun x hx h1 => by
      have hm : memN x (symsK g.k) = false := by
        rw [h26]
        show memN x [1] = false
        simp only [memN]
        split
        · rename_i e1; exact absurd (Nat.eq_of_beq_eq_true e1).symm h1
        · rfl
      rw [zero x hx hm, zero' x hx hm]
    have tg := G.tit hi
    have th := G'.tit hi'
    exact ⟨ek, el.1.2, q 2 (by decide) (by decide), q 3 (by decide) (by decide), q 4 (by decide) (by decide), q 5 (by decide) (by decide), q 6 (by decide) (by decide), q 7 (by decide) (by decide), q 8 (by decide) (by decide), q 9 (by decide) (by decide), q 10 (by decide) (by decide), hl, list_ext2 t2 (by omega) (fun k => by omega) (fun k => by omega)⟩
  · have h26' : ¬ h.k = 26 := by omega
    unfold LK at el
    rw [if_neg h26, if_neg h26', ← ek] at el
    have en : g.t.length = h.t.length := by
      have := congrArg List.length el
      simp only [valF, List.length_map, List.length_append] at this
      exact tg_len t2 t2' (by omega)
    rw [← en] at el
    have same := List.map_inj_left.1 el
    have q : ∀ x ∈ ten, numG g x = numG h x := fun x hx => by
      cases hm : memN x (symsK g.k) with
      | false => rw [zero x hx hm, zero' x hx hm]
      | true =>
        have hm := memN_ok hm
        unfold symsK at hm
        rw [decide_eq_false h26] at hm
        obtain ⟨s, hs⟩ := sndN_mem hm
        have := same _ (List.mem_append_left _ hs)
        exact (Prod.mk.injEq _ _ _ _ ▸ this).2
    have qt : ∀ s x, (s, x) ∈ tgFs g.t.length → numG g x = numG h x := fun s x hs => by
      have := same _ (List.mem_append_right _ hs)
      exact (Prod.mk.injEq _ _ _ _ ▸ this).2
    have l0 := G.l26 h26
    have l0' := G'.l26 h26'
    refine ⟨ek, q 1 (by decide), q 2 (by decide), q 3 (by decide), q 4 (by decide), q 5 (by decide), q 6 (by decide), q 7 (by decide), q 8 (by decide), q 9 (by decide), q 10 (by decide), by rw [List.eq_nil_of_length_eq_zero l0, List.eq_nil_of_length_eq_zero l0'], list_ext2 t2 en (fun k => ?_) (fun k => ?_)⟩
    · rcases (show g.t.length = 1 ∨ g.t.length = 2 by omega) with e1 | e1
      · rw [e1] at qt
        exact Prod.ext (qt 32 20 (by decide)) (qt 47 21 (by decide))
      · rw [e1] at qt
        exact Prod.ext (qt 32 20 (by decide)) (qt 47 21 (by decide))
    · have e1 : g.t.length = 2 := by omega
      rw [e1] at qt
      exact Prod.ext (qt 32 22 (by decide)) (qt 47 23 (by decide))
/-! ### alike: one text -/
/-- The same event, elsewhere. -/
def EvG.at2 (g : EvG) (oa : Option Addr) (ca Ba Oa : Nat) (ob : Option Addr) (cb Bb Ob : Nat) : EvG := { g with oa := oa, ca := ca, Ba := Ba, Oa := Oa, ob := ob, cb := cb, Bb := Bb, Ob := Ob }
theorem alike_at (k : Alike g h) : h = g.at2 h.oa h.ca h.Ba h.Oa h.ob h.cb h.Bb h.Ob := by
  obtain ⟨h1, h2, h3, h4, h5, h6, h7, h8, h9, h10, h11, h12, h13⟩ := k
  cases g
  cases h
  simp only at h1 h2 h3 h4 h5 h6 h7 h8 h9 h10 h11 h12 h13
  subst h1 h2 h3 h4 h5 h6 h7 h8 h9 h10 h11 h12 h13
  rfl
section
variable {oa ob : Option Addr} {ca Ba Oa cb Bb Ob : Nat}
theorem eint_at2 : eint (g.at2 oa ca Ba Oa ob cb Bb Ob) = eint g := rfl
theorem mayB_at2 : mayB (g.at2 oa ca Ba Oa ob cb Bb Ob) = mayB g := by
  unfold mayB
  rw [eint_at2]
theorem tellG_at2 {C : List CutP} {p : Nat} : tellG C p (g.at2 oa ca Ba Oa ob cb Bb Ob) = tellG C p g := by
  unfold tellG
  rw [eint_at2]
  rfl
theorem chk_at2 : chk (g.at2 oa ca Ba Oa ob cb Bb Ob) = chk g := by
  unfold chk
  rw [mayB_at2]
  simp only [tellG_at2]
  rfl
theorem pc_at2 {p : VV} (hp : isPc p = true) : pieceS (erho (g.at2 oa ca Ba Oa ob cb Bb Ob) 0 [] 0) p = pieceS (erho g 0 [] 0) p := by
  unfold isPc at hp
  split at hp
  · rfl
  · rename_i k
    have := lowMem_ok hp
    simp only [List.mem_cons, List.not_mem_nil, or_false] at this
    rcases this with rfl | rfl | rfl | rfl | rfl | rfl | rfl | rfl | rfl | rfl | rfl | rfl | rfl | rfl <;> rfl
  · cases hp
theorem pcs_at2 : ∀ {l : List VV}, arePc l = true → textS (erho (g.at2 oa ca Ba Oa ob cb Bb Ob) 0 [] 0) l = textS (erho g 0 [] 0) l
  | [], _ => rfl
  | p :: l, h => by
    simp only [arePc] at h
    split at h
    · rename_i h1
      simp only [textS, pc_at2 h1, pcs_at2 h]
    · cases h
theorem txt_at2 (hg : g.OK w) : txtB (g.at2 oa ca Ba Oa ob cb Bb Ob) = txtB g := by
  unfold txtB
  rw [chk_at2, eint_at2]
  by_cases hz : chk g = 0
  · rw [if_pos hz, if_pos hz]
    have G := good_of hg hz
    have h1 : 0 < g.k := G.k1
    have h2 : g.k < 30 := G.k2
    have hs := allP_ok sz_all g.k.toNat (by omega)
    have e : ((g.k.toNat : Nat) : Int) = g.k := by omega
    rw [e] at hs
    have ho := allL_ok (v := eint g 0 [] 0) hs
    show bytesOf _ (valX (tT g.k) (eint g 0 [] 0)) = _
    generalize valX (tT g.k) (eint g 0 [] 0) = o at ho
    unfold szOK at ho
    split at ho
    · rename_i ps
      split at ho
      · rename_i h3
        simp only [bytesOf, pcs_at2 h3]
      · cases ho
    · cases ho
  · rw [if_neg hz, if_neg hz]
end
theorem text_of_alike (hg : g.OK w) (k : Alike g h) : txtB g = txtB h := by
  rw [alike_at k, txt_at2 hg]
theorem chk_of_alike (k : Alike g h) : chk g = chk h := by
  rw [alike_at k, chk_at2]
theorem text_iff {w' : World} (hg : g.OK w) (hh : h.OK w') (zg : chk g = 0) (zh : chk h = 0) : txtB g = txtB h ↔ Alike g h := ⟨alike_of_text hg hh zg zh, text_of_alike hg⟩
end
end
end Go.Proofs.YtjfbakhebdhbmaaDoor.event
