/-
  Chapter 14: fits, Find, Contains, find.
(r25)
-/
import Derived.Test.YticgadnmlbfmfaaTxP
namespace Go.Proofs.Yticgadnmlbfmfaa.cachePlays
open Go.Shelf Go.RowKit Go.Lib Go.Sort
/-- An object. -/
structure Ov where
  id : Int
  card : Int
  own : Int
  ctrl : Int
  zone : Int
  tap : Bool
  sick : Bool
  tok : Bool
  hurt : Int
  st : Int
  att : Int
  blk : Int
  stop : Bool
  ea : Option Addr
  en : Nat
  ec : Nat
def Ov.arr (o : Ov) : Array Value := #[.int .i64 o.id, .int .i64 o.card, .int .i64 o.own, .int .i64 o.ctrl, .int .i64 o.zone, .bool o.tap, .bool o.sick, .bool o.tok, .int .i64 o.hurt, .int .i64 o.st, .int .i64 o.att, .int .i64 o.blk, .bool o.stop, .slice o.ea o.en o.ec]
def fitB (who oi oc bi bc : Int) : Bool := (who == 0 && oi == bi) || (who == 1 && oc == bc) || who == 2 || (who == 3 && oc == bc && !(oi == bi))
set_option maxHeartbeats 8000000 in
set_option maxRecDepth 100000 in
theorem eFits_calls (who : Int) (o b : Ov) (w : World) : Calls Try.prog 65 #[.int .i64 who, .agg o.arr, .agg b.arr] w fun e w' => e = .returned (.bool (fitB who o.id o.ctrl b.id b.ctrl)) ∧ Gr w w' := by
  obtain ⟨o0, o1, o2, o3, o4, o5, o6, o7, o8, o9, o10, o11, o12, o13, o14, o15⟩ := o
  obtain ⟨b0, b1, b2, b3, b4, b5, b6, b7, b8, b9, b10, b11, b12, b13, b14, b15⟩ := b
  simp only [Ov.arr]
  have fin : ∀ A B, Gr w ((w.alloc A).alloc B) := fun A B => (Gr.refl _).alloc _ |>.alloc _
  have FIN : Aside _ := fin
  clear fin
  obtain ⟨r, hr⟩ : ∃ r, fitB who o0 o3 b0 b3 = r := ⟨_, rfl⟩
  rw [hr]
  have HR : Hid _ := hr
  clear hr
  go_enter Try.func65, Try.ntmps65
  cases h1 : (o0 == b0) <;> cases h2 : (o3 == b3) <;> cases k0 : (who == 0) <;> cases k1 : (who == 1) <;> cases k2 : (who == 2) <;> cases k3 : (who == 3)
  all_goals first | (exfalso; simp only [beq_iff_eq] at k0 k1 k2 k3; omega) | skip
  all_goals
    have er := HR.out
    simp only [fitB, h1, h2, k0, k1, k2, k3] at er
    subst er
    clear HR
    go_wp2
    go_returns
    exact ⟨rfl, FIN.out _ _⟩
end Go.Proofs.Yticgadnmlbfmfaa.cachePlays
/-
  Chapter 14: state.Find, slices.Contains.
(r25)
-/
namespace Go.Proofs.Yticgadnmlbfmfaa.cachePlays
open Go.Shelf Go.RowKit Go.Lib Go.Sort
/-- The first place of a number; -1: none. -/
def fnd (n : Int) : List Int → Nat → Int
  | [], _ => -1
  | x :: l, i => if x = n then (i : Int) else fnd n l (i + 1)
theorem fnd_none {n : Int} : ∀ {l : List Int} {i : Nat}, (∀ j, j < l.length → l[j]! ≠ n) → fnd n l i = -1
  | [], _, _ => rfl
  | x :: l, i, h => by
    rw [fnd, if_neg (by simpa using h 0 (by simp)), fnd_none fun j hj => by simpa using h (j + 1) (by simpa using hj)]
theorem fnd_some {n : Int} : ∀ {l : List Int} {i k : Nat}, k < l.length → l[k]! = n → (∀ j, j < k → l[j]! ≠ n) → fnd n l i = (i : Int) + k
  | [], _, k, h, _, _ => by simp at h
  | x :: l, i, 0, _, h, _ => by
    rw [fnd, if_pos (by simpa using h)]
    simp
  | x :: l, i, k + 1, hk, h, ha => by
    rw [fnd, if_neg (by simpa using ha 0 (by omega)), fnd_some (k := k) (by simpa using hk) (by simpa using h) fun j hj => by simpa using ha (j + 1) (by omega)]
    omega
structure ObjAt (w : World) (B O : Nat) (o : Ov) : Prop where
  c0 : w.cell? ⟨B, O, none⟩ = some (.int .i64 o.id)
  c1 : w.cell? ⟨B, O + 1, none⟩ = some (.int .i64 o.card)
  c2 : w.cell? ⟨B, O + 2, none⟩ = some (.int .i64 o.own)
  c3 : w.cell? ⟨B, O + 3, none⟩ = some (.int .i64 o.ctrl)
  c4 : w.cell? ⟨B, O + 4, none⟩ = some (.int .i64 o.zone)
  c5 : w.cell? ⟨B, O + 5, none⟩ = some (.bool o.tap)
  c6 : w.cell? ⟨B, O + 6, none⟩ = some (.bool o.sick)
  c7 : w.cell? ⟨B, O + 7, none⟩ = some (.bool o.tok)
  c8 : w.cell? ⟨B, O + 8, none⟩ = some (.int .i64 o.hurt)
  c9 : w.cell? ⟨B, O + 9, none⟩ = some (.int .i64 o.st)
  c10 : w.cell? ⟨B, O + 10, none⟩ = some (.int .i64 o.att)
  c11 : w.cell? ⟨B, O + 11, none⟩ = some (.int .i64 o.blk)
  c12 : w.cell? ⟨B, O + 12, none⟩ = some (.bool o.stop)
  c13 : w.cell? ⟨B, O + 13, none⟩ = some (.slice o.ea o.en o.ec)
theorem Rows.obj {w : World} {a : Option Addr} {os : List Ov} (h : Rows w a 14 (os.map Ov.arr)) {i : Nat} (hi : i < os.length) : ∃ B O, a = some ⟨B, O, none⟩ ∧ B < w.heap.size ∧ ObjAt w B (O + i * 14) os[i] := by
  rcases h with h | ⟨B, O, e, hb, h⟩
  · rw [List.map_eq_nil_iff.1 h] at hi
    simp at hi
  · have := h i os[i].arr (by simp [hi])
    exact ⟨B, O, e, hb, this 0 _ rfl, this 1 _ rfl, this 2 _ rfl, this 3 _ rfl, this 4 _ rfl, this 5 _ rfl, this 6 _ rfl, this 7 _ rfl, this 8 _ rfl, this 9 _ rfl, this 10 _ rfl, this 11 _ rfl, this 12 _ rfl, this 13 _ rfl⟩
set_option maxHeartbeats 4000000 in
set_option maxRecDepth 100000 in
theorem find1_calls (o : Ov) (b : Nat) (id : Int) (w : World) (hc : w.cell? ⟨b, 0, none⟩ = some (.int .i64 id)) : Calls Try.prog 79 #[.agg o.arr, .pointer (some ⟨b, 0, none⟩)] w fun e w' => e = .returned (.bool (o.id == id)) ∧ Gr w w' := by
  obtain ⟨o0, o1, o2, o3, o4, o5, o6, o7, o8, o9, o10, o11, o12, o13, o14, o15⟩ := o
  simp only [Ov.arr]
  have hc2 : ∀ A, (w.alloc A).cell? ⟨b, 0, none⟩ = some (.int .i64 id) := fun A => cell?_alloc_some A hc
  have fin : ∀ A, Gr w (w.alloc A) := fun A => (Gr.refl _).alloc _
  have FIN : Aside _ := fin
  clear fin
  go_enter Try.func79, Try.ntmps79
  go_wp2
  go_returns
  exact ⟨rfl, FIN.out _⟩
set_option maxHeartbeats 4000000 in
set_option maxRecDepth 100000 in
theorem idxf_calls (os : List Ov) (oa : Option Addr) (oc b : Nat) (id : Int) (w : World) (hR : Rows w oa 14 (os.map Ov.arr)) (hl : os.length < 4611686018427387904) (hc : w.cell? ⟨b, 0, none⟩ = some (.int .i64 id)) (hb : b < w.heap.size) :
    Calls Try.prog 78 #[.slice oa os.length oc, .func (.func 79) #[] #[.pointer (some ⟨b, 0, none⟩)]] w fun e w' => e = .returned (.int .i64 (fnd id (os.map Ov.id) 0)) ∧ Gr w w' := by
  have HR : Aside (Rows w oa 14 (os.map Ov.arr)) := hR
  have HC : Aside (w.cell? ⟨b, 0, none⟩ = some (.int .i64 id)) := hc
  clear hR hc
  go_enter Try.func78, Try.ntmps78
  go_wp2
  go_loopg [8] os.length (fun kx s8 wr => ∃ i : Nat, s8 = .int .i64 i ∧ i ≤ os.length ∧ os.length - i ≤ kx ∧ Aside (Gr w wr) ∧ Hid (∀ j, j < i → (os.map Ov.id)[j]! ≠ id))
  case atStart => exact ⟨0, rfl, Nat.zero_le _, Nat.le_refl _, Gr.refl _, fun j hj => by omega⟩
  case round =>
    obtain ⟨i, rfl, hid, hkx, S1, HE⟩ := hrel
    by_cases hlt : i < os.length
    · have hltz : (i : Int) < (os.length : Int) := by omega
      obtain ⟨B, O, rfl, hB, HO⟩ := (HR.out.gr S1.out).obj hlt
      obtain ⟨c0, c1, c2, c3, c4, c5, c6, c7, c8, c9, c10, c11, c12, c13⟩ := HO
      have hn := find1_calls os[i] b id wr (by rw [Gr.cell S1.out hb]; exact HC.out)
      have wi : IntKind.i64.wrap ((i : Int) + 1) = (i : Int) + 1 := by rw [IntKind.wrap_i64]; omega
      have HL : Hid ((os.map Ov.id)[i]! = os[i].id) := by simp [hlt, Hid]
      obtain ⟨x, hx⟩ : ∃ x, x = os[i] := ⟨_, rfl⟩
      rw [← hx] at c0 c1 c2 c3 c4 c5 c6 c7 c8 c9 c10 c11 c12 c13 hn HL
      clear hx
      obtain ⟨o0, o1, o2, o3, o4, o5, o6, o7, o8, o9, o10, o11, o12, o13, o14, o15⟩ := x
      simp only [Ov.arr] at c0 c1 c2 c3 c4 c5 c6 c7 c8 c9 c10 c11 c12 c13 hn
      cases hq : (o0 == id) with
      | true =>
        rw [hq] at hn
        go_wp2_with (go_at_call 79; refine hn.mono ?_; rintro e w1 ⟨rfl, hG⟩)
        go_returns
        refine ⟨?_, Gr.trans S1.out hG⟩
        rw [fnd_some (k := i) (by simpa using hlt) (by rw [HL.out]; exact of_decide_eq_true hq) HE.out]
        simp
      | false =>
        rw [hq] at hn
        go_wp2_with (go_at_call 79; refine hn.mono ?_; rintro e w1 ⟨rfl, hG⟩)
        have S2 : Aside (Gr w w1) := Gr.trans S1.out hG
        go_roundg (os.length - (i + 1))
        case measure => omega
        case rel =>
          refine ⟨i + 1, by first | rfl | go_num, by omega, Nat.le_refl _, S2, fun j hj => ?_⟩
          rcases Nat.lt_or_ge j i with h | h
          · exact HE.out j h
          · rw [show j = i by omega, HL.out]
            exact of_decide_eq_false hq
    · have hltz : ¬ (i : Int) < (os.length : Int) := by omega
      go_wp2
      go_returns
      refine ⟨?_, S1.out⟩
      rw [fnd_none fun j hj => HE.out j (by simp at hj; omega)]
      rfl
/-- A state, as a value. -/
structure Sv where
  os : List Ov
  oa : Option Addr
  oc : Nat
  fs : List Int
  fa : Option Addr
  fc : Nat
  r : Nat → Value
def Sv.arr (s : Sv) : Array Value := #[s.r 0, .slice s.oa s.os.length s.oc, s.r 2, s.r 3, s.r 4, s.r 5, .slice s.fa s.fs.length s.fc, s.r 7, s.r 8, s.r 9, s.r 10, s.r 11, s.r 12, s.r 13, s.r 14, s.r 15, s.r 16, s.r 17, s.r 18, s.r 19, s.r 20, s.r 21, s.r 22, s.r 23, s.r 24]
/-- It lies in memory. -/
structure Sv.OK (s : Sv) (w : World) : Prop where
  o : Rows w s.oa 14 (s.os.map Ov.arr)
  f : Rows w s.fa 1 (s.fs.map fun n => #[.int .i64 n])
  lo : s.os.length < 4611686018427387904
  lf : s.fs.length < 4611686018427387904
theorem Sv.OK.gr {s : Sv} {w w' : World} (h : s.OK w) (g : Gr w w') : s.OK w' := ⟨h.o.gr g, h.f.gr g, h.lo, h.lf⟩
def Sv.find (s : Sv) (id : Int) : Int := fnd id (s.os.map Ov.id) 0
set_option maxHeartbeats 4000000 in
set_option maxRecDepth 100000 in
theorem find_calls (s : Sv) (id : Int) (w : World) (h : s.OK w) : Calls Try.prog 62 #[.agg s.arr, .int .i64 id] w fun e w' => e = .returned (.int .i64 (s.find id)) ∧ Gr w w' := by
  obtain ⟨os, oa, oc, fs, fa, fc, r⟩ := s
  simp only [Sv.arr, Sv.find]
  have hg : ∀ A B, Gr w ((w.alloc A).alloc B) := fun A B => (Gr.refl _).alloc _ |>.alloc _
  have hc := fun A B => idxf_calls os oa oc (w.heap.size + 1) id ((w.alloc A).alloc (.cells #[.int .i64 id] B)) (h.o.gr (hg _ _)) h.lo (by simp) (by simp)
  have HG : Aside _ := hg
  clear hg
  go_enter Try.func62, Try.ntmps62
  go_wp2_with (go_at_call 78; refine (hc _ _).mono ?_; rintro e w1 ⟨rfl, h1⟩)
  go_returns
  exact ⟨rfl, Gr.trans (HG.out _ _) h1⟩
set_option maxHeartbeats 4000000 in
set_option maxRecDepth 100000 in
theorem index_calls (fs : List Int) (fa : Option Addr) (fc : Nat) (id : Int) (w : World) (hR : Rows w fa 1 (fs.map fun n => #[.int .i64 n])) (hl : fs.length < 4611686018427387904) :
    Calls Try.prog 80 #[.slice fa fs.length fc, .int .i64 id] w fun e w' => e = .returned (.int .i64 (fnd id fs 0)) ∧ w' = w := by
  have HR : Aside (Rows w fa 1 (fs.map fun n => #[.int .i64 n])) := hR
  clear hR
  go_enter Try.func80, Try.ntmps80
  go_wp2
  go_loopg [8] fs.length (fun kx s8 wr => ∃ i : Nat, s8 = .int .i64 i ∧ i ≤ fs.length ∧ fs.length - i ≤ kx ∧ wr = w ∧ Hid (∀ j, j < i → fs[j]! ≠ id))
  case atStart => exact ⟨0, rfl, Nat.zero_le _, Nat.le_refl _, rfl, fun j hj => by omega⟩
  case round =>
    obtain ⟨i, rfl, hid, hkx, rfl, HE⟩ := hrel
    by_cases hlt : i < fs.length
    · have hltz : (i : Int) < (fs.length : Int) := by omega
      have wi : IntKind.i64.wrap ((i : Int) + 1) = (i : Int) + 1 := by rw [IntKind.wrap_i64]; omega
      rcases HR.out with h | ⟨B, O, rfl, hB, h⟩
      · rw [List.map_eq_nil_iff.1 h] at hlt
        simp at hlt
      · have c0 := h i #[.int .i64 fs[i]] (by simp [hlt]) 0 _ rfl
        simp only [Nat.mul_one, Nat.add_zero] at c0
        clear h
        have HL : Hid (fs[i]! = fs[i]) := by simp [hlt, Hid]
        generalize fs[i] = x at c0 HL
        cases hq : (id == x) with
        | true =>
          go_wp2
          go_returns
          refine ⟨?_, rfl⟩
          rw [fnd_some (k := i) hlt (by rw [HL.out]; exact (of_decide_eq_true hq).symm) HE.out]
          simp
        | false =>
          go_wp2
          go_roundg (fs.length - (i + 1))
          case measure => omega
          case rel =>
            refine ⟨i + 1, by first | rfl | go_num, by omega, Nat.le_refl _, rfl, fun j hj => ?_⟩
            rcases Nat.lt_or_ge j i with h | h
            · exact HE.out j h
            · rw [show j = i by omega, HL.out]
              exact fun e => of_decide_eq_false hq e.symm
    · have hltz : ¬ (i : Int) < (fs.length : Int) := by omega
      go_wp2
      go_returns
      refine ⟨?_, rfl⟩
      rw [fnd_none fun j hj => HE.out j (by omega)]
      rfl
set_option maxHeartbeats 4000000 in
set_option maxRecDepth 100000 in
theorem contains_calls (fs : List Int) (fa : Option Addr) (fc : Nat) (id : Int) (w : World) (hR : Rows w fa 1 (fs.map fun n => #[.int .i64 n])) (hl : fs.length < 4611686018427387904) :
    Calls Try.prog 63 #[.slice fa fs.length fc, .int .i64 id] w fun e w' => e = .returned (.bool (decide (0 ≤ fnd id fs 0))) ∧ w' = w := by
  have hc := index_calls fs fa fc id w hR hl
  clear hR
  go_enter Try.func63, Try.ntmps63
  go_wp2_with (go_at_call 80; refine hc.mono ?_; rintro e w1 ⟨rfl, rfl⟩)
  go_returns
  exact ⟨by first | rfl | simp, rfl⟩
end Go.Proofs.Yticgadnmlbfmfaa.cachePlays
/-
  Chapter 14: find: a beast, and its card.
(r25)
-/
namespace Go.Proofs.Yticgadnmlbfmfaa.cachePlays
open Go.Shelf Go.RowKit Go.Lib Go.Sort
/-- A card. -/
structure Cv where
  name : ByteArray
  kind : Int
  c0 : Int
  c1 : Int
  c2 : Int
  c3 : Int
  col : Int
  pow : Int
  tou : Int
  keys : Int
  aa : Option Addr
  an : Nat
  ac : Nat
def Cv.arr (c : Cv) : Array Value := #[.string c.name, .int .i64 c.kind, .int .i64 c.c0, .int .i64 c.c1, .int .i64 c.c2, .int .i64 c.c3, .int .i64 c.col, .int .i64 c.pow, .int .i64 c.tou, .int .i64 c.keys, .slice c.aa c.an c.ac]
def zO : Ov := ⟨0, 0, 0, 0, 0, false, false, false, 0, 0, 0, 0, false, none, 0, 0⟩
def zC : Cv := ⟨⟨#[]⟩, 0, 0, 0, 0, 0, 0, 0, 0, 0, none, 0, 0⟩
instance : Inhabited Ov := ⟨zO⟩
instance : Inhabited Cv := ⟨zC⟩
structure CardAt (w : World) (B O : Nat) (c : Cv) : Prop where
  c0 : w.cell? ⟨B, O, none⟩ = some (.string c.name)
  c1 : w.cell? ⟨B, O + 1, none⟩ = some (.int .i64 c.kind)
  c2 : w.cell? ⟨B, O + 2, none⟩ = some (.int .i64 c.c0)
  c3 : w.cell? ⟨B, O + 3, none⟩ = some (.int .i64 c.c1)
  c4 : w.cell? ⟨B, O + 4, none⟩ = some (.int .i64 c.c2)
  c5 : w.cell? ⟨B, O + 5, none⟩ = some (.int .i64 c.c3)
  c6 : w.cell? ⟨B, O + 6, none⟩ = some (.int .i64 c.col)
  c7 : w.cell? ⟨B, O + 7, none⟩ = some (.int .i64 c.pow)
  c8 : w.cell? ⟨B, O + 8, none⟩ = some (.int .i64 c.tou)
  c9 : w.cell? ⟨B, O + 9, none⟩ = some (.int .i64 c.keys)
  c10 : w.cell? ⟨B, O + 10, none⟩ = some (.slice c.aa c.an c.ac)
theorem Rows.card {w : World} {a : Option Addr} {cs : List Cv} (h : Rows w a 11 (cs.map Cv.arr)) {i : Nat} (hi : i < cs.length) : ∃ B O, a = some ⟨B, O, none⟩ ∧ B < w.heap.size ∧ CardAt w B (O + i * 11) cs[i] := by
  rcases h with h | ⟨B, O, e, hb, h⟩
  · rw [List.map_eq_nil_iff.1 h] at hi
    simp at hi
  · have := h i cs[i].arr (by simp [hi])
    exact ⟨B, O, e, hb, this 0 _ rfl, this 1 _ rfl, this 2 _ rfl, this 3 _ rfl, this 4 _ rfl, this 5 _ rfl, this 6 _ rfl, this 7 _ rfl, this 8 _ rfl, this 9 _ rfl, this 10 _ rfl⟩
/-- What find tells. -/
def bst (cs : List Cv) (s : Sv) (id : Int) : Ov × Cv × Bool :=
  if s.find id < 0 ∨ fnd id s.fs 0 < 0 then (zO, zC, false)
  else if (s.os[(s.find id).toNat]!).card < 0 ∨ (cs.length : Int) ≤ (s.os[(s.find id).toNat]!).card then (s.os[(s.find id).toNat]!, zC, false)
  else (s.os[(s.find id).toNat]!, cs[(s.os[(s.find id).toNat]!).card.toNat]!, (cs[(s.os[(s.find id).toNat]!).card.toNat]!).kind == 2)
theorem fnd_lt {n : Int} : ∀ {l : List Int} {i : Nat}, fnd n l i < (i : Int) + l.length ∧ (fnd n l i = -1 ∨ (i : Int) ≤ fnd n l i)
  | [], i => ⟨by simp only [fnd, List.length_nil]; omega, .inl rfl⟩
  | x :: l, i => by
    have := @fnd_lt n l (i + 1)
    rw [fnd, List.length_cons]
    split <;> omega
end Go.Proofs.Yticgadnmlbfmfaa.cachePlays
/-
  Chapter 14: find, walked with its aggregates unopened.
(r25)
-/
namespace Go.Proofs.Yticgadnmlbfmfaa.cachePlays
open Go.Shelf Go.RowKit Go.Lib Go.Sort
/-- What the program's text holds of chapter 14. -/
structure LayC (P : Program) (k32 k56 k54 : Nat) (y56 y54 : List Value) : Prop where
  mixed : P.follows .mixedOrders = true
  f46 : P.funcs[46]? = some Try.f46
  f47 : P.funcs[47]? = some Try.f47
  f23 : P.funcs[23]? = some Try.f23
  e62 : ∀ args w, (callFunc 62 args).run P w = .ok (.enter 62 args) w
  e63 : ∀ args w, (callFunc 63 args).run P w = .ok (.enter 63 args) w
  e46 : ∀ args w, (callFunc 46 args).run P w = .ok (.enter 46 args) w
  t3 : P.underlying 3 = some (.int .i64)
  a3 : ∀ w, (isAgg 3).run P w = .ok false w
  z3 : ∀ w, (Go.sizeOf 3).run P w = .ok 1 w
  v3 : ∀ w, (zeroValue 3).run P w = .ok (.int .i64 0) w
  t4 : P.underlying 4 = some .bool
  a4 : ∀ w, (isAgg 4).run P w = .ok false w
  z4 : ∀ w, (Go.sizeOf 4).run P w = .ok 1 w
  v4 : ∀ w, (zeroValue 4).run P w = .ok (.bool false) w
  t26 : P.underlying 26 = some (.slice 82)
  a26 : ∀ w, (isAgg 26).run P w = .ok false w
  z26 : ∀ w, (Go.sizeOf 26).run P w = .ok 1 w
  t67 : P.underlying 67 = some (.slice 30)
  a67 : ∀ w, (isAgg 67).run P w = .ok false w
  z67 : ∀ w, (Go.sizeOf 67).run P w = .ok 1 w
  t69 : P.underlying 69 = some (.slice 3)
  a69 : ∀ w, (isAgg 69).run P w = .ok false w
  z69 : ∀ w, (Go.sizeOf 69).run P w = .ok 1 w
  t107 : P.underlying 107 = some (.tuple #[30, 82, 4])
  t75 : P.underlying 75 = some (TypeDesc.struct #[{ name := "Players", type := 66, offset := 0, embedded := false, tag := "", pkgPath := "", byteOffset := 0 }, { name := "Objs", type := 67, offset := 1, embedded := false, tag := "", pkgPath := "", byteOffset := 24 }, { name := "Libs", type := 68, offset := 2, embedded := false, tag := "", pkgPath := "", byteOffset := 48 }, { name := "Hands", type := 68, offset := 3, embedded := false, tag := "", pkgPath := "", byteOffset := 72 }, { name := "Graves", type := 68, offset := 4, embedded := false, tag := "", pkgPath := "", byteOffset := 96 }, { name := "Exiles", type := 68, offset := 5, embedded := false, tag := "", pkgPath := "", byteOffset := 120 }, { name := "Field", type := 69, offset := 6, embedded := false, tag := "", pkgPath := "", byteOffset := 144 }, { name := "Stack", type := 70, offset := 7, embedded := false, tag := "", pkgPath := "", byteOffset := 168 }, { name := "Waits", type := 70, offset := 8, embedded := false, tag := "", pkgPath := "", byteOffset := 192 }, { name := "Turn", type := 3, offset := 9, embedded := false, tag := "", pkgPath := "", byteOffset := 216 }, { name := "Active", type := 3, offset := 10, embedded := false, tag := "", pkgPath := "", byteOffset := 224 }, { name := "Phase", type := 3, offset := 11, embedded := false, tag := "", pkgPath := "", byteOffset := 232 }, { name := "Prio", type := 3, offset := 12, embedded := false, tag := "", pkgPath := "", byteOffset := 240 }, { name := "Passes", type := 3, offset := 13, embedded := false, tag := "", pkgPath := "", byteOffset := 248 }, { name := "Blocker", type := 3, offset := 14, embedded := false, tag := "", pkgPath := "", byteOffset := 256 }, { name := "Next", type := 3, offset := 15, embedded := false, tag := "", pkgPath := "", byteOffset := 264 }, { name := "Stamp", type := 3, offset := 16, embedded := false, tag := "", pkgPath := "", byteOffset := 272 }, { name := "Used", type := 3, offset := 17, embedded := false, tag := "", pkgPath := "", byteOffset := 280 }, { name := "Cast", type := 73, offset := 18, embedded := false, tag := "", pkgPath := "", byteOffset := 288 }, { name := "Outcome", type := 3, offset := 23, embedded := false, tag := "", pkgPath := "", byteOffset := 344 }, { name := "Winner", type := 3, offset := 24, embedded := false, tag := "", pkgPath := "", byteOffset := 352 }])
  t30 : P.underlying 30 = some (TypeDesc.struct #[{ name := "Id", type := 3, offset := 0, embedded := false, tag := "", pkgPath := "", byteOffset := 0 }, { name := "Card", type := 3, offset := 1, embedded := false, tag := "", pkgPath := "", byteOffset := 8 }, { name := "Owner", type := 3, offset := 2, embedded := false, tag := "", pkgPath := "", byteOffset := 16 }, { name := "Ctrl", type := 3, offset := 3, embedded := false, tag := "", pkgPath := "", byteOffset := 24 }, { name := "Zone", type := 3, offset := 4, embedded := false, tag := "", pkgPath := "", byteOffset := 32 }, { name := "Tapped", type := 4, offset := 5, embedded := false, tag := "", pkgPath := "", byteOffset := 40 }, { name := "Sick", type := 4, offset := 6, embedded := false, tag := "", pkgPath := "", byteOffset := 41 }, { name := "Token", type := 4, offset := 7, embedded := false, tag := "", pkgPath := "", byteOffset := 42 }, { name := "Hurt", type := 3, offset := 8, embedded := false, tag := "", pkgPath := "", byteOffset := 48 }, { name := "Stamp", type := 3, offset := 9, embedded := false, tag := "", pkgPath := "", byteOffset := 56 }, { name := "Attack", type := 3, offset := 10, embedded := false, tag := "", pkgPath := "", byteOffset := 64 }, { name := "Block", type := 3, offset := 11, embedded := false, tag := "", pkgPath := "", byteOffset := 72 }, { name := "Stopped", type := 4, offset := 12, embedded := false, tag := "", pkgPath := "", byteOffset := 80 }, { name := "Effects", type := 28, offset := 13, embedded := false, tag := "", pkgPath := "", byteOffset := 88 }])
  t82 : P.underlying 82 = some (TypeDesc.struct #[{ name := "Name", type := 9, offset := 0, embedded := false, tag := "", pkgPath := "", byteOffset := 0 }, { name := "Kind", type := 3, offset := 1, embedded := false, tag := "", pkgPath := "", byteOffset := 16 }, { name := "Cost", type := 79, offset := 2, embedded := false, tag := "", pkgPath := "", byteOffset := 24 }, { name := "Color", type := 3, offset := 6, embedded := false, tag := "", pkgPath := "", byteOffset := 56 }, { name := "Power", type := 3, offset := 7, embedded := false, tag := "", pkgPath := "", byteOffset := 64 }, { name := "Tough", type := 3, offset := 8, embedded := false, tag := "", pkgPath := "", byteOffset := 72 }, { name := "Keys", type := 3, offset := 9, embedded := false, tag := "", pkgPath := "", byteOffset := 80 }, { name := "Abils", type := 80, offset := 10, embedded := false, tag := "", pkgPath := "", byteOffset := 88 }])
  t28 : P.underlying 28 = some (.slice 49)
  a28 : ∀ w, (isAgg 28).run P w = .ok false w
  z28 : ∀ w, (Go.sizeOf 28).run P w = .ok 1 w
  a75 : ∀ w, (isAgg 75).run P w = .ok true w
  z75 : ∀ w, (Go.sizeOf 75).run P w = .ok k32 w
  a30 : ∀ w, (isAgg 30).run P w = .ok true w
  z30 : ∀ w, (Go.sizeOf 30).run P w = .ok k56 w
  v30 : ∀ w, (zeroValue 30).run P w = .ok (.agg y56.toArray) w
  a82 : ∀ w, (isAgg 82).run P w = .ok true w
  z82 : ∀ w, (Go.sizeOf 82).run P w = .ok k54 w
  v82 : ∀ w, (zeroValue 82).run P w = .ok (.agg y54.toArray) w
end Go.Proofs.Yticgadnmlbfmfaa.cachePlays
