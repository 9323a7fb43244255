/-
  Chapter 14: the walked functions, of this program.
(r25)
-/
import Derived.Test.YticgadnmlbfmfaaTxT
namespace Go.Proofs.Yticgadnmlbfmfaa.cachePlays
open Go.Shelf Go.RowKit Go.Lib Go.Sort
theorem flatE_get : ∀ (l : List Ef) (i : Nat) (h : i < l.length) (k : Nat), k < 4 → (flatE l)[i * 4 + k]? = (encE l[i])[k]?
  | x :: l, 0, _, k, hk => by
    have e : flatE (x :: l) = encE x ++ flatE l := by simp [flatE]
    rw [e, List.getElem?_append_left (by rw [encE_len]; omega)]
    simp
  | x :: l, i + 1, h, k, hk => by
    have e : flatE (x :: l) = encE x ++ flatE l := by simp [flatE]
    rw [e, List.getElem?_append_right (by rw [encE_len]; omega), encE_len, show (i + 1) * 4 + k - 4 = i * 4 + k by omega, flatE_get l i (by simpa using h) k hk]
    simp
theorem ltE (x y : Ef) : ltOf cmpE x y = true ↔ (lyr x.1 < lyr y.1 ∨ lyr x.1 = lyr y.1 ∧ x.2.2.2 < y.2.2.2) := by
  unfold ltOf cmpE
  rw [decide_eq_true_iff]
  split
  · split
    · omega
    · split <;> omega
  · omega
theorem ltE_f (x y : Ef) : ltOf cmpE x y = false ↔ ¬ (lyr x.1 < lyr y.1 ∨ lyr x.1 = lyr y.1 ∧ x.2.2.2 < y.2.2.2) := by
  rw [← ltE, Bool.not_eq_true]
theorem eqv_cmpE (x z : Ef) : eqv (ltOf cmpE) x z = true ↔ lyr x.1 = lyr z.1 ∧ x.2.2.2 = z.2.2.2 := by
  unfold eqv
  rw [Bool.and_eq_true, Bool.not_eq_true', Bool.not_eq_true', ltE_f, ltE_f]
  omega
/-- What an object adds. -/
def rcon (sm : Nat → Bool) (st : Nat → Int) (an : Nat → Nat) (kd op va vb : Nat → Nat → Int) (fb : Nat → Nat → Bool) (p : Nat) : List Ef := if sm p = true then adds (fun j => if kd p j = 4 ∧ fb p j = true then some (op p j, va p j, vb p j, st p) else none) (an p) else []
theorem rcon_le {on : Nat} {sm : Nat → Bool} {st : Nat → Int} {an : Nat → Nat} {kd op va vb : Nat → Nat → Int} {fb : Nat → Nat → Bool} (h : ∀ p, p < on → an p ≤ 1000) (p : Nat) (hp : p < on) : (rcon sm st an kd op va vb fb p).length ≤ 1000 := by
  unfold rcon
  split
  · exact Nat.le_trans (adds_le _ _) (h p hp)
  · simp
theorem gath_len' {fi : Int → Int} {con : Nat → List Ef} {on : Nat} (hlt : ∀ n, fi n < on) (h : ∀ p, p < on → (con p).length ≤ 1000) (fs : List Int) : (gath fi con fs).length ≤ fs.length * 1000 := by
  induction fs with
  | nil => simp [gath]
  | cons n fs ih =>
    unfold gath at ih ⊢
    rw [List.flatMap_cons, List.length_append, List.length_cons]
    have : (if 0 ≤ fi n then con (fi n).toNat else []).length ≤ 1000 := by
      split
      · exact h _ (by have := hlt n; omega)
      · simp
    omega
/-- An ability. -/
structure Av where
  kd : Int
  wh : Int
  op : Int
  va : Int
  vb : Int
  r : Nat → Value
def Av.arr (a : Av) : Array Value := #[.int .i64 a.kd, a.r 1, .int .i64 a.wh, a.r 3, a.r 4, a.r 5, a.r 6, a.r 7, a.r 8, a.r 9, .int .i64 a.op, .int .i64 a.va, .int .i64 a.vb]
def zA : List Value := [.int .i64 0, .int .i64 0, .int .i64 0, .int .i64 0, .int .i64 0, .int .i64 0, .int .i64 0, .bool false, .slice none 0 0, .slice none 0 0, .int .i64 0, .int .i64 0, .int .i64 0]
theorem layD : LayD Try.prog 25 14 11 13 zO.arr.toList zC.arr.toList zA where
  c := layC
  f64 := Try.func64
  e65 := enters_of Try.func65 (by kernel_rfl) rfl
  t89 := Try.underlying89
  a89 := Try.isAgg89
  z89 := Try.sizeOf89
  v89 := Try.zeroValue89
  t80 := Try.underlying80
  a80 := Try.isAgg80
  z80 := Try.sizeOf80
  t128 := Try.underlying128
  a128 := Try.isAgg128
  z128 := Try.sizeOf128
  v128 := Try.zeroValue128
  t49 := Try.underlying49
  a49 := Try.isAgg49
  z49 := Try.sizeOf49
  v49 := Try.zeroValue49
  i49 := by
    have h : (Try.prog.info? 49).map (fun i => (i.zero, i.size, i.bytes)) = some (some (.agg #[.int .i64 0, .int .i64 0, .int .i64 0, .int .i64 0]), 4, 32) := by kernel_rfl
    cases hi : Try.prog.info? 49 with
    | none => rw [hi] at h; cases h
    | some i =>
      rw [hi] at h
      injection h with h
      injection h with h1 h2
      injection h2 with h2 h3
      exact ⟨i, rfl, h1, h2, h3⟩
theorem layE : LayE Try.prog where
  e47 := enters_of Try.func47 (by kernel_rfl) rfl
  e37 := enters_of Try.func37 (by kernel_rfl) rfl
  t36 := Try.underlying36
  a36 := Try.isAgg36
  z36 := Try.sizeOf36
  v36 := Try.zeroValue36
theorem idx_none (w : World) : Calls Try.prog 81 #[.slice none 0 0, .func (.func 67) #[] #[]] w fun e w' => e = .returned (.int .i64 (-1)) ∧ w' = w := by
  go_enter Try.func81, Try.ntmps81
  go_wp2
  go_loopg [8] 0 (fun kx s8 wr => s8 = .int .i64 0 ∧ wr = w)
  case atStart => exact ⟨rfl, rfl⟩
  case round =>
    obtain ⟨rfl, rfl⟩ := hrel
    go_wp2
    go_returns
    exact ⟨rfl, rfl⟩
theorem del_none (w : World) : Calls Try.prog 66 #[.slice none 0 0, .func (.func 67) #[] #[]] w fun e w' => e = .returned (.slice none 0 0) ∧ w' = w := by
  have hc := idx_none w
  go_enter Try.func66, Try.ntmps66
  go_wp2_with (go_at_call 81; refine hc.mono ?_; rintro e w1 ⟨rfl, rfl⟩)
  go_returns
  exact ⟨rfl, rfl⟩
theorem tailT : Tail Try.prog where
  d0 := del_none
  d := fun g cap d W hH hg hs hc => eDel_calls g 0 cap d W hH hg hs hc
  s0 := fun rv W => eSorts_none rv none 0 W
  s := fun rv g cap d W hH hg hs => (eSorts_calls rv g 0 cap d W hH hg hs).mono fun e w' ⟨h1, d', h2, h3, h4⟩ => by
    have hz : d'.size = d.size := h2.sz
    have h5 := h2.st
    rw [seg_all] at h5
    rw [← hz] at h5
    rw [seg_all] at h5
    refine ⟨h1, d', hz, h5, ?_, swk_below h4 hg, h4.holds hg hH hz⟩
    refine List.pairwise_iff_getElem.2 fun i j hi hj hij => ?_
    have := h3 i j (Nat.zero_le _) hij (by rw [← hz]; simpa using hj)
    rw [getElem!_pos d' i (by simpa using hi), getElem!_pos d' j (by simpa using hj)] at this
    simpa using this
end Go.Proofs.Yticgadnmlbfmfaa.cachePlays
/-
  Chapter 14: the walked functions, of a state in memory.
(r25)
-/
namespace Go.Proofs.Yticgadnmlbfmfaa.cachePlays
open Go.Shelf Go.RowKit Go.Lib Go.Sort
instance : Inhabited Av := ⟨⟨0, 0, 0, 0, 0, fun _ => .int .i64 0⟩⟩
theorem Stb.len {l m : List Ef} (h : Stb (ltOf cmpE) l m) : l.length = m.length := by
  refine List.Perm.length_eq (List.perm_iff_count.2 fun a => ?_)
  have k : ∀ l : List Ef, l.count a = (l.filter (eqv (ltOf cmpE) a)).count a := fun l => by
    rw [List.count_filter]
    rw [eqv_cmpE]
    exact ⟨rfl, rfl⟩
  rw [k l, k m, h a]
/-- Cards and a state in memory: each card's abilities, each object's effects. -/
structure Dw (w : World) (cs : List Cv) (ca : Option Addr) (s : Sv) (A : Nat → List Av) (E : Nat → List Ef) : Prop where
  ok : s.OK w
  hC : Rows w ca 11 (cs.map Cv.arr)
  nf : s.fs.length ≤ 900
  hA : ∀ i (h : i < cs.length), (A i).length = cs[i].an ∧ cs[i].an ≤ 1000 ∧ Rows w cs[i].aa 13 ((A i).map Av.arr) ∧ ∀ a ∈ A i, ∀ v ∈ a.arr.toList, v.oneCell' = true
  hE : ∀ i (h : i < s.os.length), (E i).length = s.os[i].en ∧ s.os[i].en ≤ 1000 ∧ Rows w s.os[i].ea 4 ((E i).map fun x => (encE x).toArray)
theorem Dw.below {w w' : World} {cs : List Cv} {ca : Option Addr} {s : Sv} {A : Nat → List Av} {E : Nat → List Ef} (h : Dw w cs ca s A E) (b : Below w.heap.size w w') : Dw w' cs ca s A E :=
  ⟨⟨h.ok.o.below b, h.ok.f.below b, h.ok.lo, h.ok.lf⟩, h.hC.below b, h.nf, fun i hi => ⟨(h.hA i hi).1, (h.hA i hi).2.1, (h.hA i hi).2.2.1.below b, (h.hA i hi).2.2.2⟩, fun i hi => ⟨(h.hE i hi).1, (h.hE i hi).2.1, (h.hE i hi).2.2.below b⟩⟩
theorem Dw.gr {w w' : World} {cs : List Cv} {ca : Option Addr} {s : Sv} {A : Nat → List Av} {E : Nat → List Ef} (h : Dw w cs ca s A E) (g : Gr w w') : Dw w' cs ca s A E := h.below (gr_below (.refl _ _) (Nat.le_refl _) g)
/-- Whether an object has a card. -/
def smE (cs : List Cv) (s : Sv) (p : Nat) : Bool := decide (0 ≤ (s.os[p]!).card ∧ (s.os[p]!).card < cs.length)
def cdE (s : Sv) (p : Nat) : Nat := (s.os[p]!).card.toNat
/-- What an object adds. -/
def conE (cs : List Cv) (s : Sv) (A : Nat → List Av) (b : Ov) : Nat → List Ef := rcon (smE cs s) (fun p => (s.os[p]!).st) (fun p => (cs[cdE s p]!).an) (fun p j => ((A (cdE s p))[j]!).kd) (fun p j => ((A (cdE s p))[j]!).op) (fun p j => ((A (cdE s p))[j]!).va) (fun p j => ((A (cdE s p))[j]!).vb) (fun p j => fitB ((A (cdE s p))[j]!).wh (s.os[p]!).id (s.os[p]!).ctrl b.id b.ctrl)
/-- All that acts on a beast. -/
def allE (cs : List Cv) (s : Sv) (A : Nat → List Av) (E : Nat → List Ef) (id : Int) : List Ef := gath s.find (conE cs s A (bst cs s id).1) s.fs ++ E (s.find id).toNat
section
variable {w : World} {cs : List Cv} {ca : Option Addr} {s : Sv} {A : Nat → List Av} {E : Nat → List Ef}
theorem Dw.an (D : Dw w cs ca s A E) (i : Nat) : (cs[i]!).an ≤ 1000 := by
  rcases Nat.lt_or_ge i cs.length with h | h
  · rw [getElem!_pos cs i h]
    exact (D.hA i h).2.1
  · rw [getElem!_neg cs i (by omega)]
    decide
theorem Sv.find_lt (s : Sv) (n : Int) : s.find n < (s.os.length : Int) := by
  have := (@fnd_lt n (s.os.map Ov.id) 0).1
  rw [List.length_map] at this
  unfold Sv.find
  omega
theorem Dw.obj (D : Dw w cs ca s A E) {p : Nat} (hp : p < s.os.length) : ∃ B O, s.oa = some ⟨B, O, none⟩ ∧ Sem.run Try.prog (loadCellsFrom ⟨B, O + p * 14, none⟩ 0 14 #[]) w = .ok (s.os[p]!).arr w ∧ w.cell? ⟨B, O + p * 14 + 9, none⟩ = some (.int .i64 (s.os[p]!).st) := by
  obtain ⟨B, O, ho, _, ha⟩ := D.ok.o.obj hp
  have hr := D.ok.o
  rw [ho] at hr
  have := hr.ld Try.prog (i := p) (x := s.os[p].arr) (by simp [hp]) rfl
  rw [Addr.add_lit] at this
  rw [getElem!_pos s.os p hp]
  exact ⟨B, O, ho, this, ha.c9⟩
theorem Dw.card (D : Dw w cs ca s A E) {i : Nat} (hi : i < cs.length) : ∃ B O, ca = some ⟨B, O, none⟩ ∧ Sem.run Try.prog (loadCellsFrom ⟨B, O + i * 11, none⟩ 0 11 #[]) w = .ok (cs[i]!).arr w ∧ w.cell? ⟨B, O + i * 11 + 10, none⟩ = some (.slice (cs[i]!).aa (cs[i]!).an (cs[i]!).ac) := by
  obtain ⟨B, O, ho, _, ha⟩ := D.hC.card hi
  have hr := D.hC
  rw [ho] at hr
  have := hr.ld Try.prog (i := i) (x := cs[i].arr) (by simp [hi]) rfl
  rw [Addr.add_lit] at this
  rw [getElem!_pos cs i hi]
  exact ⟨B, O, ho, this, ha.c10⟩
theorem Dw.abil (D : Dw w cs ca s A E) {i : Nat} (hi : i < cs.length) {j : Nat} (hj : j < (cs[i]!).an) : ∃ ad, (cs[i]!).aa = some ad ∧ Sem.run Try.prog (loadCellsFrom (ad.add (j * 13)) 0 13 #[]) w = .ok ((A i)[j]!).arr w ∧ ∀ v ∈ ((A i)[j]!).arr.toList, v.oneCell' = true := by
  obtain ⟨h1, _, h3, h4⟩ := D.hA i hi
  rw [getElem!_pos cs i hi] at hj ⊢
  have hj' : j < (A i).length := by omega
  rw [getElem!_pos (A i) j hj']
  have hx : ((A i).map Av.arr)[j]? = some ((A i)[j]).arr := by simp [hj']
  rcases h3 with h | ⟨B, O, e, hb, h⟩
  · rw [h] at hx
    simp at hx
  · refine ⟨_, e, ?_, h4 _ (List.getElem_mem hj')⟩
    have : Rows w (some ⟨B, O, none⟩) 13 ((A i).map Av.arr) := .inr ⟨B, O, rfl, hb, h⟩
    exact this.ld Try.prog hx rfl
theorem Dw.field (D : Dw w cs ca s A E) {i : Nat} (hi : i < s.fs.length) : ∃ B O, s.fa = some ⟨B, O, none⟩ ∧ w.cell? ⟨B, O + i, none⟩ = some (.int .i64 s.fs[i]!) := by
  rcases D.ok.f with h | ⟨B, O, e, hb, h⟩
  · rw [List.map_eq_nil_iff.1 h] at hi
    simp at hi
  · refine ⟨B, O, e, ?_⟩
    have := h i #[.int .i64 s.fs[i]] (by simp [hi]) 0 _ rfl
    rw [getElem!_pos s.fs i hi]
    simpa using this
theorem Dw.effs (D : Dw w cs ca s A E) {i : Nat} (hi : i < s.os.length) : (E i).length = (s.os[i]!).en ∧ (s.os[i]!).en ≤ 1000 ∧ ((s.os[i]!).ea = none → E i = []) ∧ ∀ ad, (s.os[i]!).ea = some ad → ∀ j u, (flatE (E i))[j]? = some u → w.cell? (ad.add j) = some u := by
  obtain ⟨h1, h2, h3⟩ := D.hE i hi
  rw [getElem!_pos s.os i hi]
  refine ⟨h1, h2, fun hn => ?_, fun ad had j u hu => ?_⟩
  · rcases h3 with h | ⟨B, O, e, _⟩
    · exact List.map_eq_nil_iff.1 h
    · rw [hn] at e
      cases e
  · rcases h3 with h | ⟨B, O, e, hb, h⟩
    · rw [List.map_eq_nil_iff.1 h] at hu
      simp [flatE] at hu
    · rw [had] at e
      injection e with e
      subst e
      have hj : j < (flatE (E i)).length := (List.getElem?_eq_some_iff.1 hu).1
      rw [flatE_len] at hj
      have hk : j / 4 < (E i).length := by omega
      have := flatE_get (E i) (j / 4) hk (j % 4) (by omega)
      rw [show j / 4 * 4 + j % 4 = j by omega, hu] at this
      have := h (j / 4) (encE (E i)[j / 4]).toArray (by simp [hk]) (j % 4) u (by simpa using this.symm)
      rw [Addr.add_lit]
      rwa [show O + j / 4 * 4 + j % 4 = O + j by omega] at this
theorem smE_iff {p : Nat} : smE cs s p = true ↔ 0 ≤ (s.os[p]!).card ∧ (s.os[p]!).card < cs.length := by simp [smE]
theorem card_le (D : Dw w cs ca s A E) (b : Ov) (p : Nat) : (conE cs s A b p).length ≤ 1000 := by
  unfold conE
  exact rcon_le (on := p + 1) (fun _ _ => D.an _) p (Nat.lt_succ_self _)
theorem all_le (D : Dw w cs ca s A E) (id : Int) (h : (bst cs s id).2.2 = true) : (allE cs s A E id).length ≤ 1000000 := by
  unfold allE
  rw [List.length_append]
  have h1 := gath_len' (fi := s.find) (con := conE cs s A (bst cs s id).1) (on := s.os.length) s.find_lt (fun p _ => card_le D _ p) s.fs
  have h2 := D.nf
  have h3 : (E (s.find id).toNat).length ≤ 1000 := by
    have hf : ¬ (s.find id < 0) := fun hn => by
      rw [bst, if_pos (.inl hn)] at h
      cases h
    have hl := s.find_lt id
    have := D.effs (i := (s.find id).toNat) (by omega)
    omega
  omega
end
end Go.Proofs.Yticgadnmlbfmfaa.cachePlays
/-
  Chapter 14: the walked functions, of a state in memory: what each tells.
(r25)
-/
namespace Go.Proofs.Yticgadnmlbfmfaa.cachePlays
open Go.Shelf Go.RowKit Go.Lib Go.Sort
variable {w : World} {cs : List Cv} {ca : Option Addr} {s : Sv} {A : Nat → List Av} {E : Nat → List Ef}
theorem find_below (D : Dw w cs ca s A E) (n : Int) (W : World) (b : Below w.heap.size w W) : Calls Try.prog 62 #[.agg s.arr, .int .i64 n] W fun e w' => e = .returned (.int .i64 (s.find n)) ∧ Gr W w' := find_calls s n W (D.below b).ok
theorem act_calls (D : Dw w cs ca s A E) (cc : Nat) (b : Ov) (p : Nat) (_hp : p < s.os.length) (b3 b7 bl : Nat) (W : World) (lv : Value) (l : List Ef) (_h3 : b3 < bl) (h7 : b7 < bl) (hN : w.heap.size ≤ bl) (hB : Below w.heap.size w W) (c3 : W.heap[b3]? = some (.cells #[.slice ca cs.length cc] 26)) (c7 : W.heap[b7]? = some (.cells b.arr 30)) (cl : W.heap[bl]? = some (.cells #[lv] 128)) (ho : W.ownsRow (bl + 1) 49 4 lv l.length (flatE l)) (hl : l.length ≤ 999000) :
    Calls Try.prog 64 #[.agg (s.os[p]!).arr, .pointer (some ⟨b3, 0, none⟩), .pointer (some ⟨b7, 0, none⟩), .pointer (some ⟨bl, 0, none⟩)] W fun e w' => e = .returned (.tuple #[]) ∧ ∃ lv', Below bl W w' ∧ w'.heap[bl]? = some (.cells #[lv'] 128) ∧ w'.ownsRow (bl + 1) 49 4 lv' (l ++ conE cs s A b p).length (flatE (l ++ conE cs s A b p)) := by
  have D1 := D.below hB
  have k3 := hold_cell (blk_hold (l := [.slice ca cs.length cc]) c3) (j := 0) rfl
  cases hs : smE cs s p with
  | false =>
    have hz : (s.os[p]!).card < 0 ∨ (cs.length : Int) ≤ (s.os[p]!).card := by
      by_cases h : 0 ≤ (s.os[p]!).card ∧ (s.os[p]!).card < cs.length
      · rw [smE_iff.2 h] at hs
        cases hs
      · omega
    have hc : conE cs s A b p = [] := by
      unfold conE rcon
      rw [if_neg (by rw [hs]; exact Bool.false_ne_true)]
    rw [hc, List.append_nil]
    refine (act_none layD b3 b7 bl (s.os[p]!).arr.toList (s.os[p]!).card rfl ca cs.length cc W k3 lv l.length (flatE l) cl ho hz).mono ?_
    rintro e w' ⟨h1, h2, h4, h5⟩
    exact ⟨h1, lv, h2, h4, h5⟩
  | true =>
    obtain ⟨z1, z2⟩ := smE_iff.1 hs
    have hcd : ((cdE s p : Nat) : Int) = (s.os[p]!).card := by unfold cdE; omega
    have hcl : cdE s p < cs.length := by omega
    obtain ⟨B, O, rfl, _, _⟩ := D1.card hcl
    have ho1 : ∀ W', Below bl W W' → Dw W' cs (some ⟨B, O, none⟩) s A E := fun W' k => D.below (hB.trans (k.mono hN))
    have := act_some layD rfl b3 b7 bl h7 (s.os[p]!).arr.toList rfl (cdE s p) (s.os[p]!).st (by rw [hcd]; rfl) rfl b.arr.toList rfl B O cs.length cc W k3 (blk_hold (l := b.arr.toList) c7) lv l cl ho hcl (cs[cdE s p]!).aa (cs[cdE s p]!).an (cs[cdE s p]!).ac (fun W' k => by
        obtain ⟨B', O', e, _, h⟩ := (ho1 W' k).card hcl
        injection e with e
        injection e with e1 e2
        subst e1 e2
        exact h) (fun j => ((A (cdE s p))[j]!).arr.toList) (fun j => ((A (cdE s p))[j]!).kd) (fun j => ((A (cdE s p))[j]!).wh) (fun j => ((A (cdE s p))[j]!).op) (fun j => ((A (cdE s p))[j]!).va) (fun j => ((A (cdE s p))[j]!).vb) (fun j => fitB ((A (cdE s p))[j]!).wh (s.os[p]!).id (s.os[p]!).ctrl b.id b.ctrl)
      (fun j _ => ⟨rfl, rfl, rfl, rfl, rfl, rfl⟩) (fun j hj => by
        obtain ⟨_, _, _, h⟩ := D1.abil hcl hj
        exact h) (fun j hj => by
        obtain ⟨ad, e, _, _⟩ := D1.abil hcl hj
        refine ⟨ad, e, fun W' k => ?_⟩
        obtain ⟨ad', e', h, _⟩ := (ho1 W' k).abil hcl hj
        rw [e] at e'
        injection e' with e'
        subst e'
        simpa using h) (fun j _ W' => eFits_calls _ (s.os[p]!) b W') (by have := D.an (cdE s p); omega)
    unfold conE rcon
    rw [if_pos hs]
    exact this
theorem efIn (D : Dw w cs ca s A E) (cc : Nat) (b : Ov) : EfIn Try.prog 14 w ca cs.length cc s.arr.toList b.arr.toList s.find s.os.length (fun p => (s.os[p]!).arr.toList) (conE cs s A b) where
  e64 := enters_of Try.func64 (by kernel_rfl) rfl
  e66 := enters_of Try.func66 (by kernel_rfl) rfl
  e68 := enters_of Try.func68 (by kernel_rfl) rfl
  f62 := fun n W h => find_below D n W h
  lt := s.find_lt
  act := fun p hp b3 b7 bl W lv l h3 h7 hN hB c3 c7 cl ho hl => act_calls D cc b p hp b3 b7 bl W lv l h3 h7 hN hB c3 (by simpa using c7) cl ho hl
  con := card_le D b
  hX := fun p _ => rfl
theorem fnd_iff {n : Int} : ∀ {l : List Int} {i : Nat}, (0 ≤ fnd n l i ↔ ∃ j, j < l.length ∧ l[j]! = n)
  | [], i => by simp [fnd]
  | x :: l, i => by
    have ih := @fnd_iff n l (i + 1)
    rw [fnd]
    split
    · rename_i h
      exact ⟨fun _ => ⟨0, by simp, by simpa using h⟩, fun _ => by omega⟩
    · rename_i h
      rw [ih]
      constructor
      · rintro ⟨j, hj, e⟩
        exact ⟨j + 1, by simpa using hj, by simpa using e⟩
      · rintro ⟨j, hj, e⟩
        cases j with
        | zero => exact absurd (by simpa using e) h
        | succ j => exact ⟨j, by simpa using hj, by simpa using e⟩
/-- What is told of lists. -/
def Qe (all R : List Ef) : Prop := Stb (ltOf cmpE) (all.filter hasL) R ∧ Srt (ltOf cmpE) R
theorem Qe.le {all R : List Ef} (h : Qe all R) : R.length ≤ all.length := by
  rw [← h.1.len]
  exact List.length_filter_le _ _
theorem Qe.uniq {all R S : List Ef} (h : Qe all R) (k : Qe all S) : R = S := uniq_stb (fun x => by rw [ltE_f]; omega) h.2 k.2 (h.1.symm.trans k.1)
theorem bst_on {id : Int} (h : (bst cs s id).2.2 = true) : ∃ ix : Nat, s.find id = ix ∧ ix < s.os.length ∧ (bst cs s id).1 = s.os[ix]! := by
  have h1 : ¬ (s.find id < 0 ∨ fnd id s.fs 0 < 0) := fun h1 => by
    rw [bst, if_pos h1] at h
    cases h
  have hl := s.find_lt id
  refine ⟨(s.find id).toNat, by omega, by omega, ?_⟩
  rw [bst, if_neg h1]
  split <;> rfl
/-- A list that a function tells. -/
def OutE (w : World) (all : List Ef) (e : Ending) (w' : World) : Prop := ∃ a c R, e = .returned (.slice a (List.length R) c) ∧ Qe all R ∧ Below w.heap.size w w' ∧ (R = [] ∨ ∃ g o, a = some ⟨g, o, none⟩ ∧ g < w'.heap.size ∧ HoldsK encE 4 w' g o R.toArray)
section
variable (D : Dw w cs ca s A E) (cc : Nat) (id : Int)
include D
theorem ef_all (h : (bst cs s id).2.2 = true) : Calls Try.prog 47 #[.slice ca cs.length cc, .agg s.arr, .int .i64 id] w (OutE w (allE cs s A E id)) := by
  obtain ⟨ix, hix, hlt, e1⟩ := bst_on h
  obtain ⟨B, O, hoa, _, _⟩ := D.obj hlt
  obtain ⟨f1, f2, f3, f4⟩ := D.effs hlt
  have h21 : ∀ W, Gr w W → Calls Try.prog 46 #[.slice ca cs.length cc, .agg s.arr, .int .i64 id] W fun e w' => e = .returned (.tuple #[.agg (bst cs s id).1.arr, .agg (bst cs s id).2.1.arr, .bool true]) ∧ Gr W w' := fun W k => by
    have := findb_calls cs ca cc s id W (D.gr k).ok (D.gr k).hC
    rwa [h] at this
  rw [e1] at h21
  have := ef_beast layD rfl rfl ca cs.length cc s.arr.toList rfl B O s.os.length s.oc (by rw [← hoa]; rfl) s.fa s.fs s.fc rfl id w (s.os[ix]!).arr.toList (bst cs s id).2.1.arr.toList rfl rfl (Ov.one _) (Cv.one _) h21 s.find (fun p => (s.os[p]!).arr.toList) (conE cs s A (s.os[ix]!)) (efIn D cc (s.os[ix]!)) D.nf
    (fun i hi => by
      obtain ⟨B', O', e, _⟩ := D.field hi
      refine ⟨B', O', e, fun W k => ?_⟩
      obtain ⟨B'', O'', e', k'⟩ := (D.below k).field hi
      rw [e] at e'
      injection e' with e'
      injection e' with e1 e2
      subst e1 e2
      exact k')
    (fun p hp W k => by
      obtain ⟨B', O', e, k', _⟩ := (D.below k).obj hp
      rw [hoa] at e
      injection e with e
      injection e with e1 e2
      subst e1 e2
      simpa using k') (s.os[ix]!).ea (E ix) (s.os[ix]!).ec (by rw [f1]; rfl) (by omega) f3 (fun ad had W k => ((D.below k).effs hlt).2.2.2 ad had) tailT
  refine this.mono ?_
  rintro e w' ⟨a, c, R, k1, k2, k3, k4, k5⟩
  refine ⟨a, c, R, k1, ⟨?_, k3⟩, k4, k5.imp (fun h => h) fun ⟨g, h1, h2, h3⟩ => ⟨g, 0, h1, h2, h3⟩⟩
  unfold allE
  rw [e1, hix, Int.toNat_natCast]
  exact k2
end
end Go.Proofs.Yticgadnmlbfmfaa.cachePlays
/-
  Chapter 14: what Of tells on both sides, of a state in memory.
(r25)
-/
namespace Go.Proofs.Yticgadnmlbfmfaa.cachePlays
open Go.Shelf Go.RowKit Go.Lib Go.Sort
theorem bst_card {cs : List Cv} {s : Sv} {id : Int} (h : (bst cs s id).2.2 = true) : ∃ cd : Nat, cd < cs.length ∧ (bst cs s id).1.card = cd ∧ (bst cs s id).2.1 = cs[cd]! := by
  have h1 : ¬ (s.find id < 0 ∨ fnd id s.fs 0 < 0) := fun h1 => by
    rw [bst, if_pos h1] at h
    cases h
  rw [bst, if_neg h1] at h ⊢
  by_cases h2 : (s.os[(s.find id).toNat]!).card < 0 ∨ (cs.length : Int) ≤ (s.os[(s.find id).toNat]!).card
  · rw [if_pos h2] at h
    cases h
  · rw [if_neg h2]
    refine ⟨(s.os[(s.find id).toNat]!).card.toNat, by omega, ?_, rfl⟩
    show (s.os[(s.find id).toNat]!).card = _
    omega
section
variable {w : World} {cs : List Cv} {ca : Option Addr} {s : Sv} {A : Nat → List Av} {E : Nat → List Ef} (D : Dw w cs ca s A E) (cc : Nat) (id : Int)
include D
theorem h21_of (b : Bool) (h : (bst cs s id).2.2 = b) (W : World) (k : Gr w W) : Calls Try.prog 46 #[.slice ca cs.length cc, .agg s.arr, .int .i64 id] W fun e w' => e = .returned (.tuple #[.agg (bst cs s id).1.arr, .agg (bst cs s id).2.1.arr, .bool b]) ∧ Gr W w' := by
  have := findb_calls cs ca cc s id W (D.gr k).ok (D.gr k).hC
  rwa [h] at this
theorem ef_nil (h : (bst cs s id).2.2 = false) : Calls Try.prog 47 #[.slice ca cs.length cc, .agg s.arr, .int .i64 id] w fun e w' => e = .returned (.slice none 0 0) ∧ Below w.heap.size w w' :=
  ef_none layD rfl rfl ca cs.length cc s.arr.toList rfl id w (bst cs s id).1.arr.toList (bst cs s id).2.1.arr.toList rfl rfl (Ov.one _) (Cv.one _) (h21_of D cc id false h)
theorem of_nil (h : (bst cs s id).2.2 = false) : Calls Try.prog 23 #[.slice ca cs.length cc, .agg s.arr, .int .i64 id] w fun e w' => e = .returned (.tuple #[.agg (encV (0, 0, 0)).toArray, .bool false]) ∧ Below w.heap.size w w' :=
  chof_none layC layE rfl rfl s.arr.toList (bst cs s id).1.arr.toList (bst cs s id).2.1.arr.toList rfl rfl rfl (Ov.one _) (Cv.one _) ca cs.length cc id w (h21_of D cc id false h)
theorem of_all (h : (bst cs s id).2.2 = true) : Calls Try.prog 23 #[.slice ca cs.length cc, .agg s.arr, .int .i64 id] w fun e w' => ∃ R, Qe (allE cs s A E id) R ∧ e = .returned (.tuple #[.agg (encV (foldE R ((bst cs s id).2.1.pow, (bst cs s id).2.1.tou, (bst cs s id).2.1.keys))).toArray, .bool true]) ∧ Below w.heap.size w w' :=
  chof_some layC layE rfl rfl s.arr.toList (bst cs s id).1.arr.toList (bst cs s id).2.1.arr.toList rfl rfl rfl (Ov.one _) (Cv.one _) ca cs.length cc id w (h21_of D cc id true h) _ _ _ rfl rfl rfl (Qe (allE cs s A E id)) (fun _R k => Nat.le_trans k.le (all_le D id h)) (fun _W k => ef_all (D.below k) cc id h) fold_calls
end
end Go.Proofs.Yticgadnmlbfmfaa.cachePlays
