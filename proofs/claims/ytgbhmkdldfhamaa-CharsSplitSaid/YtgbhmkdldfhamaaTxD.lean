/-
  CharsSplit: behind the loop; the law over memory.
-/
import Derived.Test.YtgbhmkdldfhamaaTxB
namespace Go.Proofs.Ytgbhmkdldfhamaa.split
open Go.Ev Go.RowKit
set_option linter.unusedVariables false
noncomputable section
/-! ### parts of a list -/
def FoIn.take (f : FoIn) (k : Nat) : FoIn := ⟨f.l.take k, f.oa, f.ca, f.B, f.O⟩
def FoIn.drop (f : FoIn) (k : Nat) : FoIn := ⟨f.l.drop k, if f.ca = k then f.oa else f.oa.map (·.add (k * 4)), f.ca - k, f.B, f.O + k * 4⟩
theorem FoIn.OK.take {f : FoIn} {w : World} (h : f.OK w) (k : Nat) : (f.take k).OK w := by
  refine ⟨?_, fun e he => h.fit e (List.mem_of_mem_take he), fun i e hi => ?_⟩
  · have := h.n
    show (f.l.take k).length ≤ _
    simp
    omega
  · have hi' : (f.l.take k)[i]? = some e := hi
    rw [List.getElem?_take] at hi'
    split at hi'
    · exact h.cl i e hi'
    · cases hi'
theorem FoIn.OK.drop {f : FoIn} {w : World} (h : f.OK w) (hc : f.l.length ≤ f.ca) (k : Nat) : (f.drop k).OK w := by
  refine ⟨?_, fun e he => h.fit e (List.mem_of_mem_drop he), fun i e hi => ?_⟩
  · have := h.n
    show (f.l.drop k).length ≤ _
    simp
    omega
  · have hi' : (f.l.drop k)[i]? = some e := hi
    rw [List.getElem?_drop] at hi'
    obtain ⟨h1, h2, h3⟩ := h.cl (k + i) e hi'
    have hlt : k + i < f.l.length := (List.getElem?_eq_some_iff.1 hi').1
    refine ⟨?_, h2, fun j hj => ?_⟩
    · show (if f.ca = k then f.oa else f.oa.map (·.add (k * 4))) = some ⟨f.B, f.O + k * 4, none⟩
      rw [if_neg (by omega), h1]
      simp only [Option.map_some, Addr.add]
      split
      · rename_i h0
        rw [h0]
        rfl
      · rfl
    · have := h3 j hj
      show w.cell? ⟨f.B, f.O + k * 4 + i * 4 + j, none⟩ = _
      rw [show f.O + k * 4 + i * 4 + j = f.O + (k + i) * 4 + j by omega]
      exact this
theorem FoIn.OK.mono {f : FoIn} {w w' : World} (h : f.OK w) (hs : w.heap.size ≤ w'.heap.size) (ho : ∀ k, k < w.heap.size → w'.heap[k]? = w.heap[k]?) : f.OK w' :=
  ⟨h.n, h.fit, fun i e hi => let ⟨h1, h2, h3⟩ := h.cl i e hi
    ⟨h1, Nat.lt_of_lt_of_le h2 hs, fun j hj => by rw [← h3 j hj]; exact World.cell?_of_block (w := w) (ho f.B h2)⟩⟩
theorem fold_fit : ∀ {l : List Eff} {s : Nums}, s.Fit → (∀ e ∈ l, e.Fit) → (l.foldl stepF s).Fit
  | [], s, h, _ => h
  | e :: l, s, h, he => by
    rw [List.foldl_cons]
    exact fold_fit (step_fit h (he e (by simp))) fun x hx => he x (by simp [hx])
theorem foldN_fit {l : List Eff} {s : Nums} (h : s.Fit) (he : ∀ e ∈ l, e.Fit) : (foldN s l).Fit := clamp_fit (fold_fit (clamp_fit h) he)
def n235 : Nums := ⟨2, 3, 5⟩
theorem n235_fit : n235.Fit := ⟨⟨by show -9223372036854775808 ≤ (2 : Int); omega, by show (2 : Int) ≤ 9223372036854775807; omega⟩, ⟨by show -9223372036854775808 ≤ (3 : Int); omega, by show (3 : Int) ≤ 9223372036854775807; omega⟩, ⟨by show -9223372036854775808 ≤ (5 : Int); omega, by show (5 : Int) ≤ 9223372036854775807; omega⟩⟩
/-! ### symbols -/
def kAt (g : LaIn) (f : FoIn) : Nat := (g.at_ % ((f.l.length : Int) + 1)).toNat
def s1 (g : LaIn) (f : FoIn) : Nums := foldN n235 (f.l.take (kAt g f))
def s2 (g : LaIn) (f : FoIn) : Nums := foldN n235 f.l
def Nums.at (s : Nums) : Nat → Int
  | 0 => s.p
  | 1 => s.t
  | _ => s.k
def rint (g : LaIn) (f : FoIn) (i : Nat) : Int :=
  if i < 12 then (if i = 1 then g.at_ else if i = 2 then (g.L.length : Int) else if i = 6 then (f.l.length : Int) else if i = 9 then (f.l.length : Int) else if i = 10 then (f.l.length : Int) + 1 else if i = 11 then (kAt g f : Int) else 0)
  else if i < 20 then 0 else if i < 23 then (s1 g f).at (i - 20) else if i < 30 then 0 else if i < 33 then (s2 g f).at (i - 30) else 0
def rval (g : LaIn) (f : FoIn) (i : Nat) : Value :=
  if i = 0 then .slice g.oa g.L.length g.ca else if i = 7 then .slice f.oa f.l.length f.ca else if i = 12 then .slice f.oa (kAt g f) f.ca else if i = 13 then .slice (f.drop (kAt g f)).oa (f.l.length - kAt g f) (f.ca - kAt g f) else .bool false
theorem rval_one {g : LaIn} {f : FoIn} (i : Nat) : (rval g f i).oneCell' = true := by
  unfold rval
  repeat' split
  all_goals rfl
def rrho (g : LaIn) (f : FoIn) : Rho := ⟨rint g f, rval g f, fun _ => 0, fun _ => 0, rval_one, fun _ => [], fun _ _ h => by cases h⟩
section
variable {w : World} {g : LaIn} {f : FoIn}
theorem kAt_le (h : g.OK w) : kAt g f ≤ f.l.length := by
  unfold kAt
  have := mod_i (x := g.at_) (m := (f.l.length : Int) + 1) (by omega)
  omega
theorem kAt_eq (h : g.OK w) : (kAt g f : Int) = g.at_.tmod ((f.l.length : Int) + 1) := by
  unfold kAt
  have := mod_i (x := g.at_) (m := (f.l.length : Int) + 1) (by omega)
  rw [Int.tmod_eq_emod_of_nonneg h.a0]
  omega
theorem nums_at_fit {s : Nums} (h : s.Fit) (k : Nat) : I64 (s.at k) := by
  unfold Nums.at
  split
  · exact h.p
  · exact h.t
  · exact h.k
theorem rint_fits (h : g.OK w) (hf : f.OK w) (hl : f.l.length ≤ 20) (i : Nat) : I64 (rint g f i) := by
  have hn := h.n
  have := h.a0
  have := h.a1
  have hk := kAt_le (f := f) h
  have f2 : (s2 g f).Fit := foldN_fit n235_fit hf.fit
  have f1 : (s1 g f).Fit := foldN_fit n235_fit fun e he => hf.fit e (List.mem_of_mem_take he)
  unfold rint
  split
  · repeat' split
    all_goals first | exact i64_0 | exact ⟨by omega, by omega⟩
  split
  · exact i64_0
  split
  · exact nums_at_fit f1 _
  split
  · exact i64_0
  split
  · exact nums_at_fit f2 _
  · exact i64_0
theorem iv_re {b : Bool} (h : g.OK w) (hf : f.OK w) (hl : f.l.length ≤ 20) (hb : b = true → f.l.length = 20) : IvOK (reiv b) (rrho g f) := by
  intro i
  have ff := rint_fits h hf hl i
  match i, ff with
  | 0, ff => exact ff
  | 1, ff => exact ff
  | 2, ff => exact ff
  | 3, ff => exact ff
  | 4, ff => exact ff
  | 5, ff => exact ff
  | 6, ff =>
    cases b with
    | false => exact ff
    | true =>
      have e : (rrho g f).int 6 = (f.l.length : Int) := rfl
      rw [e, hb rfl]
      exact ⟨by show (20 : Int) ≤ _; omega, by show _ ≤ (9223372036854775807 : Int); omega⟩
  | i + 7, ff =>
    have e : ivAt (reiv b) (i + 7) = big1 := by simp [ivAt, reiv, lget, big1]
    rw [e]
    exact ff
theorem reF_ok {b : Bool} (h : g.OK w) (hf : f.OK w) (hc : f.l.length ≤ f.ca) (hl : f.l.length ≤ 20) (hb : decide ((f.l.length : Int) < (g.L.length : Int)) = b) : FsOK (reF b) (rrho g f) := by
  have hk := kAt_le (f := f) h
  have e9 : (rrho g f).int 9 = (f.l.length : Int) := rfl
  have e10 : (rrho g f).int 10 = (f.l.length : Int) + 1 := rfl
  have e11 : (rrho g f).int 11 = (kAt g f : Int) := rfl
  have v7 : sval (rrho g f) (.sym 7) = some (.slice f.oa f.l.length f.ca) := rfl
  have v12 : sval (rrho g f) (.sym 12) = some (.slice f.oa (kAt g f) f.ca) := rfl
  have v13 : sval (rrho g f) (.sym 13) = some (.slice (f.drop (kAt g f)).oa (f.l.length - kAt g f) (f.ca - kAt g f)) := rfl
  have s11 : sval (rrho g f) (si 11) = some (.int .i64 (kAt g f : Int)) := rfl
  refine fs_cons (fact_len (a := g.oa) (c := g.ca) rfl rfl) (fs_cons (fact_len v7 e9) (fs_cons (fact_add (by rw [e10, e9]) (by rw [e10]; omega) (by rw [e10]; omega)) (fs_cons ?_ (fs_cons (fact_cut v7 s11 (by omega) v12) (fs_cons ?_ (fs_cons (factLss hb) fs_nil))))))
  · exact fact_rem (k := .i64) (a := g.at_) (b := (f.l.length : Int) + 1) rfl rfl (by omega) (by rw [s11, kAt_eq h])
  · refine ⟨f.oa, f.l.length, f.ca, (kAt g f : Int), (f.l.length : Int), v7, by simp only [sbound, s11], rfl, by omega, by omega, by omega, ?_⟩
    rw [v13]
    have e : ((kAt g f : Int)).toNat = kAt g f := by simp
    have e' : ((f.l.length : Int)).toNat = f.l.length := by simp
    rw [e, e']
    rfl
theorem re_env {b : Bool} (h : g.OK w) (hf : f.OK w) (hc : f.l.length ≤ f.ca) (hl : f.l.length ≤ 20) (hb : decide ((f.l.length : Int) < (g.L.length : Int)) = b) (h20 : b = true → f.l.length = 20) (φ : Phi) (hφ : φ.ρ = rrho g f) : EnvP (Ere b) φ w :=
  ⟨by rw [hφ]; exact iv_re h hf hl h20, by rw [hφ]; exact reF_ok h hf hc hl hb, fun k cs hk => by cases hk⟩
/-- A call of Fold, as it is known. -/
theorem ke_fold {φ : Phi} {x : VV} {xs : List VV} {vs : List Value} {f1 : FoIn} {s : Nums} {w' : World} {r : VV} (hv : VRs φ [x, .sym 0] vs ∨ True) (hw : f1.OK w') (hs : s.Fit) (he : vs = [numV s, .slice f1.oa f1.l.length f1.ca]) (hr : VR φ r (numV (foldN s f1.l))) :
    Calls Try.prog 18 ⟨vs⟩ w' fun en w'' => ∃ v, en = .returned v ∧ VR φ r v ∧ Below w'.heap.size w' w'' := by
  subst he
  refine (fold_calls hw hs).mono ?_
  rintro en w'' ⟨rfl, hb⟩
  exact ⟨_, rfl, hr, hb⟩
theorem vr_nums {φ : Phi} {a b c : Nat} {s : Nums} (h1 : φ.ρ.int a = s.p) (h2 : φ.ρ.int b = s.t) (h3 : φ.ρ.int c = s.k) : VR φ (.agg [si a, si b, si c]) (numV s) := by
  simp only [VR, VRs, si, h1, h2, h3]
  exact ⟨_, ⟨_, _, rfl, rfl, _, _, rfl, rfl, _, _, rfl, rfl, rfl⟩, rfl⟩
theorem nums_vr {φ : Phi} {a b c : Nat} {s : Nums} {v : Value} (h1 : φ.ρ.int a = s.p) (h2 : φ.ρ.int b = s.t) (h3 : φ.ρ.int c = s.k) (h : VR φ (.agg [si a, si b, si c]) v) : v = numV s := by
  simp only [VR, VRs, si, h1, h2, h3] at h
  obtain ⟨_, ⟨_, _, rfl, rfl, _, _, rfl, rfl, _, _, rfl, rfl, rfl⟩, rfl⟩ := h
  rfl
theorem c235_vr {φ : Phi} {v : Value} (h : VR φ (.agg [i8 2, i8 3, i8 5]) v) : v = numV n235 := by
  simp only [VR, VRs, i8] at h
  obtain ⟨_, ⟨_, _, rfl, rfl, _, _, rfl, rfl, _, _, rfl, rfl, rfl⟩, rfl⟩ := h
  rfl
theorem extRe (h : g.OK w) (hf : f.OK w) (hc : f.l.length ≤ f.ca) (hl : f.l.length ≤ 20) (he : ∀ e ∈ f.l, EB e) : ∀ e ∈ reKT, KEok Try.prog (rrho g f) w e := by
  have hk := kAt_le (f := f) h
  have f1 : (s1 g f).Fit := foldN_fit n235_fit fun e he => hf.fit e (List.mem_of_mem_take he)
  have law : foldN (s1 g f) (f.l.drop (kAt g f)) = s2 g f := split_law he hl (kAt g f)
  have l1 : (f.take (kAt g f)).l.length = kAt g f := by show (f.l.take _).length = _; simp; omega
  have l2 : (f.drop (kAt g f)).l.length = f.l.length - kAt g f := by show (f.l.drop _).length = _; simp
  intro e hm
  simp only [reKT, List.mem_cons, List.not_mem_nil, or_false] at hm
  rcases hm with rfl | rfl | rfl
  · intro φ vs w' hφ hsz ho hv hp
    simp only [VRs] at hv
    obtain ⟨v1, _, rfl, hv1, v2, _, rfl, hv2, rfl⟩ := hv
    have e1 := c235_vr hv1
    have e2 : v2 = .slice f.oa (kAt g f) f.ca := by simp only [VR, hφ] at hv2; exact hv2
    subst e1 e2
    exact ke_fold (f1 := f.take (kAt g f)) (s := n235) (x := .any) (xs := []) (.inr trivial) ((hf.take _).mono hsz ho) n235_fit (by rw [l1]; rfl) (vr_nums (by rw [hφ]; rfl) (by rw [hφ]; rfl) (by rw [hφ]; rfl))
  · intro φ vs w' hφ hsz ho hv hp
    simp only [VRs] at hv
    obtain ⟨v1, _, rfl, hv1, v2, _, rfl, hv2, rfl⟩ := hv
    have e1 := nums_vr (s := s1 g f) (by rw [hφ]; rfl) (by rw [hφ]; rfl) (by rw [hφ]; rfl) hv1
    have e2 : v2 = .slice (f.drop (kAt g f)).oa (f.l.length - kAt g f) (f.ca - kAt g f) := by simp only [VR, hφ] at hv2; exact hv2
    subst e1 e2
    refine ke_fold (f1 := f.drop (kAt g f)) (s := s1 g f) (x := .any) (xs := []) (.inr trivial) ((hf.drop hc _).mono hsz ho) f1 (by rw [l2]; rfl) ?_
    rw [show foldN (s1 g f) (f.drop (kAt g f)).l = s2 g f from law]
    exact vr_nums (by rw [hφ]; rfl) (by rw [hφ]; rfl) (by rw [hφ]; rfl)
  · intro φ vs w' hφ hsz ho hv hp
    simp only [VRs] at hv
    obtain ⟨v1, _, rfl, hv1, v2, _, rfl, hv2, rfl⟩ := hv
    have e1 := c235_vr hv1
    have e2 : v2 = .slice f.oa f.l.length f.ca := by simp only [VR, hφ] at hv2; exact hv2
    subst e1 e2
    exact ke_fold (f1 := f) (s := n235) (x := .any) (xs := []) (.inr trivial) (hf.mono hsz ho) n235_fit rfl (vr_nums (by rw [hφ]; rfl) (by rw [hφ]; rfl) (by rw [hφ]; rfl))
end
/-! ### at the end of the loop -/
theorem anyN_get : ∀ (n i : Nat), (anyN n)[i]? = none ∨ (anyN n)[i]? = some .any
  | 0, i => .inl (by simp [anyN])
  | n + 1, 0 => .inr (by simp [anyN])
  | n + 1, i + 1 => by simpa [anyN] using anyN_get n i
theorem anyN_len : ∀ n, (anyN n).length = n
  | 0 => rfl
  | n + 1 => by simp [anyN, anyN_len n]
theorem base_get (t : Nat) : tget (listT (anyN 86) 0 .lf) t = .any ∨ tget (listT (anyN 86) 0 .lf) t = vundef := by
  rw [listT_get _ _ _ _ (by rw [anyN_len]; decide)]
  split
  · rcases anyN_get 86 (t - 0) with h | h
    · rw [h]; exact .inr rfl
    · rw [h]; exact .inl rfl
  · exact .inr rfl
theorem tget_put_same (a : VT) (t : Nat) (x : VV) (h : t < top) : tget (a.put t x) t = x := by
  unfold tget
  rw [TT.get_put_same _ _ _ h]
theorem tget_put_other (a : VT) (t u : Nat) (x : VV) (h : u ≠ t) : tget (a.put t x) u = tget a u := by
  unfold tget
  rw [TT.get_put_other _ _ _ _ h]
theorem laa_get (n : Nat) : tget (laa n) 0 = .sym 0 ∧ tget (laa n) 1 = .sint .u8 1 ∧ tget (laa n) 6 = .int .i64 n ∧ tget (laa n) 5 = eV n ∧ ∀ t, t ≠ 0 → t ≠ 1 → t ≠ 5 → t ≠ 6 → tget (laa n) t = tget (listT (anyN 86) 0 .lf) t := by
  unfold laa
  refine ⟨?_, ?_, ?_, ?_, fun t h0 h1 h5 h6 => ?_⟩
  · rw [tget_put_other _ _ _ _ (by decide), tget_put_other _ _ _ _ (by decide), tget_put_other _ _ _ _ (by decide), tget_put_same _ _ _ (by decide)]
  · rw [tget_put_other _ _ _ _ (by decide), tget_put_other _ _ _ _ (by decide), tget_put_same _ _ _ (by decide)]
  · rw [tget_put_other _ _ _ _ (by decide), tget_put_same _ _ _ (by decide)]
  · rw [tget_put_same _ _ _ (by decide)]
  · rw [tget_put_other _ _ _ _ h5, tget_put_other _ _ _ _ h6, tget_put_other _ _ _ _ h1, tget_put_other _ _ _ _ h0]
theorem rea_get : tget rea 0 = .sym 0 ∧ tget rea 1 = .sint .u8 1 ∧ tget rea 6 = si 6 ∧ tget rea 5 = .sym 7 ∧ ∀ t, t ≠ 0 → t ≠ 1 → t ≠ 5 → t ≠ 6 → tget rea t = tget (listT (anyN 86) 0 .lf) t := by
  unfold rea
  refine ⟨?_, ?_, ?_, ?_, fun t h0 h1 h5 h6 => ?_⟩
  · rw [tget_put_other _ _ _ _ (by decide), tget_put_other _ _ _ _ (by decide), tget_put_other _ _ _ _ (by decide), tget_put_same _ _ _ (by decide)]
  · rw [tget_put_other _ _ _ _ (by decide), tget_put_other _ _ _ _ (by decide), tget_put_same _ _ _ (by decide)]
  · rw [tget_put_other _ _ _ _ (by decide), tget_put_same _ _ _ (by decide)]
  · rw [tget_put_same _ _ _ (by decide)]
  · rw [tget_put_other _ _ _ _ h5, tget_put_other _ _ _ _ h6, tget_put_other _ _ _ _ h1, tget_put_other _ _ _ _ h0]
theorem cellsE_len : ∀ n, (cellsE n).length = 4 * n
  | 0 => rfl
  | n + 1 => by simp [cellsE, cellsE_len n]; omega
theorem cellsE_at : ∀ {n i j : Nat}, i < n → j < 4 → (cellsE n)[4 * i + j]? = some (si (4 * i + 4 + j))
  | 0, i, j, h, _ => by omega
  | n + 1, i, j, h, hj => by
    simp only [cellsE]
    by_cases e : i = n
    · subst e
      rw [List.getElem?_append_right (by rw [cellsE_len]; omega), cellsE_len, Nat.add_sub_cancel_left]
      match j, hj with
      | 0, _ => rfl
      | 1, _ => rfl
      | 2, _ => rfl
      | 3, _ => rfl
    · rw [List.getElem?_append_left (by rw [cellsE_len]; omega)]
      exact cellsE_at (by omega) hj
theorem eff_fit {e : Eff} (h : EB e) (hs : 0 ≤ e.st ∧ e.st ≤ 20) : e.Fit := by
  obtain ⟨o1, o4, a0, a1, a2, b0, b1⟩ := h
  exact ⟨⟨by omega, by omega⟩, ⟨by omega, by omega⟩, ⟨by omega, by omega⟩, ⟨by omega, by omega⟩⟩
/-- The list that was laid. -/
theorem laid {w0 w : World} {g : LaIn} {n : Nat} {es : List Eff} {φ : Phi} {E : Env} {tmps : Array Value} (hg : LGd n es) (hφ : φ.ρ = lrho g es) (ht : TR φ (laa n) tmps) (hs : @HSim XL w0 φ ⟨E, laL n, laH n⟩ w) :
    ∃ f : FoIn, f.l = es ∧ f.OK w ∧ f.l.length ≤ f.ca ∧ tmps.getD 5 undef = .slice f.oa f.l.length f.ca := by
  have h5 := ht 5
  rw [(laa_get n).2.2.2.1] at h5
  have hlen := hg.len
  cases n with
  | zero =>
    have he : es = [] := List.eq_nil_of_length_eq_zero hlen
    simp only [eV, VR] at h5
    refine ⟨⟨[], none, 0, 0, 0⟩, he.symm, ⟨by simp, (fun e he => by cases he), (fun i e hi => by simp at hi)⟩, Nat.le_refl _, h5⟩
  | succ n =>
    simp only [eV, VR, AR] at h5
    obtain ⟨a', s, ⟨inf, h1, rfl, rfl⟩, h5⟩ := h5
    obtain ⟨inf', o', k1, k2, ⟨c', e, fr, rfl, hcr⟩, _⟩ := @HSim.live XL w0 φ _ w hs 0 (.cells (cellsE (n + 1)) (some 4) 0 (some 58)) rfl
    have k1' : φ 0 = some inf' := k1
    rw [h1] at k1'
    cases k1'
    refine ⟨⟨es, some ⟨inf.blk, inf.off + 0, none⟩, n + 1 + inf.slack, inf.blk, inf.off⟩, rfl, ⟨by show es.length ≤ _; have := hg.le; omega, fun e he => eff_fit (hg.eb e he) (hg.st e he), fun i x hi => ?_⟩, by show es.length ≤ n + 1 + inf.slack; omega, by rw [h5]; show _ = Value.slice _ es.length _; rw [hlen]⟩
    have hi' : es[i]? = some x := hi
    have hilt : i < es.length := (List.getElem?_eq_some_iff.1 hi').1
    refine ⟨rfl, @HSim.bound XL w0 φ _ w hs 0 inf h1, fun j hj => ?_⟩
    obtain ⟨y, y1, y2⟩ := hcr.cell (4 * i + j) _ (cellsE_at (by omega) hj)
    rw [cell?_at k2]
    rw [show inf.off + i * 4 + j = inf.off + (4 * i + j) by omega, y1]
    have y2' : y = .int .i64 (φ.ρ.int (4 * i + 4 + j)) := by simpa only [si, VR] using y2
    rw [y2', hφ, lc i j hj (by have := hg.le; omega)]
    have : es.getD i eff0 = x := by rw [List.getD_eq_getElem?_getD, hi']; rfl
    rw [this]
theorem rechkT : rechk true = true := by kernel_rfl
theorem rechkF : rechk false = true := by kernel_rfl
theorem rechk_of {b : Bool} {c : Code} {K : List Fr1} (hc : ctx 0 labody 0 [] = some (c, K)) : ∃ a H, seg (rcN reKT) Try.f7.ntmps [0] 1000 c 1 (.lp c 0 :: K) rea ⟨Ere b, .lf, 0⟩ = some (.out .ret a H) ∧ resL Try.prog a H Try.f7.results.toList = some [.bool true] := by
  have h : rechk b = true := by cases b with
    | true => exact rechkT
    | false => exact rechkF
  unfold rechk rerun at h
  rw [hc] at h
  simp only at h
  split at h
  · rename_i a H hs
    split at h
    · rename_i r hr
      exact ⟨a, H, hs, by rw [hr, vvEq_eq _ _ h]⟩
    · cases h
  · cases h
theorem nt7 : Try.f7.ntmps ≤ top := Nat.le_of_ble_eq_true (by kernel_rfl)
theorem exit_wp {w0 : World} {g : LaIn} {n : Nat} {es : List Eff} {E : Env} {c : Code} {K : List Fr1} {HD : Nat → Act → World → Prop} {act : Act} {w : World} (h : g.OK w0) (hg : LGd n es) (hend : n = 20 ∨ g.L.length ≤ n) (hc : ctx 0 labody 0 [] = some (c, K)) (hat : At1 labody (.loop c) 0 K) (hko : KOK labody K)
    (k : @RSN XL w0 (· = lrho g es) Try.f7.ntmps (laa n) ⟨E, laL n, laH n⟩ act w) : c.wpIn (Fr none) 0 Try.prog (postK Try.prog HD (EndsN Try.prog Try.f7 w0 (.bool true)) (.lp c 0 :: K)) act w := by
  have an := @RSN.anc XL _ _ _ _ _ _ _ k
  obtain ⟨φ, k1, k2, k3, k4, k5, k6⟩ := k
  obtain ⟨f, f1, f2, f3, f4⟩ := laid hg k1 k2 k3
  have hgw : g.OK w := ⟨h.n, h.fit, fun i x hi => let ⟨q1, q2, q3⟩ := h.cl i x hi
    ⟨q1, Nat.lt_of_lt_of_le q2 an.wk.size, by rw [← q3]; exact World.cell?_of_block (w := w0) (an.old g.B q2)⟩, h.a0, h.a1⟩
  have hfl : f.l.length = n := by rw [f1, hg.len]
  have hl20 : f.l.length ≤ 20 := by have := hg.le; omega
  have hb20 : decide ((f.l.length : Int) < (g.L.length : Int)) = true → f.l.length = 20 := fun hd => by
    have := of_decide_eq_true hd
    omega
  obtain ⟨a, H, hs, hr⟩ := rechk_of (b := decide ((f.l.length : Int) < (g.L.length : Int))) hc
  have hreset : @RSN (extKT Try.prog reKT) w (· = rrho g f) Try.f7.ntmps rea ⟨Ere (decide ((f.l.length : Int) < (g.L.length : Int))), .lf, 0⟩ act w := by
    refine @RSN.reset XL (extKT Try.prog reKT) w0 (· = lrho g es) (rrho g f) _ _ rea _ (Ere _) act w ⟨φ, k1, k2, k3, k4, k5, k6⟩ (fun _ => rfl) fun ψ hψ tψ sψ => ⟨fun t => ?_, ?_⟩
    · have tt := tψ t
      obtain ⟨a0, a1, a6, a5, ao⟩ := laa_get n
      obtain ⟨b0, b1, b6, b5, bo⟩ := rea_get
      by_cases t0 : t = 0
      · subst t0
        rw [a0] at tt
        rw [b0]
        simp only [VR, hψ] at tt ⊢
        exact tt
      by_cases t1 : t = 1
      · subst t1
        rw [a1] at tt
        rw [b1]
        simp only [VR, hψ] at tt ⊢
        exact tt
      by_cases t5 : t = 5
      · subst t5
        rw [b5]
        simp only [VR]
        exact f4
      by_cases t6 : t = 6
      · subst t6
        rw [a6] at tt
        rw [b6]
        simp only [VR] at tt
        rw [tt]
        simp only [si, VR]
        show Value.int .i64 (n : Int) = .int .i64 ((f.l.length : Nat) : Int)
        rw [hfl]
      · rw [bo t t0 t1 t5 t6]
        rw [ao t t0 t1 t5 t6] at tt
        rcases base_get t with hb | hb
        · rw [hb]; simp only [VR]
        · rw [hb] at tt ⊢
          have : (tmps : Value) → VR ψ vundef tmps → VR ⟨fun _ => none, rrho g f⟩ vundef tmps := fun v hv => by
            simp only [vundef, VR, VRs] at hv ⊢
            exact hv
          exact this _ tt
    · exact @EnvP.ok (extKT Try.prog reKT) _ ⟨fun _ => none, rrho g f⟩ w (re_env hgw f2 f3 hl20 rfl hb20 ⟨fun _ => none, rrho g f⟩ rfl) (extRe hgw f2 f3 hl20 fun e he => hg.eb e (by rw [← f1]; exact he))
  refine @segN_sound Try.prog _ HD (extKT Try.prog reKT) (fun _ => True) trivial (rcN reKT) hrcL w _ Try.f7.ntmps Try.f7.ntmps nt7 (Nat.le_refl _) labody [0] 1000 c 1 (.lp c 0 :: K) rea _ _ hat.loop.2 hko hs act w hreset ?_
  intro act' w' _ k'
  exact ⟨rfl, _, w, _, a, H, .bool true, an, k', hr, fun φ v _ hv => by simpa only [VR] using hv⟩
theorem lentT : lent = true := by kernel_rfl
/-- The law, over memory. -/
theorem law_calls {w : World} {g : LaIn} (h : g.OK w) : Calls Try.prog 7 ⟨[.slice g.oa g.L.length g.ca, .int .u8 g.at_]⟩ w fun e w' => e = .returned (.bool true) ∧ Below w.heap.size w w' := by
  letI : Ext := XL
  have g0 : LGd 0 [] := ⟨rfl, by omega, fun e he => (by cases he), fun e he => (by cases he)⟩
  have hI : ∀ k t act w', (t = 0 ∧ ∃ n es, LGd n es ∧ k = 20 - n ∧ RSN w (· = lrho g es) Try.f7.ntmps (laa n) ⟨(lac n).env (lrho g es), laL n, laH n⟩ act w') → ∀ c K, ctx t labody 0 [] = some (c, K) → At1 labody (.loop c) t K → KOK labody K → ∀ HD : Nat → Act → World → Prop, (∀ t' act' w'', (∃ j, j < k ∧ (t' = 0 ∧ ∃ n es, LGd n es ∧ j = 20 - n ∧ RSN w (· = lrho g es) Try.f7.ntmps (laa n) ⟨(lac n).env (lrho g es), laL n, laH n⟩ act' w'')) → HD t' act' w'' ∧ ∀ c' K', ctx t' labody 0 [] = some (c', K') → (Code.loop c').wpIn (Fr none) 0 Try.prog (postK Try.prog HD (EndsN Try.prog Try.f7 w (.bool true)) K') act' w'') →
      c.wpIn (Fr none) 0 Try.prog (postK Try.prog HD (EndsN Try.prog Try.f7 w (.bool true)) (.lp c t :: K)) act w' := by
    rintro k t act w' ⟨rfl, n, es, hg, rfl, hr⟩ c K hc hat hko HD hHD
    by_cases hend : n < 20 ∧ n < g.L.length
    · obtain ⟨xs, hv, hcar⟩ := round_val h hg hend.1 hend.2
      have hg' := hg.next hend.1 (g.x n)
      refine cutN_step (Rr := fun _ => True) trivial hrcL nt7 (Nat.le_refl _) (p := n) (q := n + 1) (c := lac n) (d := lac (n + 1)) (ρ' := lrho g (es ++ [effOf (g.x n) n])) (lchk_at lchk20 hend.1) ?_ hat.loop.2 hko hv (lget_lacs (by omega)) ?_ lagree hcar (okL h hg') hr fun t' act' w'' hlab k' => ?_
      · unfold CutP.run
        have e : (lac n).lab = some 0 := rfl
        rw [e]
        simp only [hc]
      · exact (Elaw_blk _ _ _).trans (Elaw_blk _ _ _).symm
      · have ht : t' = 0 := (Option.some.inj hlab).symm
        exact hHD t' act' w'' ⟨20 - (n + 1), by omega, ht, n + 1, _, hg', rfl, k'⟩
    · exact exit_wp h hg (by have := hg.le; omega) hc hat hko hr
  have hent := lentT
  unfold lent at hent
  split at hent
  · rename_i t a H hseg
    split at hent
    · rename_i ht
      have ht := Nat.eq_of_beq_eq_true ht
      subst ht
      unfold moveB at hent
      split at hent
      · rename_i ps g2
        have h0 : At1 labody labody 0 [] := fun t _ _ => rfl
        have hok0 : EnvP (Elaw 20 laiv []) ⟨fun _ => none, lrho g []⟩ w := by
          have e : Elaw 20 laiv [] = ⟨fun _ => none, ivAt laiv, [] ++ laF, fun _ => none⟩ := rfl
          rw [e]
          exact ⟨iv_la h g0, fs_app fs_nil laF_ok, fun k cs hk => by cases hk⟩
        refine rsn_calls (fn := Try.f7) (c := labody) (args := [.sym 0, .sint .u8 1]) (ρ := lrho g []) (E := Elaw 20 laiv []) Try.func7 rfl (by kernel_rfl) (by kernel_rfl) (hok0.ok extLa) (fun r b hb => by rw [Elaw_blk] at hb; cases hb) ?_ fun act k0 => ?_
        · simp only [VRs, VR]
          exact ⟨_, _, rfl, rfl, _, _, rfl, rfl, rfl⟩
        · have key := segN_sound (P := Try.prog) (Q := EndsN Try.prog Try.f7 w (.bool true)) (HD := fun t act w' => ∃ j, j ≤ 20 ∧ (t = 0 ∧ ∃ n es, LGd n es ∧ j = 20 - n ∧ RSN w (· = lrho g es) Try.f7.ntmps (laa n) ⟨(lac n).env (lrho g es), laL n, laH n⟩ act w')) (Rr := fun _ => True) trivial hrcL nt7 (Nat.le_refl _) h0 trivial hseg k0 fun act' w' hbase k1 => ?_
          · simpa only [postK] using key
          · have hst : RSN w (· = lrho g []) Try.f7.ntmps (laa 0) ⟨(lac 0).env (lrho g []), laL 0, laH 0⟩ act' w' := by
              refine k1.move g2 ?_ (fun i hi => ⟨rfl, rfl, rfl, rfl, rfl⟩) (carry_ok hent (show carry (lrho g []) (lrho g []) [] [] from trivial)) fun φ hφ => ((okL h g0).env φ hφ).ok (by rw [hφ]; exact extLa)
              rw [hbase]
              exact (Elaw_blk _ _ _).trans (Elaw_blk _ _ _).symm
            refine ⟨⟨20, Nat.le_refl _, rfl, 0, [], g0, rfl, hst⟩, fun c' K' hc' => ?_⟩
            exact heads_ok hI 20 0 c' K' hc' 20 (Nat.le_refl _) act' w' ⟨20, Nat.le_refl _, rfl, 0, [], g0, rfl, hst⟩
      · cases hent
    · cases hent
  · cases hent
end
end Go.Proofs.Ytgbhmkdldfhamaa.split
