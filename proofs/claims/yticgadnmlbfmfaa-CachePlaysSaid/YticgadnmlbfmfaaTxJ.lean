/-
  Chapter 25: clones, New, Dirty, walked.
-/
import Derived.WalkSpells
import Derived.Test.YticgadnmlbfmfaaTxI
namespace Go.Proofs.Yticgadnmlbfmfaa.cachePlays
open Go.Shelf Go.RowKit Go.Lib Go.Sort Go.Maps
theorem flatten_len {k : Nat} : ∀ {l : List (List Value)}, (∀ x ∈ l, x.length = k) → l.flatten.length = l.length * k
  | [], _ => by simp
  | x :: l, h => by
    rw [List.flatten_cons, List.length_append, h x (List.mem_cons_self ..), flatten_len (fun y hy => h y (List.mem_cons_of_mem _ hy)), List.length_cons, Nat.succ_mul]
    omega
theorem flatten_at {k : Nat} : ∀ {l : List (List Value)}, (∀ x ∈ l, x.length = k) → ∀ (i j : Nat) (x : List Value), l[i]? = some x → j < k → l.flatten[i * k + j]? = x[j]?
  | [], _, i, j, x, h, _ => by simp at h
  | y :: l, h, 0, j, x, hx, hj => by
    rw [List.getElem?_cons_zero] at hx
    cases hx
    rw [List.flatten_cons, Nat.zero_mul, Nat.zero_add, List.getElem?_append_left (by rw [h y (List.mem_cons_self ..)]; exact hj)]
  | y :: l, h, i + 1, j, x, hx, hj => by
    rw [List.getElem?_cons_succ] at hx
    have hy := h y (List.mem_cons_self ..)
    rw [List.flatten_cons, List.getElem?_append_right (by rw [hy, Nat.succ_mul]; omega), hy, show (i + 1) * k + j - k = i * k + j by rw [Nat.succ_mul]; omega]
    exact flatten_at (fun y hy => h y (List.mem_cons_of_mem _ hy)) i j x hx hj
theorem own_rowsZ {W : World} {base e k c : Nat} {a : Option Addr} {l : List (List Value)} (h : W.ownsRow base e k (.slice a l.length c) l.length l.flatten) (hl : ∀ x ∈ l, x.length = k) : RowsZ (fun b => base ≤ b ∧ b < W.heap.size) W a k l := by
  rcases h.2 with ⟨_, hz⟩ | ⟨g, cap, cur, hv, hb, hg, _⟩
  · exact .inl (List.eq_nil_of_length_eq_zero hz)
  · injection hv with hv _ hc
    subst hv hc
    refine .inr ⟨g, 0, rfl, ⟨hb, blk_lt hg⟩, blk_lt hg, fun i x hx j v hv => ?_⟩
    have hi := (List.getElem?_eq_some_iff.1 hx).1
    have hj : j < k := by
      rw [← hl x (List.mem_of_getElem? hx)]
      exact (List.getElem?_eq_some_iff.1 hv).1
    have hlt : i * k + j < l.length * k := Nat.lt_of_lt_of_le (Nat.add_lt_add_left hj _) (by have := Nat.mul_le_mul_right k hi; rw [Nat.succ_mul] at this; exact this)
    rw [Nat.zero_add, h.cellAt (i * k + j) hlt, flatten_at hl i j x hx hj, hv]
/-- append to an empty slice: a copy. -/
theorem app_emptyZ {P : Program} {t e k b : Nat} (ht : P.underlying t = some (.slice e)) (hi : ∃ i z, P.info? e = some i ∧ i.zero = some z ∧ z.cells.size = k ∧ i.size = k ∧ i.bytes ≤ b) (hk : 0 < k) {Z : Nat → Prop} {W : World} (l : List (List Value)) (hl : ∀ x ∈ l, x.length = k) (h1 : ∀ x ∈ l, ∀ u ∈ x, u.oneCell' = true) {a : Option Addr} (c : Nat) (hR : RowsZ Z W a k l) (h63 : l.length ≤ maxLen) (hby : l.length * b ≤ 140737488355328) :
    ∃ v' w', (Builtin.append_ #[t, t] t #[.slice (some ⟨W.heap.size, 0, none⟩) 0 0, .slice a l.length c]).run P (W.alloc (.cells #[] e)) = .ok v' w' ∧ w'.ownsRow W.heap.size e k v' l.length l.flatten ∧ Below W.heap.size W w' := by
  obtain ⟨i, z, i1, i2, i3, i4, i5⟩ := hi
  have hR' : RowsZ Z (W.alloc (.cells #[] e)) a k l := hR.keep (Kz.gr ((Gr.refl W).alloc _))
  have ol := World.ownsRow_lit (e := e) (size := k) (base := W.heap.size) W #[] 0 (Nat.le_refl _) (by decide) (by simp)
  obtain ⟨v', w', a1, a2, a3⟩ := run_app_any (P := P) (ty := t) (t := t) (tx := t) ht ht i1 i2 (by rw [i4]; exact i3) (by rw [i4]; exact hk) (base := W.heap.size) (n := 0) (xs := []) (by rw [i4]; exact ol) a l.length c l.flatten (by rw [i4, flatten_len hl]) (fun h => by
      rcases hR with h' | ⟨B, O, e, _⟩
      · rw [h']; rfl
      · rw [h] at e; cases e)
    (fun ad had j u hu => by
      rcases hR' with h' | ⟨B, O, e, _, _, h'⟩
      · rw [h'] at hu
        simp at hu
      · rw [had] at e
        injection e with e
        subst e
        have hj := (List.getElem?_eq_some_iff.1 hu).1
        rw [flatten_len hl] at hj
        have hd : j / k < l.length := (Nat.div_lt_iff_lt_mul hk).2 hj
        have hm := Nat.mod_lt j hk
        have hx : l[j / k]? = some l[j / k] := List.getElem?_eq_getElem hd
        have := flatten_at hl (j / k) (j % k) _ hx hm
        have ej : j / k * k + j % k = j := by rw [Nat.mul_comm]; exact Nat.div_add_mod j k
        rw [ej, hu] at this
        have := h' (j / k) _ hx (j % k) u this.symm
        rw [Addr.add_lit]
        rwa [Nat.add_assoc, ej] at this)
    (fun u hu => by
      obtain ⟨x, hx, hxu⟩ := List.mem_flatten.1 hu
      exact h1 x hx u hxu) (by omega) (by rw [Nat.zero_add]; exact Nat.le_trans (Nat.mul_le_mul_left _ i5) hby) (by simp)
  rw [i4] at a2
  refine ⟨v', w', a1, by simpa using a2, ?_⟩
  exact ((Below.refl _ _).alloc (Nat.le_refl _) (.cells #[] e)).grown a3 (by simp) fun k hk => (ol.lt k hk).1
theorem i82T : ∃ i z, Try.prog.info? 82 = some i ∧ i.zero = some z ∧ z.cells.size = 11 ∧ i.size = 11 ∧ i.bytes ≤ 1000 := by
  have h : (Try.prog.info? 82).map (fun i => (i.zero.map fun z => z.cells.size, i.size, decide (i.bytes ≤ 1000))) = some (some 11, 11, true) := by kernel_rfl
  cases hi : Try.prog.info? 82 with
  | none => rw [hi] at h; cases h
  | some i =>
    rw [hi] at h
    injection h with h
    injection h with h1 h2
    injection h2 with h2 h3
    cases hz : i.zero with
    | none => rw [hz] at h1; cases h1
    | some z =>
      rw [hz] at h1
      injection h1 with h1
      exact ⟨i, z, rfl, hz, h1, h2, of_decide_eq_true h3⟩
theorem i49T' : ∃ i z, Try.prog.info? 49 = some i ∧ i.zero = some z ∧ z.cells.size = 4 ∧ i.size = 4 ∧ i.bytes ≤ 1000 := by
  obtain ⟨i, h1, h2, h3, h4⟩ := i49T
  exact ⟨i, _, h1, h2, rfl, h3, by omega⟩
/-- A clone, told. -/
def Cloned (w : World) (l : List (List Value)) (k : Nat) (e : Ending) (w' : World) : Prop := ∃ a c, e = .returned (.slice a l.length c) ∧ RowsZ (fun b => w.heap.size ≤ b ∧ b < w'.heap.size) w' a k l ∧ Below w.heap.size w w'
/-- A clone. -/
theorem clone26 {Z : Nat → Prop} (ia : Option Addr) (l : List (List Value)) (hl : ∀ x ∈ l, x.length = 4) (h1 : ∀ x ∈ l, ∀ u ∈ x, u.oneCell' = true) (ic : Nat) (w : World) (hn : l.length ≤ 1000) (hR : RowsZ Z w ia 4 l) :
    Calls Try.prog 26 #[.slice ia l.length ic] w (Cloned w l 4) := by
  have mixed := mixedT
  cases ia with
  | none =>
    have hl : l = [] := by
      rcases hR with h | ⟨B, O, e, _⟩
      · exact h
      · cases e
    subst hl
    have B0 : Aside (Below w.heap.size w w) := .refl _ _
    have tn : ∀ w, Sem.run Try.prog (binOp .eql 28 (.slice none 0 ic) (.slice none 0 0)) w = .ok (.bool true) w := fun w => Lib.run_eql_slice_nil w 28 _ none 0 ic 0 0 Try.underlying28
    clear hR hn
    go_enter Try.func26, Try.ntmps26
    go_wp2
    go_returns
    exact ⟨none, 0, rfl, .inl rfl, B0.out⟩
  | some ad =>
    obtain ⟨v', w', hr, ho, hb⟩ := app_emptyZ Try.underlying28 i49T' (by decide) l hl h1 ic hR (Nat.le_trans hn (by decide)) (by omega)
    obtain ⟨a, c, rfl⟩ := own_slice2 ho
    have HO : Aside _ := own_rowsZ ho hl
    have HB : Aside (Below w.heap.size w w') := hb
    have tn : ∀ w, Sem.run Try.prog (binOp .eql 28 (.slice (some ad) l.length ic) (.slice none 0 0)) w = .ok (.bool false) w := fun w => Lib.run_eql_slice_nil w 28 _ (some ad) l.length ic 0 0 Try.underlying28
    clear ho hb hR hn hl h1
    go_enter Try.func26, Try.ntmps26
    go_wp2_with (at_builtin; refine wpList_app_run rfl _ _ #[28, 28] rfl (.slice (some ⟨w.heap.size, 0, none⟩) 0 0) (.slice (some ad) l.length ic) rfl rfl _ w' hr ?_)
    go_returns
    exact ⟨a, c, rfl, HO.out, HB.out⟩
/-- A clone. -/
theorem clone24 {Z : Nat → Prop} (ia : Option Addr) (l : List (List Value)) (hl : ∀ x ∈ l, x.length = 11) (h1 : ∀ x ∈ l, ∀ u ∈ x, u.oneCell' = true) (ic : Nat) (w : World) (hn : l.length ≤ 1000) (hR : RowsZ Z w ia 11 l) :
    Calls Try.prog 24 #[.slice ia l.length ic] w (Cloned w l 11) := by
  have mixed := mixedT
  cases ia with
  | none =>
    have hl : l = [] := by
      rcases hR with h | ⟨B, O, e, _⟩
      · exact h
      · cases e
    subst hl
    have B0 : Aside (Below w.heap.size w w) := .refl _ _
    have tn : ∀ w, Sem.run Try.prog (binOp .eql 26 (.slice none 0 ic) (.slice none 0 0)) w = .ok (.bool true) w := fun w => Lib.run_eql_slice_nil w 26 _ none 0 ic 0 0 Try.underlying26
    clear hR hn
    go_enter Try.func24, Try.ntmps24
    go_wp2
    go_returns
    exact ⟨none, 0, rfl, .inl rfl, B0.out⟩
  | some ad =>
    obtain ⟨v', w', hr, ho, hb⟩ := app_emptyZ Try.underlying26 i82T (by decide) l hl h1 ic hR (Nat.le_trans hn (by decide)) (by omega)
    obtain ⟨a, c, rfl⟩ := own_slice2 ho
    have HO : Aside _ := own_rowsZ ho hl
    have HB : Aside (Below w.heap.size w w') := hb
    have tn : ∀ w, Sem.run Try.prog (binOp .eql 26 (.slice (some ad) l.length ic) (.slice none 0 0)) w = .ok (.bool false) w := fun w => Lib.run_eql_slice_nil w 26 _ (some ad) l.length ic 0 0 Try.underlying26
    clear ho hb hR hn hl h1
    go_enter Try.func24, Try.ntmps24
    go_wp2_with (at_builtin; refine wpList_app_run rfl _ _ #[26, 26] rfl (.slice (some ⟨w.heap.size, 0, none⟩) 0 0) (.slice (some ad) l.length ic) rfl rfl _ w' hr ?_)
    go_returns
    exact ⟨a, c, rfl, HO.out, HB.out⟩
end Go.Proofs.Yticgadnmlbfmfaa.cachePlays
/-
  Chapter 25: New, Dirty, walked.
-/
namespace Go.Proofs.Yticgadnmlbfmfaa.cachePlays
open Go.Shelf Go.RowKit Go.Lib Go.Sort Go.Maps
/-- Cards in memory. -/
structure Cs (Z : Nat → Prop) (w : World) (ca : Option Addr) (cards : List Cd) : Prop where
  r : ∃ rs : List (List Value), RowsZ Z w ca 11 rs ∧ rs.length = cards.length ∧ ∀ (i : Nat) (r : List Value) (x : Cd), rs[i]? = some r → cards[i]? = some x → CdR Z w r x
  n : cards.length ≤ 1000
  z : ∀ b, Z b → b < w.heap.size
/-- A new cache. -/
def Ca.new (cards : List Cd) : Ca := ⟨cards, fun _ => none, fun _ => none, fun _ => false⟩
theorem Bt.none : Bt 0 0 0 0 (fun _ => false) := by
  have h : ∀ o, BtW 0 o (fun _ => false) := fun o => ⟨0, rfl, fun i _ => by simp⟩
  exact ⟨h _, h _, h _, h _⟩
/-- A new cache, told. -/
def NewOK (Z : Nat → Prop) (w : World) (cards : List Cd) (e : Ending) (w' : World) : Prop := ∃ cb sb tb, e = .returned (.pointer (some ⟨cb, 0, none⟩)) ∧ w.heap.size ≤ cb ∧ w.heap.size ≤ sb ∧ w.heap.size ≤ tb ∧ CaAt (fun b => Z b ∨ (w.heap.size ≤ b ∧ b < w'.heap.size ∧ b ≠ cb ∧ b ≠ sb ∧ b ≠ tb)) w' cb sb tb (Ca.new cards) ∧ Below w.heap.size w w'
set_option maxHeartbeats 4000000 in
set_option maxRecDepth 100000 in
theorem new_calls {Z : Nat → Prop} {w : World} {ca : Option Addr} {cards : List Cd} (h : Cs Z w ca cards) (cc : Nat) : Calls Try.prog 7 #[.slice ca cards.length cc] w (NewOK Z w cards) := by
  have mixed := mixedT
  obtain ⟨rs, hR, hl, hC⟩ := h.r
  have at_ : ∀ x ∈ rs, ∃ c, CdR Z w x c := fun x hx => by
    obtain ⟨i, hi, rfl⟩ := List.getElem_of_mem hx
    exact ⟨_, hC i _ _ (List.getElem?_eq_getElem hi) (List.getElem?_eq_getElem (by omega))⟩
  have hcl := clone24 ca rs (fun x hx => by obtain ⟨c, k⟩ := at_ x hx; exact k.len) (fun x hx => by obtain ⟨c, k⟩ := at_ x hx; exact k.one) cc w (by rw [hl]; exact h.n) hR
  rw [hl] at hcl
  have HC : Aside _ := hC
  have HL : Hid _ := hl
  have HH : Aside _ := h
  have hmm := @run_makeMap Try.prog
  clear hR hl hC h at_
  go_enter Try.func7, Try.ntmps7
  go_wp2_with (first | (go_at_call 24; refine hcl.mono ?_; rintro e w1 ⟨a, c, rfl, hz, hb⟩; have HZ : Aside (RowsZ _ w1 a 11 rs) := hz; have HB : Aside _ := hb; clear hz hb))
  rw [HL.out]
  go_returns
  have hb := HB.out
  have g1 : Gr w1 (((w1.alloc (.map #[] 0)).alloc (.map #[] 0)).alloc (.cells #[.slice a cards.length c, .map (some w1.heap.size), .map (some (w1.heap.size + 1)), .int .u64 0, .int .u64 0, .int .u64 0, .int .u64 0] 86)) := (((Gr.refl _).alloc _).alloc _).alloc _
  have hs := hb.size
  have sz : (((w1.alloc (.map #[] 0)).alloc (.map #[] 0)).alloc (.cells #[.slice a cards.length c, .map (some w1.heap.size), .map (some (w1.heap.size + 1)), .int .u64 0, .int .u64 0, .int .u64 0, .int .u64 0] 86)).heap.size = w1.heap.size + 3 := by simp
  have bc := blk_new ((w1.alloc (.map #[] 0)).alloc (.map #[] 0)) (.cells #[.slice a cards.length c, .map (some w1.heap.size), .map (some (w1.heap.size + 1)), .int .u64 0, .int .u64 0, .int .u64 0, .int .u64 0] 86)
  rw [World.size_alloc, World.size_alloc] at bc
  have ms : MapV (((w1.alloc (.map #[] 0)).alloc (.map #[] 0)).alloc (.cells #[.slice a cards.length c, .map (some w1.heap.size), .map (some (w1.heap.size + 1)), .int .u64 0, .int .u64 0, .int .u64 0, .int .u64 0] 86)) w1.heap.size 0 (fun _ => none) := (MapV.made w1).keep ((gr_grown (((Gr.refl _).alloc _).alloc _)).block _ (by simp) (by simp))
  have mt : MapV (((w1.alloc (.map #[] 0)).alloc (.map #[] 0)).alloc (.cells #[.slice a cards.length c, .map (some w1.heap.size), .map (some (w1.heap.size + 1)), .int .u64 0, .int .u64 0, .int .u64 0, .int .u64 0] 86)) (w1.heap.size + 1) 0 (fun _ => none) := by
    have := MapV.made (w1.alloc (.map #[] 0))
    rw [World.size_alloc] at this
    exact this.keep ((gr_grown ((Gr.refl _).alloc _)).block _ (by simp) (by simp))
  have hB : Below w.heap.size w (((w1.alloc (.map #[] 0)).alloc (.map #[] 0)).alloc (.cells #[.slice a cards.length c, .map (some w1.heap.size), .map (some (w1.heap.size + 1)), .int .u64 0, .int .u64 0, .int .u64 0, .int .u64 0] 86)) := gr_below hb hs g1
  refine ⟨w1.heap.size + 2, w1.heap.size, w1.heap.size + 1, rfl, by omega, hs, by omega, ⟨⟨a, c, 0, 0, 0, 0, rs, bc, Bt.none, ?_, HL.out, fun i r x hr hx => ?_⟩, ⟨0, _, ms, fun k => trivial⟩, ⟨0, mt⟩, (fun k h => by cases h), (fun k h => by cases h), HH.out.n, ⟨by omega, by omega, by omega, ?_, ?_, ?_⟩, ?_⟩, hB⟩
  · refine RowsZ.mono (HZ.out.keep (Kz.gr g1)) (fun b hb2 _ => .inr ⟨hb2.1, by rw [sz]; omega, by omega, by omega, by omega⟩)
  · exact ((HC.out i r x hr hx).keep (Kz.below hB)).mono (fun b hb2 _ => .inl hb2)
  · rintro (h | h)
    · have := HH.out.z _ h
      omega
    · exact h.2.2.1 rfl
  · rintro (h | h)
    · have := HH.out.z _ h
      omega
    · exact h.2.2.2.1 rfl
  · rintro (h | h)
    · have := HH.out.z _ h
      omega
    · exact h.2.2.2.2 rfl
  · rintro b (h | h)
    · have := HH.out.z _ h
      rw [sz]
      omega
    · exact h.2.1
/-- Dirty's answer. -/
def DirOK (K : Ca) (w : World) (e : Ending) (w' : World) : Prop := ∃ d0 d1 d2 d3, e = .returned (.agg (encB4 d0 d1 d2 d3)) ∧ Bt d0 d1 d2 d3 K.dt ∧ Gr w w'
set_option maxHeartbeats 4000000 in
set_option maxRecDepth 100000 in
theorem dirty_calls {Z : Nat → Prop} {w : World} {cb sb tb : Nat} {K : Ca} (h : CaAt Z w cb sb tb K) : Calls Try.prog 20 #[.pointer (some ⟨cb, 0, none⟩)] w (DirOK K w) := by
  have mixed := mixedT
  obtain ⟨ca, cc, d0, d1, d2, d3, rs, c1, c2, _⟩ := h.c
  have c1' := blk_old c1 (.cells #[.int .u64 0, .int .u64 0, .int .u64 0, .int .u64 0] 53)
  obtain ⟨⟨a0, a1, a2, a3, a4, a5, a6⟩, _⟩ := ca_cells c1'
  have G0 : Aside (Gr w (w.alloc (.cells #[.int .u64 d0, .int .u64 d1, .int .u64 d2, .int .u64 d3] 53))) := (Gr.refl _).alloc _
  have C2 : Aside _ := c2
  clear c1 c1' h c2
  go_enter Try.func20, Try.ntmps20
  go_wp2
  go_returns
  exact ⟨d0, d1, d2, d3, rfl, C2.out, G0.out⟩
end Go.Proofs.Yticgadnmlbfmfaa.cachePlays
