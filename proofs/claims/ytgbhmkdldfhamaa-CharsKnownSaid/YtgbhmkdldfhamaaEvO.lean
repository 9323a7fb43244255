/- Engine, part O: regions that draw their order: facts about the checks. -/
import Derived.Test.YtgbhmkdldfhamaaEvN
namespace Go.Ev
noncomputable section
theorem memN_iff {x : Nat} : ∀ {l : List Nat}, memN x l = true ↔ x ∈ l
  | [] => by simp [memN]
  | y :: l => by
    simp only [memN]
    cases h : Nat.beq x y with
    | true => simp [Nat.eq_of_beq_eq_true h]
    | false =>
      have : x ≠ y := fun e => by rw [e] at h; simp at h
      simp [this, memN_iff (l := l)]
theorem memN_false {x : Nat} {l : List Nat} : memN x l = false ↔ x ∉ l := by
  rw [← memN_iff]; simp
theorem allN_iff {p : Nat → Bool} : ∀ {l : List Nat}, allN p l = true ↔ ∀ x ∈ l, p x = true
  | [] => by simp [allN]
  | y :: l => by
    simp only [allN]
    cases h : p y with
    | true => simp [h, allN_iff (l := l)]
    | false => simp [h]
theorem mem_upto : ∀ {n s i : Nat}, i ∈ upto n s ↔ s ≤ i ∧ i < s + n
  | 0, s, i => by simp [upto]
  | n + 1, s, i => by
    simp only [upto, List.mem_cons, mem_upto (n := n)]
    omega
theorem bindB_eq (e : Edge) : bindB e = Region.binds .any e := by
  unfold bindB Region.binds
  cases e.ground <;> rfl
theorem getN_eq {l : List Nat} {i : Nat} : getN l i = (l[i]?).getD 0 := by
  unfold getN
  rw [lget_eq]
  cases l[i]? <;> rfl
theorem edgeMask_bit {acc : List Nat} {i : Nat} : ∀ {es : List Edge}, Nat.testBit (edgeMask acc es) i = true → ∃ e ∈ es, bindB e = true ∧ (i = e.on ∨ Nat.testBit (getN acc e.on) i = true)
  | [], h => by simp [edgeMask] at h
  | e :: r, h => by
    simp only [edgeMask] at h
    cases hb : bindB e with
    | true =>
      rw [hb] at h
      simp only [Nat.testBit_or, Bool.or_eq_true, Nat.testBit_two_pow, decide_eq_true_eq] at h
      rcases h with (h | h) | h
      · exact ⟨e, by simp, hb, .inl h.symm⟩
      · exact ⟨e, by simp, hb, .inr h⟩
      · obtain ⟨e', h1, h2⟩ := edgeMask_bit h; exact ⟨e', by simp [h1], h2⟩
    | false =>
      rw [hb] at h
      obtain ⟨e', h1, h2⟩ := edgeMask_bit h; exact ⟨e', by simp [h1], h2⟩
theorem masks_spec : ∀ (l : List Oper) (acc : List Nat), (∃ t, masks l acc = acc ++ t ∧ t.length = l.length) ∧ ∀ j o, l[j]? = some o → ∃ acc' t', masks l acc = acc' ++ t' ∧ acc'.length = acc.length + j ∧ getN (masks l acc) (acc.length + j) = edgeMask acc' o.after.toList
  | [], acc => ⟨⟨[], by simp [masks]⟩, fun j o h => by simp at h⟩
  | o :: l, acc => by
    obtain ⟨⟨t, h1, h2⟩, h3⟩ := masks_spec l (acc ++ [edgeMask acc o.after.toList])
    refine ⟨⟨edgeMask acc o.after.toList :: t, by simp [masks, h1], by simp [h2]⟩, fun j o' h => ?_⟩
    cases j with
    | zero =>
      simp only [List.getElem?_cons_zero, Option.some.injEq] at h
      subst h
      refine ⟨acc, edgeMask acc o.after.toList :: t, by simp [masks, h1], by simp, ?_⟩
      simp [masks, h1, getN_eq]
    | succ j =>
      simp only [List.getElem?_cons_succ] at h
      obtain ⟨acc', t', k1, k2, k3⟩ := h3 j o' h
      refine ⟨acc', t', by simp [masks, k1], by simp at k2; omega, ?_⟩
      simp only [List.length_append, List.length_singleton] at k3
      rw [show acc.length + (j + 1) = acc.length + 1 + j by omega]
      simp only [masks]
      exact k3
/-- What comes before lies in each set that is closed. -/
theorem rch_closed {all : List Oper} {L : Nat → Prop} (hL : ∀ j o, L j → lget all j = some o → ∀ e ∈ o.after.toList, bindB e = true → L e.on) :
    ∀ (j i : Nat), rch (masks all []) i j = true → (∀ o, lget all j = some o → ∀ e ∈ o.after.toList, bindB e = true → L e.on) → L i := by
  intro j
  induction j using Nat.strongRecOn with
  | ind j ih =>
    intro i hr he
    obtain ⟨⟨t, h1, h2⟩, h3⟩ := masks_spec all []
    simp only [List.nil_append, List.length_nil, Nat.zero_add] at h1 h3
    unfold rch at hr
    cases ho : all[j]? with
    | none =>
      have : (masks all [])[j]? = none := by
        rw [h1, List.getElem?_eq_none_iff, h2]
        exact List.getElem?_eq_none_iff.1 ho
      rw [getN_eq, this] at hr
      simp at hr
    | some o =>
      obtain ⟨acc', t', k1, k2, k3⟩ := h3 j o ho
      rw [k3] at hr
      obtain ⟨e, m1, m2, m3⟩ := edgeMask_bit hr
      have hL' := he o (by rw [lget_eq]; exact ho) e m1 m2
      rcases m3 with rfl | m3
      · exact hL'
      · rw [getN_eq] at m3
        cases hg : acc'[e.on]? with
        | none => rw [hg] at m3; simp at m3
        | some x =>
          have hlt : e.on < acc'.length := (List.getElem?_eq_some_iff.1 hg).1
          refine ih e.on (by omega) i ?_ (fun o' ho' e' he' hb' => hL e.on o' hL' ho' e' he' hb')
          unfold rch
          rw [getN_eq, k1, List.getElem?_append_left hlt]
          exact m3
theorem afterOk_spec {before : List Nat} : ∀ {es : List Edge}, afterOk before es = true → ∀ e ∈ es, bindB e = true → e.on ∈ before
  | [], _, e, he, _ => by cases he
  | x :: r, h, e, he, hb => by
    simp only [afterOk] at h
    cases hx : bindB x with
    | true =>
      rw [hx] at h
      simp only at h
      cases hm : memN x.on before with
      | false => rw [hm] at h; cases h
      | true =>
        rw [hm] at h
        rcases List.mem_cons.1 he with rfl | he
        · exact memN_iff.1 hm
        · exact afterOk_spec h e he hb
    | false =>
      rw [hx] at h
      rcases List.mem_cons.1 he with rfl | he
      · rw [hx] at hb; cases hb
      · exact afterOk_spec h e he hb
theorem effs_spec {ks : List SK} {mk : List Nat} {i : Nat} : ∀ {l : List Nat}, effs ks mk i l = true → ∀ e ∈ l, getK ks e = .e → rch mk e i = true
  | [], _, e, he, _ => by cases he
  | x :: l, h, e, he, hk => by
    simp only [effs] at h
    rcases List.mem_cons.1 he with rfl | he
    · rw [hk] at h
      simp only at h
      cases hr : rch mk e i with
      | true => rfl
      | false => rw [hr] at h; cases h
    · refine effs_spec (l := l) ?_ e he hk
      cases hx : getK ks x with
      | r => rw [hx] at h; exact h
      | a => rw [hx] at h; exact h
      | e =>
        rw [hx] at h
        simp only at h
        cases hr : rch mk x i with
        | true => rw [hr] at h; exact h
        | false => rw [hr] at h; cases h
theorem headOk_spec {ks : List SK} {mk : List Nat} {i : Nat} : ∀ {r : List Nat}, headOk ks mk i r = true → ∀ j ∈ r, getK ks j ≠ .a → ∃ pre k post, r = pre ++ k :: post ∧ getK ks k = .e ∧ rch mk i k = true ∧ (j = k ∨ j ∈ post)
  | [], _, j, hj, _ => by cases hj
  | x :: r, h, j, hj, hk => by
    simp only [headOk] at h
    cases hx : getK ks x with
    | r => rw [hx] at h; cases h
    | e =>
      rw [hx] at h
      exact ⟨[], x, r, rfl, hx, h, by simpa using hj⟩
    | a =>
      rw [hx] at h
      rcases List.mem_cons.1 hj with rfl | hj
      · exact absurd hx hk
      · obtain ⟨pre, k, post, h1, h2⟩ := headOk_spec h j hj hk
        exact ⟨x :: pre, k, post, by simp [h1], h2⟩
theorem ordOk_cons {all : List Oper} {ks : List SK} {mk : List Nat} {before : List Nat} {i : Nat} {rest : List Nat} (h : ordOk all ks mk before (i :: rest) = true) :
    ∃ o, lget all i = some o ∧ i ∉ before ∧ (∀ e ∈ o.after.toList, bindB e = true → e.on ∈ before) ∧ (getK ks i = .a → o.guard = none ∧ headOk ks mk i rest = true) ∧ (getK ks i ≠ .a → ∀ e ∈ before, getK ks e = .e → rch mk e i = true) ∧ ordOk all ks mk (i :: before) rest = true := by
  simp only [ordOk] at h
  cases ho : lget all i with
  | none => rw [ho] at h; cases h
  | some o =>
    rw [ho] at h
    simp only at h
    cases hm : memN i before with
    | true => rw [hm] at h; cases h
    | false =>
      rw [hm] at h
      simp only at h
      cases ha : afterOk before o.after.toList with
      | false => rw [ha] at h; cases h
      | true =>
        rw [ha] at h
        simp only at h
        refine ⟨o, rfl, memN_false.1 hm, afterOk_spec ha, ?_⟩
        cases hk : getK ks i with
        | a =>
          rw [hk] at h
          simp only at h
          cases hg : o.guard with
          | some _ => rw [hg] at h; cases h
          | none =>
            rw [hg] at h
            simp only at h
            cases hh : headOk ks mk i rest with
            | false => rw [hh] at h; cases h
            | true =>
              rw [hh] at h
              exact ⟨fun _ => ⟨rfl, rfl⟩, fun hn => absurd rfl hn, h⟩
        | r =>
          rw [hk] at h
          simp only at h
          cases he : effs ks mk i before with
          | false => rw [he] at h; cases h
          | true =>
            rw [he] at h
            exact ⟨(fun hn => by cases hn), fun _ => effs_spec he, h⟩
        | e =>
          rw [hk] at h
          simp only at h
          cases he : effs ks mk i before with
          | false => rw [he] at h; cases h
          | true =>
            rw [he] at h
            exact ⟨(fun hn => by cases hn), fun _ => effs_spec he, h⟩
theorem ordOk_mem {all : List Oper} {ks : List SK} {mk : List Nat} : ∀ {rest before : List Nat}, ordOk all ks mk before rest = true → ∀ j ∈ rest, j ∉ before ∧ ∃ o, lget all j = some o
  | [], _, _, j, hj => by cases hj
  | i :: rest, before, h, j, hj => by
    obtain ⟨o, h1, h2, _, _, _, h3⟩ := ordOk_cons h
    rcases List.mem_cons.1 hj with rfl | hj
    · exact ⟨h2, o, h1⟩
    · obtain ⟨k1, k2⟩ := ordOk_mem h3 j hj
      exact ⟨fun hb => k1 (by simp [hb]), k2⟩
theorem ordOk_eff {all : List Oper} {ks : List SK} {mk : List Nat} : ∀ {rest before : List Nat}, ordOk all ks mk before rest = true → ∀ pre j post, rest = pre ++ j :: post → getK ks j ≠ .a → ∀ e, (e ∈ before ∨ e ∈ pre) → getK ks e = .e → rch mk e j = true
  | [], _, _, pre, j, post, hp, _, _, _, _ => by simp at hp
  | i :: rest, before, h, pre, j, post, hp, hk, e, he, hke => by
    obtain ⟨o, h1, h2, _, _, h4, h3⟩ := ordOk_cons h
    cases pre with
    | nil =>
      simp only [List.nil_append, List.cons.injEq] at hp
      obtain ⟨rfl, rfl⟩ := hp
      exact h4 hk e (by simpa using he) hke
    | cons p pre =>
      simp only [List.cons_append, List.cons.injEq] at hp
      obtain ⟨rfl, hp⟩ := hp
      refine ordOk_eff h3 pre j post hp hk e ?_ hke
      rcases he with he | he
      · exact .inl (by simp [he])
      · rcases List.mem_cons.1 he with rfl | he
        · exact .inl (by simp)
        · exact .inr he
theorem optIs_iff {d : Nat} {o : Option Nat} : optIs d o = true ↔ o = some d := by
  cases o with
  | none => simp [optIs]
  | some x =>
    simp only [optIs, Option.some.injEq]
    exact ⟨fun h => (Nat.eq_of_beq_eq_true h).symm, fun h => by subst h; simp⟩
theorem hits_iff {all : List Oper} {d i : Nat} : hits all d i = true ↔ d ∈ looksOf all i ∨ dstOf all i = some d := by
  unfold hits
  cases h : memN d (looksOf all i) with
  | true => simp [memN_iff.1 h]
  | false => simp [memN_false.1 h, optIs_iff]
theorem tame_spec {all : List Oper} {mk : List Nat} {x d : Nat} : ∀ {l : List Nat}, tame all mk x d l = true → ∀ i ∈ l, (i ≠ x → hits all d i = true → rch mk x i = true) ∧ (i = x → d ∉ looksOf all i)
  | [], _, i, hi => by cases hi
  | y :: l, h, i, hi => by
    simp only [tame] at h
    cases hb : Nat.beq x y with
    | true =>
      rw [hb] at h
      simp only at h
      have hxy := Nat.eq_of_beq_eq_true hb
      cases hm : memN d (looksOf all y) with
      | true => rw [hm] at h; cases h
      | false =>
        rw [hm] at h
        rcases List.mem_cons.1 hi with rfl | hi
        · exact ⟨fun hn => absurd hxy.symm hn, fun _ => memN_false.1 hm⟩
        · exact tame_spec h i hi
    | false =>
      rw [hb] at h
      simp only at h
      have hxy : y ≠ x := fun e => by rw [e] at hb; simp at hb
      cases hh : hits all d y with
      | false =>
        rw [hh] at h
        rcases List.mem_cons.1 hi with rfl | hi
        · exact ⟨(fun _ hc => by rw [hh] at hc; cases hc), fun e => absurd e hxy⟩
        · exact tame_spec h i hi
      | true =>
        rw [hh] at h
        simp only at h
        cases hr : rch mk x y with
        | false => rw [hr] at h; cases h
        | true =>
          rw [hr] at h
          rcases List.mem_cons.1 hi with rfl | hi
          · exact ⟨fun _ _ => hr, fun e => absurd e hxy⟩
          · exact tame_spec h i hi
theorem ordered_spec {all : List Oper} {mk : List Nat} {x d : Nat} : ∀ {l : List Nat}, ordered all mk x d l = true → ∀ i ∈ l, i ≠ x → hits all d i = true → rch mk x i = true ∨ rch mk i x = true
  | [], _, i, hi => by cases hi
  | y :: l, h, i, hi => by
    simp only [ordered] at h
    intro hix hh
    cases hb : Nat.beq x y with
    | true =>
      rw [hb] at h
      have hxy := Nat.eq_of_beq_eq_true hb
      rcases List.mem_cons.1 hi with rfl | hi
      · exact absurd hxy.symm hix
      · exact ordered_spec h i hi hix hh
    | false =>
      rw [hb] at h
      simp only at h
      cases hy : hits all d y with
      | false =>
        rw [hy] at h
        rcases List.mem_cons.1 hi with rfl | hi
        · rw [hy] at hh; cases hh
        · exact ordered_spec h i hi hix hh
      | true =>
        rw [hy] at h
        simp only at h
        cases hr : rch mk x y with
        | true =>
          rw [hr] at h
          rcases List.mem_cons.1 hi with rfl | hi
          · exact .inl hr
          · exact ordered_spec h i hi hix hh
        | false =>
          rw [hr] at h
          simp only at h
          cases hq : rch mk y x with
          | false => rw [hq] at h; cases h
          | true =>
            rw [hq] at h
            rcases List.mem_cons.1 hi with rfl | hi
            · exact .inr hq
            · exact ordered_spec h i hi hix hh
/-- What the checks tell of pairs. -/
structure Pairs (all : List Oper) (ks : List SK) (mk : List Nat) : Prop where
  tame : ∀ x d, dstOf all x = some d → getK ks x ≠ .e → ∀ i, i < all.length → i ≠ x → hits all d i = true → rch mk x i = true
  self : ∀ x d, x < all.length → dstOf all x = some d → getK ks x ≠ .e → d ∉ looksOf all x
  eff : ∀ x d, dstOf all x = some d → getK ks x = .e → ∀ i, i < all.length → i ≠ x → hits all d i = true → rch mk x i = true ∨ rch mk i x = true
theorem dstOf_lt {all : List Oper} {x d : Nat} (h : dstOf all x = some d) : x < all.length := by
  unfold dstOf at h
  rw [lget_eq] at h
  cases hx : all[x]? with
  | none => rw [hx] at h; cases h
  | some o => exact (List.getElem?_eq_some_iff.1 hx).1
theorem pairs_of {all : List Oper} {ks : List SK} {mk : List Nat} {n : Nat} (hn : n = all.length) (h : ∀ x, x < n → pairOk all ks mk n x = true) : Pairs all ks mk := by
  subst hn
  refine ⟨?_, ?_, ?_⟩
  · intro x d hd hk i hi hne hh
    have := h x (dstOf_lt hd)
    unfold pairOk at this
    rw [hd] at this
    simp only at this
    have ht : Go.Ev.tame all mk x d (upto all.length 0) = true := by
      cases hx : getK ks x with
      | e => exact absurd hx hk
      | r => exact this
      | a => exact this
    exact (tame_spec ht i (mem_upto.2 ⟨by omega, by omega⟩)).1 hne hh
  · intro x d hx hd hk
    have := h x hx
    unfold pairOk at this
    rw [hd] at this
    simp only at this
    have ht : Go.Ev.tame all mk x d (upto all.length 0) = true := by
      cases hx : getK ks x with
      | e => exact absurd hx hk
      | r => exact this
      | a => exact this
    exact (tame_spec ht x (mem_upto.2 ⟨by omega, by omega⟩)).2 rfl
  · intro x d hd hk i hi hne hh
    have := h x (dstOf_lt hd)
    unfold pairOk at this
    rw [hd] at this
    simp only [hk] at this
    exact ordered_spec this i (mem_upto.2 ⟨by omega, by omega⟩) hne hh
theorem kinds_get {P : Program} {all : List Oper} {mk : List Nat} {n : Nat} : ∀ (l : List Oper) (s i : Nat), lget (kinds P all mk n s l) i = (lget l i).map fun o => kindOf P all mk n (s + i) o
  | [], s, i => by cases i <;> rfl
  | o :: l, s, 0 => by simp [kinds, lget]
  | o :: l, s, i + 1 => by
    simp only [kinds, lget]
    rw [kinds_get l (s + 1) i, show s + 1 + i = s + (i + 1) by omega]
theorem kind_r {P : Program} {all : List Oper} {mk : List Nat} {n i : Nat} {o : Oper} (ho : lget all i = some o) (h : getK (kinds P all mk n 0 all) i = .r) : cls P o.op = 0 ∨ cls P o.op = 1 := by
  unfold getK at h
  rw [kinds_get, ho] at h
  simp only [Option.map_some] at h
  unfold kindOf at h
  split at h
  · exact .inl (by assumption)
  · exact .inr (by assumption)
  · cases h
  · cases h
theorem kind_a {P : Program} {all : List Oper} {mk : List Nat} {n i : Nat} {o : Oper} (ho : lget all i = some o) (h : getK (kinds P all mk n 0 all) i = .a) : cls P o.op = 2 := by
  unfold getK at h
  rw [kinds_get, ho] at h
  simp only [Option.map_some] at h
  unfold kindOf at h
  split at h
  · split at h
    · split at h <;> cases h
    · cases h
  · split at h
    · split at h <;> cases h
    · cases h
  · assumption
  · cases h
end
end Go.Ev
