/- Engine, part O: regions that draw their order: facts about the checks. -/
import Derived.Test.YticgadnmlbfmfaaEvN
namespace Go.Ev
theorem memN_iff {x : Nat} : ∀ {l : List Nat}, memN x l = true ↔ x ∈ l
  | [] => by simp [memN]
  | y :: l => by
    simp only [memN]
    cases h : Nat.beq x y with
    | true => simp [Nat.eq_of_beq_eq_true h]
    | false =>
      have : x ≠ y := fun e => by rw [e] at h; simp at h
      simp [this, memN_iff (l := l)]
theorem memN_false {x : Nat} {l : List Nat} : memN x l = false ↔ x ∉ l := by
  rw [← memN_iff]; simp
theorem allN_iff {p : Nat → Bool} : ∀ {l : List Nat}, allN p l = true ↔ ∀ x ∈ l, p x = true
  | [] => by simp [allN]
  | y :: l => by
    simp only [allN]
    cases h : p y with
    | true => simp [h, allN_iff (l := l)]
    | false => simp [h]
theorem mem_upto : ∀ {n s i : Nat}, i ∈ upto n s ↔ s ≤ i ∧ i < s + n
  | 0, s, i => by simp [upto]
  | n + 1, s, i => by
    simp only [upto, List.mem_cons, mem_upto (n := n)]
    omega
theorem bindB_eq (e : Edge) : bindB e = Region.binds .any e := by
  unfold bindB Region.binds
  cases e.ground <;> rfl
theorem getN_eq {l : List Nat} {i : Nat} : getN l i = (l[i]?).getD 0 := by
  unfold getN
  rw [lget_eq]
  cases l[i]? <;> rfl
theorem edgeMask_bit {acc : List Nat} {i : Nat} : ∀ {es : List Edge}, Nat.testBit (edgeMask acc es) i = true → ∃ e ∈ es, bindB e = true ∧ (i = e.on ∨ Nat.testBit (getN acc e.on) i = true)
  | [], h => by simp [edgeMask] at h
  | e :: r, h => by
    simp only [edgeMask] at h
    cases hb : bindB e with
    | true =>
      rw [hb] at h
      simp only [Nat.testBit_or, Bool.or_eq_true, Nat.testBit_two_pow, decide_eq_true_eq] at h
      rcases h with (h | h) | h
      · exact ⟨e, by simp, hb, .inl h.symm⟩
      · exact ⟨e, by simp, hb, .inr h⟩
      · obtain ⟨e', h1, h2⟩ := edgeMask_bit h; exact ⟨e', by simp [h1], h2⟩
    | false =>
      rw [hb] at h
      obtain ⟨e', h1, h2⟩ := edgeMask_bit h; exact ⟨e', by simp [h1], h2⟩
theorem masks_spec : ∀ (l : List Oper) (acc : List Nat), (∃ t, masks l acc = acc ++ t ∧ t.length = l.length) ∧ ∀ j o, l[j]? = some o → ∃ acc' t', masks l acc = acc' ++ t' ∧ acc'.length = acc.length + j ∧ getN (masks l acc) (acc.length + j) = edgeMask acc' o.after.toList
  | [], acc => ⟨⟨[], by simp [masks]⟩, fun j o h => by simp at h⟩
  | o :: l, acc => by
    obtain ⟨⟨t, h1, h2⟩, h3⟩ := masks_spec l (acc ++ [edgeMask acc o.after.toList])
    refine ⟨⟨edgeMask acc o.after.toList :: t, by simp [masks, h1], by simp [h2]⟩, fun j o' h => ?_⟩
    cases j with
    | zero =>
      simp only [List.getElem?_cons_zero, Option.some.injEq] at h
      subst h
      refine ⟨acc, edgeMask acc o.after.toList :: t, by simp [masks, h1], by simp, ?_⟩
      simp [masks, h1, getN_eq]
    | succ j =>
      simp only [List.getElem?_cons_succ] at h
      obtain ⟨acc', t', k1, k2, k3⟩ := h3 j o' h
      refine ⟨acc', t', by simp [masks, k1], by simp at k2; omega, ?_⟩
      simp only [List.length_append, List.length_singleton] at k3
      rw [show acc.length + (j + 1) = acc.length + 1 + j by omega]
      simp only [masks]
      exact k3
/-- What comes before lies in each set that is closed. -/
theorem rch_closed {all : List Oper} {L : Nat → Prop} (hL : ∀ j o, L j → lget all j = some o → ∀ e ∈ o.after.toList, bindB e = true → L e.on) :
    ∀ (j i : Nat), rch (masks all []) i j = true → (∀ o, lget all j = some o → ∀ e ∈ o.after.toList, bindB e = true → L e.on) → L i := by
  intro j
  induction j using Nat.strongRecOn with
  | ind j ih =>
    intro i hr he
    obtain ⟨⟨t, h1, h2⟩, h3⟩ := masks_spec all []
    simp only [List.nil_append, List.length_nil, Nat.zero_add] at h1 h3
    unfold rch at hr
    cases ho : all[j]? with
    | none =>
      have : (masks all [])[j]? = none := by
        rw [h1, List.getElem?_eq_none_iff, h2]
        exact List.getElem?_eq_none_iff.1 ho
      rw [getN_eq, this] at hr
      simp at hr
    | some o =>
      obtain ⟨acc', t', k1, k2, k3⟩ := h3 j o ho
      rw [k3] at hr
      obtain ⟨e, m1, m2, m3⟩ := edgeMask_bit hr
      have hL' := he o (by rw [lget_eq]; exact ho) e m1 m2
      rcases m3 with rfl | m3
      · exact hL'
      · rw [getN_eq] at m3
        cases hg : acc'[e.on]? with
        | none => rw [hg] at m3; simp at m3
        | some x =>
          have hlt : e.on < acc'.length := (List.getElem?_eq_some_iff.1 hg).1
          refine ih e.on (by omega) i ?_ (fun o' ho' e' he' hb' => hL e.on o' hL' ho' e' he' hb')
          unfold rch
          rw [getN_eq, k1, List.getElem?_append_left hlt]
          exact m3
theorem afterOk_spec {before : List Nat} : ∀ {es : List Edge}, afterOk before es = true → ∀ e ∈ es, bindB e = true → e.on ∈ before
  | [], _, e, he, _ => by cases he
  | x :: r, h, e, he, hb => by
    simp only [afterOk] at h
    cases hx : bindB x with
    | true =>
      rw [hx] at h
      simp only at h
      cases hm : memN x.on before with
      | false => rw [hm] at h; cases h
      | true =>
        rw [hm] at h
        rcases List.mem_cons.1 he with rfl | he
        · exact memN_iff.1 hm
        · exact afterOk_spec h e he hb
    | false =>
      rw [hx] at h
      rcases List.mem_cons.1 he with rfl | he
      · rw [hx] at hb; cases hb
      · exact afterOk_spec h e he hb
theorem effs_spec {ks : List SK} {mk : List Nat} {i : Nat} : ∀ {l : List Nat}, effs ks mk i l = true → ∀ e ∈ l, getK ks e = .e → rch mk e i = true
  | [], _, e, he, _ => by cases he
  | x :: l, h, e, he, hk => by
    simp only [effs] at h
    rcases List.mem_cons.1 he with rfl | he
    · rw [hk] at h
      simp only at h
      cases hr : rch mk e i with
      | true => rfl
      | false => rw [hr] at h; cases h
    · refine effs_spec (l := l) ?_ e he hk
      cases hx : getK ks x with
      | r => rw [hx] at h; exact h
      | a => rw [hx] at h; exact h
      | e =>
        rw [hx] at h
        simp only at h
        cases hr : rch mk x i with
        | true => rw [hr] at h; exact h
        | false => rw [hr] at h; cases h
theorem headOk_spec {ks : List SK} {mk : List Nat} {i : Nat} : ∀ {r : List Nat}, headOk ks mk i r = true → ∀ j ∈ r, getK ks j ≠ .a → ∃ pre k post, r = pre ++ k :: post ∧ getK ks k = .e ∧ rch mk i k = true ∧ (j = k ∨ j ∈ post)
  | [], _, j, hj, _ => by cases hj
  | x :: r, h, j, hj, hk => by
    simp only [headOk] at h
    cases hx : getK ks x with
    | r => rw [hx] at h; cases h
    | e =>
      rw [hx] at h
      exact ⟨[], x, r, rfl, hx, h, by simpa using hj⟩
    | a =>
      rw [hx] at h
      rcases List.mem_cons.1 hj with rfl | hj
      · exact absurd hx hk
      · obtain ⟨pre, k, post, h1, h2⟩ := headOk_spec h j hj hk
        exact ⟨x :: pre, k, post, by simp [h1], h2⟩
theorem ordOk_cons {all : List Oper} {ks : List SK} {mk : List Nat} {before : List Nat} {i : Nat} {rest : List Nat} (h : ordOk all ks mk before (i :: rest) = true) :
    ∃ o, lget all i = some o ∧ i ∉ before ∧ (∀ e ∈ o.after.toList, bindB e = true → e.on ∈ before) ∧ (getK ks i = .a → o.guard = none ∧ headOk ks mk i rest = true) ∧ (getK ks i ≠ .a → ∀ e ∈ before, getK ks e = .e → rch mk e i = true) ∧ ordOk all ks mk (i :: before) rest = true := by
  simp only [ordOk] at h
  cases ho : lget all i with
  | none => rw [ho] at h; cases h
  | some o =>
    rw [ho] at h
    simp only at h
    cases hm : memN i before with
    | true => rw [hm] at h; cases h
    | false =>
      rw [hm] at h
      simp only at h
      cases ha : afterOk before o.after.toList with
      | false => rw [ha] at h; cases h
      | true =>
        rw [ha] at h
        simp only at h
        refine ⟨o, rfl, memN_false.1 hm, afterOk_spec ha, ?_⟩
        cases hk : getK ks i with
        | a =>
          rw [hk] at h
          simp only at h
          cases hg : o.guard with
          | some _ => rw [hg] at h; cases h
          | none =>
            rw [hg] at h
            simp only at h
            cases hh : headOk ks mk i rest with
            | false => rw [hh] at h; cases h
            | true =>
              rw [hh] at h
              exact ⟨fun _ => ⟨rfl, rfl⟩, fun hn => absurd rfl hn, h⟩
        | r =>
          rw [hk] at h
          simp only at h
          cases he : effs ks mk i before with
          | false => rw [he] at h; cases h
          | true =>
            rw [he] at h
            exact ⟨(fun hn => by cases hn), fun _ => effs_spec he, h⟩
        | e =>
          rw [hk] at h
          simp only at h
          cases he : effs ks mk i before with
          | false => rw [he] at h; cases h
          | true =>
            rw [he] at h
            exact ⟨(fun hn => by cases hn), fun _ => effs_spec he, h⟩
theorem ordOk_mem {all : List Oper} {ks : List SK} {mk : List Nat} : ∀ {rest before : List Nat}, ordOk all ks mk before rest = true → ∀ j ∈ rest, j ∉ before ∧ ∃ o, lget all j = some o
  | [], _, _, j, hj => by cases hj
  | i :: rest, before, h, j, hj => by
    obtain ⟨o, h1, h2, _, _, _, h3⟩ := ordOk_cons h
    rcases List.mem_cons.1 hj with rfl | hj
    · exact ⟨h2, o, h1⟩
    · obtain ⟨k1, k2⟩ := ordOk_mem h3 j hj
      exact ⟨fun hb => k1 (by simp [hb]), k2⟩
theorem ordOk_eff {all : List Oper} {ks : List SK} {mk : List Nat} : ∀ {rest before : List Nat}, ordOk all ks mk before rest = true → ∀ pre j post, rest = pre ++ j :: post → getK ks j ≠ .a → ∀ e, (e ∈ before ∨ e ∈ pre) → getK ks e = .e → rch mk e j = true
  | [], _, _, pre, j, post, hp, _, _, _, _ => by simp at hp
  | i :: rest, before, h, pre, j, post, hp, hk, e, he, hke => by
    obtain ⟨o, h1, h2, _, _, h4, h3⟩ := ordOk_cons h
    cases pre with
    | nil =>
      simp only [List.nil_append, List.cons.injEq] at hp
      obtain ⟨rfl, rfl⟩ := hp
      exact h4 hk e (by simpa using he) hke
    | cons p pre =>
      simp only [List.cons_append, List.cons.injEq] at hp
      obtain ⟨rfl, hp⟩ := hp
      refine ordOk_eff h3 pre j post hp hk e ?_ hke
      rcases he with he | he
      · exact .inl (by simp [he])
      · rcases List.mem_cons.1 he with rfl | he
        · exact .inl (by simp)
        · exact .inr he
theorem optIs_iff {d : Nat} {o : Option Nat} : optIs d o = true ↔ o = some d := by
  cases o with
  | none => simp [optIs]
  | some x =>
    simp only [optIs, Option.some.injEq]
    exact ⟨fun h => (Nat.eq_of_beq_eq_true h).symm, fun h => by subst h; simp⟩
theorem hits_iff {all : List Oper} {d i : Nat} : hits all d i = true ↔ d ∈ looksOf all i ∨ dstOf all i = some d := by
  unfold hits
  cases h : memN d (looksOf all i) with
  | true => simp [memN_iff.1 h]
  | false => simp [memN_false.1 h, optIs_iff]
theorem tame_spec {all : List Oper} {mk : List Nat} {x d : Nat} : ∀ {l : List Nat}, tame all mk x d l = true → ∀ i ∈ l, (i ≠ x → hits all d i = true → rch mk x i = true) ∧ (i = x → d ∉ looksOf all i)
  | [], _, i, hi => by cases hi
  | y :: l, h, i, hi => by
    simp only [tame] at h
    cases hb : Nat.beq x y with
    | true =>
      rw [hb] at h
      simp only at h
      have hxy := Nat.eq_of_beq_eq_true hb
      cases hm : memN d (looksOf all y) with
      | true => rw [hm] at h; cases h
      | false =>
        rw [hm] at h
        rcases List.mem_cons.1 hi with rfl | hi
        · exact ⟨fun hn => absurd hxy.symm hn, fun _ => memN_false.1 hm⟩
        · exact tame_spec h i hi
    | false =>
      rw [hb] at h
      simp only at h
      have hxy : y ≠ x := fun e => by rw [e] at hb; simp at hb
      cases hh : hits all d y with
      | false =>
        rw [hh] at h
        rcases List.mem_cons.1 hi with rfl | hi
        · exact ⟨(fun _ hc => by rw [hh] at hc; cases hc), fun e => absurd e hxy⟩
        · exact tame_spec h i hi
      | true =>
        rw [hh] at h
        simp only at h
        cases hr : rch mk x y with
        | false => rw [hr] at h; cases h
        | true =>
          rw [hr] at h
          rcases List.mem_cons.1 hi with rfl | hi
          · exact ⟨fun _ _ => hr, fun e => absurd e hxy⟩
          · exact tame_spec h i hi
theorem ordered_spec {all : List Oper} {mk : List Nat} {x d : Nat} : ∀ {l : List Nat}, ordered all mk x d l = true → ∀ i ∈ l, i ≠ x → hits all d i = true → rch mk x i = true ∨ rch mk i x = true
  | [], _, i, hi => by cases hi
  | y :: l, h, i, hi => by
    simp only [ordered] at h
    intro hix hh
    cases hb : Nat.beq x y with
    | true =>
      rw [hb] at h
      have hxy := Nat.eq_of_beq_eq_true hb
      rcases List.mem_cons.1 hi with rfl | hi
      · exact absurd hxy.symm hix
      · exact ordered_spec h i hi hix hh
    | false =>
      rw [hb] at h
      simp only at h
      cases hy : hits all d y with
      | false =>
        rw [hy] at h
        rcases List.mem_cons.1 hi with rfl | hi
        · rw [hy] at hh; cases hh
        · exact ordered_spec h i hi hix hh
      | true =>
        rw [hy] at h
        simp only at h
        cases hr : rch mk x y with
        | true =>
          rw [hr] at h
          rcases List.mem_cons.1 hi with rfl | hi
          · exact .inl hr
          · exact ordered_spec h i hi hix hh
        | false =>
          rw [hr] at h
          simp only at h
          cases hq : rch mk y x with
          | false => rw [hq] at h; cases h
          | true =>
            rw [hq] at h
            rcases List.mem_cons.1 hi with rfl | hi
            · exact .inr hq
            · exact ordered_spec h i hi hix hh
/-- What the checks tell of pairs. -/
structure Pairs (all : List Oper) (ks : List SK) (mk : List Nat) : Prop where
  tame : ∀ x d, dstOf all x = some d → getK ks x ≠ .e → ∀ i, i < all.length → i ≠ x → hits all d i = true → rch mk x i = true
  self : ∀ x d, x < all.length → dstOf all x = some d → getK ks x ≠ .e → d ∉ looksOf all x
  sole : ∀ x d, dstOf all x = some d → getK ks x = .a → ∀ i, i < all.length → i ≠ x → dstOf all i ≠ some d
  wr : ∀ i, i < all.length → getK ks i = .a → ∀ x d, dstOf all x = some d → d ∈ looksOf all i → rch mk x i = true
  grp : ∀ i o m, lget all i = some o → mkM o = some m → insOf all m ≠ [] → getK ks i = .a ∧ (∀ x ∈ insOf all m, getK ks x = .a ∧ dstOf all x = none) ∧
    ∀ j, j < all.length → j ≠ i → j ∉ insOf all m → hits all m j = true → ∀ x ∈ insOf all m, rch mk x j = true
  eff : ∀ x d, dstOf all x = some d → getK ks x = .e → ∀ i, i < all.length → i ≠ x → hits all d i = true → rch mk x i = true ∨ rch mk i x = true
theorem dstOf_lt {all : List Oper} {x d : Nat} (h : dstOf all x = some d) : x < all.length := by
  unfold dstOf at h
  rw [lget_eq] at h
  cases hx : all[x]? with
  | none => rw [hx] at h; cases h
  | some o => exact (List.getElem?_eq_some_iff.1 hx).1
theorem soleW_spec {all : List Oper} {x d : Nat} : ∀ {l : List Nat}, soleW all x d l = true → ∀ i ∈ l, i ≠ x → dstOf all i ≠ some d
  | [], _, i, hi, _ => by cases hi
  | y :: l, h, i, hi, hne => by
    simp only [soleW] at h
    cases hxy : Nat.beq x y with
    | true =>
      rw [hxy] at h
      have e := Nat.eq_of_beq_eq_true hxy
      rcases List.mem_cons.1 hi with rfl | hi
      · exact absurd e.symm hne
      · exact soleW_spec h i hi hne
    | false =>
      rw [hxy] at h
      simp only at h
      cases ho : optIs d (dstOf all y) with
      | true => rw [ho] at h; cases h
      | false =>
        rw [ho] at h
        rcases List.mem_cons.1 hi with rfl | hi
        · intro e; rw [optIs_iff.2 e] at ho; cases ho
        · exact soleW_spec h i hi hne
theorem wrOk_spec {all : List Oper} {mk : List Nat} {i : Nat} : ∀ {l : List Nat}, wrOk all mk i l = true → ∀ x ∈ l, ∀ d, dstOf all x = some d → d ∈ looksOf all i → rch mk x i = true
  | [], _, x, hx, _, _, _ => by cases hx
  | y :: l, h, x, hx, d, hd, hl => by
    simp only [wrOk] at h
    cases hy : dstOf all y with
    | none =>
      rw [hy] at h
      rcases List.mem_cons.1 hx with rfl | hx
      · rw [hy] at hd; cases hd
      · exact wrOk_spec h x hx d hd hl
    | some d' =>
      rw [hy] at h
      simp only at h
      cases hm : memN d' (looksOf all i) with
      | false =>
        rw [hm] at h
        rcases List.mem_cons.1 hx with rfl | hx
        · rw [hy] at hd; cases hd; exact absurd hl (memN_false.1 hm)
        · exact wrOk_spec h x hx d hd hl
      | true =>
        rw [hm] at h
        simp only at h
        cases hr : rch mk y i with
        | false => rw [hr] at h; cases h
        | true =>
          rw [hr] at h
          rcases List.mem_cons.1 hx with rfl | hx
          · exact hr
          · exact wrOk_spec h x hx d hd hl
theorem wrsOk_spec {all : List Oper} {ks : List SK} {mk : List Nat} {n : Nat} : ∀ {l : List Nat}, wrsOk all ks mk n l = true → ∀ i ∈ l, getK ks i = .a → wrOk all mk i (upto n 0) = true
  | [], _, i, hi, _ => by cases hi
  | y :: l, h, i, hi, hk => by
    simp only [wrsOk] at h
    cases hy : getK ks y with
    | a =>
      rw [hy] at h
      simp only at h
      cases hw : wrOk all mk y (upto n 0) with
      | false => rw [hw] at h; cases h
      | true =>
        rw [hw] at h
        rcases List.mem_cons.1 hi with rfl | hi
        · exact hw
        · exact wrsOk_spec h i hi hk
    | r =>
      rw [hy] at h
      rcases List.mem_cons.1 hi with rfl | hi
      · rw [hy] at hk; cases hk
      · exact wrsOk_spec h i hi hk
    | e =>
      rw [hy] at h
      rcases List.mem_cons.1 hi with rfl | hi
      · rw [hy] at hk; cases hk
      · exact wrsOk_spec h i hi hk
theorem grpOk1_spec {all : List Oper} {mk : List Nat} {i m : Nat} {ins : List Nat} : ∀ {l : List Nat}, grpOk1 all mk i m ins l = true → ∀ j ∈ l, j ≠ i → j ∉ ins → hits all m j = true → ∀ x ∈ ins, rch mk x j = true
  | [], _, j, hj, _, _, _ => by cases hj
  | y :: l, h, j, hj, h1, h2, h3 => by
    have tail : grpOk1 all mk i m ins l = true → j ∈ l → ∀ x ∈ ins, rch mk x j = true := fun h hj => grpOk1_spec h j hj h1 h2 h3
    simp only [grpOk1] at h
    rcases List.mem_cons.1 hj with rfl | hj
    · have e1 : Nat.beq i j = false := by
        cases hb : Nat.beq i j with
        | false => rfl
        | true => exact absurd (Nat.eq_of_beq_eq_true hb).symm h1
      rw [e1, memN_false.2 h2, h3] at h
      simp only at h
      cases ha : allN (fun x => rch mk x j) ins with
      | false => rw [ha] at h; cases h
      | true => exact allN_iff.1 ha
    · split at h
      · split at h
        · exact tail h hj
        · cases h
      · exact tail h hj
theorem isA_iff {ks : List SK} {x : Nat} : isA ks x = true ↔ getK ks x = .a := by
  unfold isA
  cases getK ks x <;> simp
theorem noDst_iff {all : List Oper} {x : Nat} : noDst all x = true ↔ dstOf all x = none := by
  unfold noDst
  cases dstOf all x <;> simp
theorem grpsOk_spec {all : List Oper} {ks : List SK} {mk : List Nat} {n : Nat} : ∀ {l : List Nat}, grpsOk all ks mk n l = true → ∀ i ∈ l, ∀ o m, lget all i = some o → mkM o = some m → insOf all m ≠ [] →
    getK ks i = .a ∧ (∀ x ∈ insOf all m, getK ks x = .a ∧ dstOf all x = none) ∧ grpOk1 all mk i m (insOf all m) (upto n 0) = true
  | [], _, i, hi, _, _, _, _, _ => by cases hi
  | y :: l, h, i, hi, o, m, ho, hm, hne => by
    simp only [grpsOk] at h
    rcases List.mem_cons.1 hi with rfl | hi
    · rw [ho] at h
      simp only [hm] at h
      cases hins : insOf all m with
      | nil => exact absurd hins hne
      | cons z zs =>
        rw [hins] at h
        simp only at h
        split at h
        · rename_i g1 g2 g3 g4
          exact ⟨isA_iff.1 g1, fun x hx => ⟨isA_iff.1 (allN_iff.1 g2 x hx), noDst_iff.1 (allN_iff.1 g3 x hx)⟩, g4⟩
        · cases h
    · split at h
      · exact grpsOk_spec h i hi o m ho hm hne
      · split at h
        · exact grpsOk_spec h i hi o m ho hm hne
        · split at h
          · exact grpsOk_spec h i hi o m ho hm hne
          · cases h
theorem insFrom_mem {m : Nat} : ∀ {l : List Oper} {s x : Nat}, x ∈ insFrom m s l ↔ s ≤ x ∧ ∃ o, lget l (x - s) = some o ∧ insM o.op = some m
  | [], s, x => by simp [insFrom, lget]
  | o :: l, s, x => by
    have ih := @insFrom_mem m l (s + 1) x
    have tail : (s + 1 ≤ x ∧ ∃ o', lget l (x - (s + 1)) = some o' ∧ insM o'.op = some m) ↔ (s < x ∧ ∃ o', lget (o :: l) (x - s) = some o' ∧ insM o'.op = some m) := by
      constructor
      · rintro ⟨h1, h2⟩
        refine ⟨h1, ?_⟩
        rw [show x - s = (x - (s + 1)) + 1 by omega]
        exact h2
      · rintro ⟨h1, h2⟩
        refine ⟨h1, ?_⟩
        rw [show x - s = (x - (s + 1)) + 1 by omega] at h2
        exact h2
    simp only [insFrom]
    cases hm : insM o.op with
    | none =>
      simp only
      rw [ih, tail]
      constructor
      · rintro ⟨h1, h2⟩; exact ⟨by omega, h2⟩
      · rintro ⟨h1, o', h2, h3⟩
        refine ⟨?_, o', h2, h3⟩
        rcases Nat.lt_or_eq_of_le h1 with h | h
        · exact h
        · subst h; simp only [Nat.sub_self, lget, Option.some.injEq] at h2; subst h2; rw [hm] at h3; cases h3
    | some m' =>
      simp only
      cases hb : Nat.beq m m' with
      | true =>
        have e := Nat.eq_of_beq_eq_true hb
        subst e
        simp only [List.mem_cons, ih, tail]
        constructor
        · rintro (rfl | ⟨h1, h2⟩)
          · exact ⟨Nat.le_refl _, o, by simp [lget], hm⟩
          · exact ⟨by omega, h2⟩
        · rintro ⟨h1, h2⟩
          rcases Nat.lt_or_eq_of_le h1 with h | h
          · exact .inr ⟨h, h2⟩
          · exact .inl h.symm
      | false =>
        simp only
        rw [ih, tail]
        constructor
        · rintro ⟨h1, h2⟩; exact ⟨by omega, h2⟩
        · rintro ⟨h1, o', h2, h3⟩
          refine ⟨?_, o', h2, h3⟩
          rcases Nat.lt_or_eq_of_le h1 with h | h
          · exact h
          · subst h
            simp only [Nat.sub_self, lget, Option.some.injEq] at h2
            subst h2
            rw [hm] at h3
            cases h3
            simp at hb
theorem insOf_mem {all : List Oper} {m x : Nat} : x ∈ insOf all m ↔ ∃ o, lget all x = some o ∧ insM o.op = some m := by
  unfold insOf
  rw [insFrom_mem]
  simp
theorem insFrom_nodup {m : Nat} : ∀ {l : List Oper} {s : Nat}, (insFrom m s l).Nodup
  | [], s => by simp [insFrom]
  | o :: l, s => by
    simp only [insFrom]
    split
    · split
      · refine List.nodup_cons.2 ⟨fun h => ?_, insFrom_nodup⟩
        have := (insFrom_mem.1 h).1
        omega
      · exact insFrom_nodup
    · exact insFrom_nodup
theorem anyIn_iff {l : List Nat} : ∀ {r : List Nat}, anyIn l r = true ↔ ∃ x ∈ r, x ∈ l
  | [] => by simp [anyIn]
  | x :: r => by
    simp only [anyIn]
    cases hm : memN x l with
    | true => simp [memN_iff.1 hm]
    | false => simp [anyIn_iff (r := r), memN_false.1 hm]
theorem hasMk_spec {m : Nat} : ∀ {l : List Oper}, hasMk m l = true → ∃ i o, lget l i = some o ∧ mkM o = some m
  | [], h => by cases h
  | o :: l, h => by
    simp only [hasMk] at h
    cases ho : optIs m (mkM o) with
    | true => exact ⟨0, o, rfl, optIs_iff.1 ho⟩
    | false =>
      rw [ho] at h
      obtain ⟨i, o', h1, h2⟩ := hasMk_spec h
      exact ⟨i + 1, o', h1, h2⟩
theorem mkM_dst {o : Oper} {m : Nat} (h : mkM o = some m) : o.dst = some m := by
  unfold mkM at h
  split at h
  · exact h
  · cases h
theorem mkM_cls {P : Program} {o : Oper} {m : Nat} (h : mkM o = some m) : cls P o.op = 2 := by
  unfold mkM at h
  split at h
  · rename_i t r he; rw [he]; rfl
  · cases h
theorem insM_cls {P : Program} {op : Op} {m : Nat} (h : insM op = some m) : cls P op = 3 := by
  unfold insM at h
  split at h
  · rfl
  · cases h
theorem insM_op {op : Op} {m : Nat} (h : insM op = some m) : ∃ t k v, op = .insert t (.tmp m) k v := by
  unfold insM at h
  split at h
  · cases h; exact ⟨_, _, _, rfl⟩
  · cases h
theorem pairs_of {all : List Oper} {ks : List SK} {mk : List Nat} {n : Nat} (hn : n = all.length) (hw : wrsOk all ks mk n (upto n 0) = true) (hg : grpsOk all ks mk n (upto n 0) = true) (h : ∀ x, x < n → pairOk all ks mk n x = true) : Pairs all ks mk := by
  subst hn
  refine ⟨?_, ?_, ?_, ?_, ?_, ?_⟩
  · intro x d hd hk i hi hne hh
    have := h x (dstOf_lt hd)
    unfold pairOk at this
    rw [hd] at this
    simp only at this
    have ht : Go.Ev.tame all mk x d (upto all.length 0) = true := by
      cases hx : getK ks x with
      | e => exact absurd hx hk
      | r => rw [hx] at this; exact this
      | a =>
        rw [hx] at this
        simp only at this
        cases hq : Go.Ev.tame all mk x d (upto all.length 0) with
        | true => rfl
        | false => rw [hq] at this; cases this
    exact (tame_spec ht i (mem_upto.2 ⟨by omega, by omega⟩)).1 hne hh
  · intro x d hx hd hk
    have := h x hx
    unfold pairOk at this
    rw [hd] at this
    simp only at this
    have ht : Go.Ev.tame all mk x d (upto all.length 0) = true := by
      cases hx : getK ks x with
      | e => exact absurd hx hk
      | r => rw [hx] at this; exact this
      | a =>
        rw [hx] at this
        simp only at this
        cases hq : Go.Ev.tame all mk x d (upto all.length 0) with
        | true => rfl
        | false => rw [hq] at this; cases this
    exact (tame_spec ht x (mem_upto.2 ⟨by omega, by omega⟩)).2 rfl
  · intro x d hd hk i hi hne
    have := h x (dstOf_lt hd)
    unfold pairOk at this
    rw [hd, hk] at this
    simp only at this
    cases hq : Go.Ev.tame all mk x d (upto all.length 0) with
    | false => rw [hq] at this; cases this
    | true => rw [hq] at this; exact soleW_spec this i (mem_upto.2 ⟨by omega, by omega⟩) hne
  · intro i hi hk x d hd hl
    exact wrOk_spec (wrsOk_spec hw i (mem_upto.2 ⟨by omega, by omega⟩) hk) x (mem_upto.2 ⟨by omega, by have := dstOf_lt hd; omega⟩) d hd hl
  · intro i o m ho hm hne
    have hi : i < all.length := by rw [lget_eq] at ho; exact (List.getElem?_eq_some_iff.1 ho).1
    obtain ⟨g1, g2, g3⟩ := grpsOk_spec hg i (mem_upto.2 ⟨by omega, by omega⟩) o m ho hm hne
    exact ⟨g1, g2, fun j hj h1 h2 h3 => grpOk1_spec g3 j (mem_upto.2 ⟨by omega, by omega⟩) h1 h2 h3⟩
  · intro x d hd hk i hi hne hh
    have := h x (dstOf_lt hd)
    unfold pairOk at this
    rw [hd] at this
    simp only [hk] at this
    exact ordered_spec this i (mem_upto.2 ⟨by omega, by omega⟩) hne hh
theorem kinds_get {P : Program} {all : List Oper} {mk : List Nat} {n : Nat} : ∀ (l : List Oper) (late : Nat) (es : List Nat) (s i : Nat) (o : Oper), lget l i = some o → ∃ late' es', lget (kinds P all mk n late es s l) i = some (kindOf P all mk n late' es' (s + i) o)
  | [], late, es, s, i, o, h => by cases i <;> cases h
  | x :: l, late, es, s, 0, o, h => by
    simp only [lget, Option.some.injEq] at h
    subst h
    refine ⟨late, es, ?_⟩
    simp only [kinds]
    split <;> (rename_i hk; simp [lget, hk])
  | x :: l, late, es, s, i + 1, o, h => by
    simp only [lget] at h
    have e : s + 1 + i = s + (i + 1) := by omega
    simp only [kinds]
    split
    · obtain ⟨late', es', h'⟩ := kinds_get l (Nat.lor late (2 ^ s)) es (s + 1) i o h
      exact ⟨late', es', by simp only [lget]; rw [h', e]⟩
    · obtain ⟨late', es', h'⟩ := kinds_get l late (s :: es) (s + 1) i o h
      exact ⟨late', es', by simp only [lget]; rw [h', e]⟩
    · obtain ⟨late', es', h'⟩ := kinds_get l late es (s + 1) i o h
      exact ⟨late', es', by simp only [lget]; rw [h', e]⟩
theorem kind_r {P : Program} {all : List Oper} {mk : List Nat} {n i : Nat} {o : Oper} (ho : lget all i = some o) (h : getK (kinds P all mk n 0 [] 0 all) i = .r) : cls P o.op = 0 ∨ cls P o.op = 1 := by
  unfold getK at h
  obtain ⟨late', es', hl⟩ := kinds_get (P := P) (all := all) (mk := mk) (n := n) all 0 [] 0 i o ho
  rw [hl] at h
  simp only at h
  unfold kindOf at h
  split at h
  · exact .inl (by assumption)
  · exact .inr (by assumption)
  · cases h
  · split at h
    · split at h <;> cases h
    · cases h
theorem kind_a {P : Program} {all : List Oper} {mk : List Nat} {n i : Nat} {o : Oper} (ho : lget all i = some o) (h : getK (kinds P all mk n 0 [] 0 all) i = .a) : cls P o.op = 2 ∨ isU o.op = true ∨ ∃ m, insM o.op = some m ∧ o.dst = none ∧ hasMk m all = true := by
  unfold getK at h
  obtain ⟨late', es', hl⟩ := kinds_get (P := P) (all := all) (mk := mk) (n := n) all 0 [] 0 i o ho
  rw [hl] at h
  simp only at h
  unfold kindOf at h
  split at h
  · split at h
    · split at h
      · split at h
        · cases h
        · split at h
          · rename_i hu; exact .inr (.inl hu)
          · cases h
      · cases h
    · cases h
  · split at h
    · split at h
      · split at h <;> cases h
      · cases h
    · cases h
  · exact .inl (by assumption)
  · split at h
    · rename_i m hm hd _
      split at h
      · rename_i hh; exact .inr (.inr ⟨m, hm, hd, hh⟩)
      · cases h
    · cases h
theorem isU_cls {P : Program} {op : Op} (h : isU op = true) : cls P op = 0 := by cases op <;> simp [isU] at h <;> rfl
theorem cls2_isU {P : Program} {op : Op} (h : cls P op = 2) : isU op = false := by
  cases hu : isU op with
  | false => rfl
  | true => rw [isU_cls hu] at h; cases h
/-! ### what is known of values -/
theorem fitCs_sound {φ : Phi} : ∀ (xs ms : List VV) (vs : List Value), fitCs xs ms = true → VRs φ xs vs → VRs φ ms vs
  | [], [], vs, _, h => h
  | [], _ :: _, vs, h, _ => by simp [fitCs] at h
  | x :: xs, [], vs, h, _ => by simp [fitCs] at h
  | x :: xs, m :: ms, vs, h, k => by
    cases m with
    | one =>
      simp only [fitCs] at h
      cases hx : flat1 x with
      | false => rw [hx] at h; cases h
      | true =>
        rw [hx] at h
        simp only [VRs] at k ⊢
        obtain ⟨y, ys, rfl, k1, k2⟩ := k
        exact ⟨y, ys, rfl, by simpa only [VR] using VR_flat1 k1 hx, fitCs_sound xs ms ys h k2⟩
    | _ => simp [fitCs] at h
theorem fitsV_sound {φ : Phi} {x m : VV} {v : Value} (h : fitsV x m = true) (k : VR φ x v) : VR φ m v := by
  cases m with
  | one => simp only [VR]; exact VR_flat1 k (by cases x <;> simpa only [fitsV] using h)
  | agg ms => cases x with
    | agg cs =>
      simp only [fitsV] at h
      simp only [VR] at k ⊢
      obtain ⟨cs', k1, rfl⟩ := k
      exact ⟨cs', fitCs_sound cs ms cs' h k1, rfl⟩
    | _ => simp [fitsV] at h
  | _ => cases x <;> simp [fitsV] at h
theorem isOne_eq {x : VV} (h : isOne x = true) : x = .one := by cases x <;> simp [isOne] at h <;> rfl
/-- A value that is as it is known to be. -/
theorem maskV_inh (P : Program) (φ : Phi) (t : TypeId) : ∃ v, VR φ (maskV P t) v := by
  have one : ∃ v, VR φ .one v := ⟨.nilIface, by simp only [VR]; rfl⟩
  have cells : ∀ n, VRs φ (ones n) (List.replicate n .nilIface) := by
    intro n
    induction n with
    | zero => simp [ones, VRs]
    | succ n ih => simp only [ones, List.replicate_succ, VRs]; exact ⟨_, _, rfl, by simp only [VR]; rfl, ih⟩
  unfold maskV
  split
  · split
    · exact ⟨.agg ⟨List.replicate _ .nilIface⟩, by simp only [VR]; exact ⟨_, cells _, rfl⟩⟩
    · exact one
  · exact one
theorem lateDs_mem {P : Program} {t : Nat} {v : VV} : ∀ (l : List Oper) (ks : List SK), (t, v) ∈ lateDs P l ks → ∃ x o, lget l x = some o ∧ lget ks x = some .a ∧ o.dst = some t ∧ v = maskV P o.type
  | [], ks, h => by cases ks <;> simp [lateDs] at h
  | o :: l, [], h => by simp [lateDs] at h
  | o :: l, k :: ks, h => by
    have tail : (t, v) ∈ lateDs P l ks → ∃ x o', lget (o :: l) x = some o' ∧ lget (k :: ks) x = some .a ∧ o'.dst = some t ∧ v = maskV P o'.type := fun h =>
      let ⟨x, o', h1, h2, h3, h4⟩ := lateDs_mem l ks h
      ⟨x + 1, o', h1, h2, h3, h4⟩
    cases k with
    | a =>
      simp only [lateDs] at h
      cases hd : o.dst with
      | none => rw [hd] at h; exact tail h
      | some d =>
        rw [hd] at h
        rcases List.mem_cons.1 h with e | h
        · cases e; exact ⟨0, o, rfl, rfl, hd, rfl⟩
        · exact tail h
    | r => exact tail (by simpa only [lateDs] using h)
    | e => exact tail (by simpa only [lateDs] using h)
theorem mem_lateDs {P : Program} {t : Nat} : ∀ (l : List Oper) (ks : List SK) (x : Nat) (o : Oper), lget l x = some o → lget ks x = some .a → o.dst = some t → (t, maskV P o.type) ∈ lateDs P l ks
  | [], ks, x, o, h, _, _ => by cases x <;> cases h
  | o' :: l, [], x, o, _, h, _ => by cases x <;> cases h
  | o' :: l, k :: ks, 0, o, h, h2, h3 => by
    simp only [lget, Option.some.injEq] at h h2
    subst h h2
    simp only [lateDs, h3]
    exact List.mem_cons_self ..
  | o' :: l, k :: ks, x + 1, o, h, h2, h3 => by
    simp only [lget] at h h2
    have := mem_lateDs (P := P) l ks x o h h2 h3
    cases k with
    | a =>
      simp only [lateDs]
      cases o'.dst with
      | none => exact this
      | some d => exact List.mem_cons_of_mem _ this
    | r => simpa only [lateDs] using this
    | e => simpa only [lateDs] using this
theorem getK_a {ks : List SK} {i : Nat} (h : getK ks i = .a) : lget ks i = some .a := by
  unfold getK at h
  cases hg : lget ks i with
  | none => rw [hg] at h; cases h
  | some k => rw [hg] at h; simp only at h; rw [h]
theorem putAll_get {t : Nat} : ∀ (l : List (Nat × VV)), (∀ p ∈ l, p.1 < top) → (∃ v, (t, v) ∈ l ∧ ∀ a, tget (putAll l a) t = v) ∨ ((∀ v, (t, v) ∉ l) ∧ ∀ a, tget (putAll l a) t = tget a t)
  | [], _ => .inr ⟨(fun v h => by cases h), fun a => rfl⟩
  | (d, u) :: l, h => by
    rcases putAll_get l (fun p hp => h p (List.mem_cons_of_mem _ hp)) with ⟨v, h1, h2⟩ | ⟨h1, h2⟩
    · exact .inl ⟨v, List.mem_cons_of_mem _ h1, fun a => h2 _⟩
    · by_cases e : t = d
      · subst e
        refine .inl ⟨u, List.mem_cons_self .., fun a => ?_⟩
        show tget (putAll l (a.put t u)) t = u
        rw [h2]
        unfold tget
        rw [TT.get_put_same _ _ _ (h _ (List.mem_cons_self ..))]
      · refine .inr ⟨fun v hv => ?_, fun a => ?_⟩
        · rcases List.mem_cons.1 hv with e' | hv
          · cases e'; exact e rfl
          · exact h1 v hv
        · show tget (putAll l (a.put d u)) t = tget a t
          rw [h2]
          unfold tget
          rw [TT.get_put_other _ _ _ _ e]
theorem ldOk_spec {nt : Nat} : ∀ {l : List (Nat × VV)}, ldOk nt l = true → ∀ p ∈ l, p.1 < nt
  | [], _, p, hp => by cases hp
  | (d, v) :: l, h, p, hp => by
    simp only [ldOk] at h
    cases hb : Nat.blt d nt with
    | false => rw [hb] at h; cases h
    | true =>
      rw [hb] at h
      rcases List.mem_cons.1 hp with rfl | hp
      · exact lt_of_blt hb
      · exact ldOk_spec h p hp
/-- What hangs on operands alone, whatever the world. -/
theorem evU_sound {P : Program} {φ : Phi} {a : VT} {act : Act} (ht : TR φ a act.tmps) (o : Oper) {v : VV} (h : evU P o.op a = some v) : ∃ v', (∀ w, (execOp act.eval o).run P w = .ok (.value v') w) ∧ VR φ v v' := by
  obtain ⟨dst, op, type, pos, after, guard⟩ := o
  simp only at h
  cases op with
  | move x => exact ⟨act.eval x, fun w => rfl, evOperand_sound ht h⟩
  | build t parts =>
    obtain ⟨parts⟩ := parts
    simp only [evU] at h
    cases hp : evParts a parts with
    | none => rw [hp] at h; cases h
    | some ps =>
      rw [hp] at h
      obtain ⟨h1, h2⟩ := evParts_sound ht parts ps hp
      obtain ⟨v', r1, r2⟩ := evBuild_sound (evParts_notAny parts ps hp) h1 h2 h
      exact ⟨v', fun w => run_value (by simpa using r1 w), r2⟩
  | makeInterface t x =>
    simp only [evU] at h
    cases hu : P.underlying t with
    | none => rw [hu] at h; cases h
    | some d => cases hx : evOperand a x with
      | none => rw [hu, hx] at h; cases h
      | some u =>
        rw [hu, hx] at h
        simp only at h
        cases hd : notIface d with
        | false => rw [hd] at h; cases h
        | true =>
          rw [hd] at h
          simp only [Option.some.injEq] at h
          subst h
          refine ⟨.iface t (act.eval x), fun w => run_value ?_, by simp only [VR]; exact ⟨_, evOperand_sound ht hx, rfl⟩⟩
          cases d <;> simp [notIface] at hd <;> simp [Instr.makeInterface, run_underlying hu]
  | _ => cases h
theorem evU_evR {P : Program} {op : Op} {a : VT} {H : VH} (h : isU op = true) : (evR P op a H).get = evU P op a := by
  cases op with
  | move x => simp only [evR, evU]; cases evOperand a x <;> rfl
  | build t parts =>
    obtain ⟨parts⟩ := parts
    simp only [evR, evU]
    cases evParts a parts with
    | none => rfl
    | some ps => simp only; cases evBuild P t ps <;> rfl
  | makeInterface t x =>
    simp only [evR, evU]
    cases P.underlying t with
    | none => rfl
    | some d => cases evOperand a x with
      | none => rfl
      | some v => simp only; cases notIface d <;> rfl
  | _ => simp [isU] at h
end Go.Ev
