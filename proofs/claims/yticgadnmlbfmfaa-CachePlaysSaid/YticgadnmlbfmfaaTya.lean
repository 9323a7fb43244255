/-
  Chapter 25: two caches, the program's and the answer's, that hold the same: plain laws.
-/
import Derived.Test.YticgadnmlbfmfaaTxZ
namespace Go.Proofs.Yticgadnmlbfmfaa.cachePlays
open Go.Shelf Go.RowKit Go.Lib Go.Sort Go.Maps
/-- The answer's slots. -/
def Rc.sl (R : Rc) : Int → Option Hd := fun k => if 0 ≤ k ∧ k < 256 ∧ R.is k.toNat = true then some (R.h k.toNat) else none
theorem Rc.sl_at (R : Rc) {k : Nat} (hk : k < 256) : R.sl k = if R.is k = true then some (R.h k) else none := by
  unfold Rc.sl
  rw [Int.toNat_natCast]
  by_cases h : R.is k = true
  · rw [if_pos ⟨by omega, by omega, h⟩, if_pos h]
  · rw [if_neg (fun hh => h hh.2.2), if_neg h]
theorem Rc.sl_out (R : Rc) {k : Int} (hk : ¬ (0 ≤ k ∧ k < 256)) : R.sl k = none := by
  unfold Rc.sl
  rw [if_neg (fun hh => hk ⟨hh.1, hh.2.1⟩)]
theorem int_cases (k : Int) : (∃ n : Nat, n < 256 ∧ k = n) ∨ ¬ (0 ≤ k ∧ k < 256) := by
  by_cases h : 0 ≤ k ∧ k < 256
  · exact .inl ⟨k.toNat, by omega, by omega⟩
  · exact .inr h
/-- They hold the same. -/
structure Agr (K : Ca) (R : Rc) : Prop where
  s : K.sl = R.sl
  c : K.cards = R.cards
  d : ∀ k : Nat, k < 256 → K.dt k = R.dt k
  ok : ∀ k : Nat, R.is k = true → (R.h k).cd = cdOf R.cards (R.h k).card
  f : ∀ k, K.dt k = true → (K.sl k).isSome = true
theorem Agr.cd {K : Ca} {R : Rc} (h : Agr K R) {k : Nat} (hk : k < 256) : (K.at k).cd = R.cd k := by
  unfold Ca.at Rc.cd
  rw [h.s, R.sl_at hk]
  split
  · rename_i hi
    exact h.ok k hi
  · rfl
theorem Agr.put {K : Ca} {R : Rc} (h : Agr K R) {k : Nat} (hk : k < 256) {x : Hd} (hx : x.cd = cdOf R.cards x.card) : Agr (K.put k x) (R.put k x) := by
  have hc := h.cd hk
  have hs : (K.put k x).sl = (R.put k x).sl := by
    rw [put_sl, h.s]
    funext j
    have e : (R.put k x).sl j = (((R.setI k true).setO k x).setD k true).sl j := by
      unfold Rc.put
      split <;> rfl
    rw [e]
    rcases int_cases j with ⟨n, hn, rfl⟩ | hj
    · rw [Rc.sl_at _ hn, Rc.sl_at _ hn]
      show (if (n : Int) = k then some x else if R.is n = true then some (R.h n) else none) = if (if n = k then true else R.is n) = true then some (if n = k then x else R.h n) else none
      by_cases e : n = k
      · subst e
        rw [if_pos rfl, if_pos rfl, if_pos rfl, if_pos rfl]
      · rw [if_neg (by omega), if_neg e, if_neg e]
    · rw [Rc.sl_out _ hj, Rc.sl_out _ hj, if_neg (by omega)]
  have hst : (stat (K.at k).cd || stat x.cd) = (stat (R.cd k) || stat (cdOf R.cards x.card)) := by rw [hc, hx]
  have hsoil : ∀ j : Nat, ((K.set k x).soil k).dt j = (((R.setI k true).setO k x).setD k true).dt j ∨ 256 ≤ j := fun j => by
    by_cases hj : j < 256
    · left
      show addB k K.dt j = if j = k then true else R.dt j
      by_cases e : j = k
      · subst e
        rw [addB_self, if_pos rfl]
      · rw [addB_ne (by omega), if_neg e, h.d j hj]
    · exact .inr (by omega)
  have hss : ∀ j : Nat, j < 256 → ((K.set k x).soil k).sl j = (((R.setI k true).setO k x).setD k true).sl j := fun j hj => by
    have e1 : (K.put k x).sl = ((K.set k x).soil k).sl := by rw [put_sl]; rfl
    have e2 : (R.put k x).sl = (((R.setI k true).setO k x).setD k true).sl := by
      unfold Rc.put
      split <;> rfl
    rw [← e1, ← e2, hs]
  refine ⟨hs, ?_, fun j hj => ?_, fun j hj => ?_, fun j hj => ?_⟩
  · rw [put_cards, h.c]
    unfold Rc.put
    split <;> rfl
  · unfold Ca.put Rc.put
    rw [hst]
    have h1 := (hsoil j).resolve_right (by omega)
    split
    · show (((K.set k x).soil k).sl j).isSome.or (((K.set k x).soil k).dt j) = ((((R.setI k true).setO k x).setD k true).dt j).or ((((R.setI k true).setO k x).setD k true).is j)
      rw [hss j hj, Rc.sl_at _ hj, h1]
      cases (((R.setI k true).setO k x).setD k true).is j <;> cases (((R.setI k true).setO k x).setD k true).dt j <;> rfl
    · exact h1
  · have e : ∀ q, (R.put k x).is q = (if q = k then true else R.is q) ∧ (R.put k x).h q = (if q = k then x else R.h q) := fun q => by
      unfold Rc.put
      split <;> exact ⟨rfl, rfl⟩
    have ec : (R.put k x).cards = R.cards := by
      unfold Rc.put
      split <;> rfl
    rw [(e j).1] at hj
    rw [(e j).2, ec]
    split
    · exact hx
    · rename_i hne
      rw [if_neg hne] at hj
      exact h.ok j hj
  · have hg : ∀ j, ((K.set k x).soil k).dt j = true → (((K.set k x).soil k).sl j).isSome = true := fun j hj => by
      have hj : addB k K.dt j = true := hj
      show (if j = (k : Int) then some x else K.sl j).isSome = true
      by_cases e : j = (k : Int)
      · rw [if_pos e]; rfl
      · rw [if_neg e]
        rw [addB_ne e] at hj
        exact h.f j hj
    unfold Ca.put at hj ⊢
    split at hj
    · rename_i hp
      rw [if_pos hp]
      have hj : ((((K.set k x).soil k).sl j).isSome || ((K.set k x).soil k).dt j) = true := hj
      show (((K.set k x).soil k).sl j).isSome = true
      rw [Bool.or_eq_true] at hj
      exact hj.elim id (hg j)
    · rename_i hp
      rw [if_neg hp]
      exact hg j hj
theorem Agr.take {K : Ca} {R : Rc} (h : Agr K R) {k : Nat} (hk : k < 256) : Agr (if (K.sl k).isSome = true then K.take k else K) (R.take k) := by
  have hc := h.cd hk
  unfold Rc.take
  rw [h.s, R.sl_at hk]
  cases hi : R.is k with
  | false => exact h
  | true =>
    simp only [if_true, Option.isSome_some]
    have hst : stat (K.at k).cd = stat (R.cd k) := by rw [hc]
    have hsl : ∀ j, (K.drop k).sl j = ((R.setI k false).setD k false).sl j := fun j => by
      show (if j = (k : Int) then none else K.sl j) = _
      rw [h.s]
      rcases int_cases j with ⟨n, hn, rfl⟩ | hj
      · rw [Rc.sl_at _ hn, Rc.sl_at _ hn]
        show _ = if (if n = k then false else R.is n) = true then some (R.h n) else none
        by_cases e : n = k
        · subst e
          rw [if_pos rfl, if_pos rfl, if_neg (by simp)]
        · rw [if_neg (by omega), if_neg e]
      · rw [Rc.sl_out _ hj, Rc.sl_out _ hj, if_neg (by omega)]
    have hdt : ∀ j : Nat, j < 256 → (K.drop k).dt j = ((R.setI k false).setD k false).dt j := fun j hj => by
      show delB k K.dt j = if j = k then false else R.dt j
      by_cases e : j = k
      · subst e
        rw [if_pos rfl]
        unfold delB
        rw [decide_eq_true rfl]
        rfl
      · rw [delB_ne (by omega), if_neg e, h.d j hj]
    have hg : ∀ j, (K.drop k).dt j = true → ((K.drop k).sl j).isSome = true := fun j hj => by
      have hj : delB k K.dt j = true := hj
      show (if j = (k : Int) then none else K.sl j).isSome = true
      by_cases e : j = (k : Int)
      · rw [e] at hj
        unfold delB at hj
        rw [decide_eq_true rfl] at hj
        cases hj
      · rw [if_neg e]
        rw [delB_ne e] at hj
        exact h.f j hj
    have hok : ∀ j : Nat, ((R.setI k false).setD k false).is j = true → (((R.setI k false).setD k false).h j).cd = cdOf R.cards (((R.setI k false).setD k false).h j).card := fun j hj => by
      have hj : (if j = k then false else R.is j) = true := hj
      split at hj
      · cases hj
      · exact h.ok j hj
    unfold Ca.take
    rw [hst]
    cases stat (R.cd k) with
    | false =>
      simp only [Bool.false_eq_true, if_false]
      exact ⟨funext hsl, h.c, hdt, hok, hg⟩
    | true =>
      simp only [if_true]
      refine ⟨funext hsl, h.c, fun j hj => ?_, hok, fun j hj => ?_⟩
      · show (((K.drop k).sl j).isSome || (K.drop k).dt j) = (((R.setI k false).setD k false).dt j || ((R.setI k false).setD k false).is j)
        rw [hsl, Rc.sl_at _ hj, hdt j hj]
        cases ((R.setI k false).setD k false).is j <;> cases ((R.setI k false).setD k false).dt j <;> rfl
      · have hj : (((K.drop k).sl j).isSome || (K.drop k).dt j) = true := hj
        show ((K.drop k).sl j).isSome = true
        rw [Bool.or_eq_true] at hj
        exact hj.elim id (hg j)
theorem Agr.take_out {K : Ca} {R : Rc} (h : Agr K R) {i : Int} (hi : ¬ (0 ≤ i ∧ i < 256)) : (if (K.sl i).isSome = true then K.take i else K) = K := by
  rw [h.s, R.sl_out hi, if_neg (by simp)]
/-- What Of leaves. -/
structure AftO (K : Ca) (i : Int) (K' : Ca) : Prop where
  s : K'.sl = K.sl
  c : K'.cards = K.cards
  d : K'.dt = if (K.sl i).isSome = true then delB i K.dt else K.dt
theorem Agr.of {K K' : Ca} {R : Rc} (h : Agr K R) {k : Nat} (_hk : k < 256) (a : AftO K k K') : Agr K' (R.setD k false) := by
  have hd : ∀ j : Int, K'.dt j = if j = k then false else K.dt j := fun j => by
    rw [a.d]
    split
    · by_cases e : j = k
      · rw [if_pos e, e]
        unfold delB
        rw [decide_eq_true rfl]
        rfl
      · rw [if_neg e, delB_ne e]
    · rename_i hs
      split
      · rename_i e
        subst e
        cases hh : K.dt k with
        | false => rfl
        | true => exact absurd (h.f _ hh) hs
      · rfl
  refine ⟨a.s.trans h.s, a.c.trans h.c, fun j hj => ?_, h.ok, fun j hj => ?_⟩
  · rw [hd]
    show _ = if j = k then false else R.dt j
    by_cases e : j = k
    · rw [if_pos (by omega), if_pos e]
    · rw [if_neg (by omega), if_neg e, h.d j hj]
  · rw [hd] at hj
    split at hj
    · cases hj
    · rw [a.s]
      exact h.f j hj
theorem Agr.of_out {K K' : Ca} {R : Rc} (h : Agr K R) {i : Int} (hi : ¬ (0 ≤ i ∧ i < 256)) (a : AftO K i K') : Agr K' R := by
  have hd : K'.dt = K.dt := by
    rw [a.d, h.s, R.sl_out hi, if_neg (by simp)]
  refine ⟨a.s.trans h.s, a.c.trans h.c, fun j hj => by rw [hd]; exact h.d j hj, h.ok, fun j hj => ?_⟩
  rw [hd] at hj
  rw [a.s]
  exact h.f j hj
/-- Of, of such a cache. -/
def OfA2 (Z : Nat → Prop) (w : World) (cb sb tb : Nat) (K : Ca) (i : Int) (e : Ending) (w' : World) : Prop := ∃ r K', e = .returned (encR r) ∧ OfV K i r ∧ CaAt Z w' cb sb tb K' ∧ AftO K i K' ∧ Inv K' ∧ K3 cb sb tb w w'
theorem ofa_calls {Z : Nat → Prop} {w : World} {cb sb tb : Nat} {K : Ca} (h : CaAt Z w cb sb tb K) (hI : Inv K) (i : Int) : Calls Try.prog 11 #[.pointer (some ⟨cb, 0, none⟩), .int .i64 i] w (OfA2 Z w cb sb tb K i) := by
  have oy9 : ∀ v ∈ zv92, v.oneCell' = true := by
    intro v hv
    have e : zv92 = zv30 ++ zv82 := rfl
    rw [e] at hv
    rcases List.mem_append.1 hv with h | h
    · exact (zHdR Z w).one v h
    · exact (zHdR Z w).c.one v h
  cases hs : K.sl i with
  | none =>
    refine (of_none layQ fsT ⟨rfl, rfl, rfl, rfl⟩ rfl oy9 h hs).mono ?_
    rintro e w' ⟨rfl, hc, hk⟩
    exact ⟨none, K, rfl, .inl hs, hc, ⟨rfl, rfl, by rw [hs]; rfl⟩, hI, hk⟩
  | some hd =>
    have hi : (K.sl i).isSome = true := by rw [hs]; rfl
    by_cases hk : (K.at i).cd.kind = 2
    · cases hv : K.tl i with
      | none =>
        refine (of_new layQ fsT ⟨rfl, rfl, rfl, rfl⟩ rfl oy9 delT ofT h hi hk hv).mono ?_
        rintro e w' ⟨v, hcv, rfl, hc, hk3⟩
        refine ⟨some v, _, rfl, ⟨hi, hk, hcv⟩, hc, ⟨rfl, rfl, by rw [if_pos hi]; rfl⟩, hI.same rfl (fun k u hu => ?_), hk3⟩
        have hu : (if k = i then some v else K.tl k) = some u := hu
        by_cases e : k = i
        · subst e
          rw [if_pos rfl] at hu
          cases hu
          exact .inr hcv
        · rw [if_neg e] at hu
          exact .inl hu
      | some v =>
        refine (of_told layQ fsT ⟨rfl, rfl, rfl, rfl⟩ rfl oy9 delT h hi hk hv).mono ?_
        rintro e w' ⟨rfl, hc, hk3⟩
        exact ⟨some v, _, rfl, ⟨hi, hk, hI i v hv⟩, hc, ⟨rfl, rfl, by rw [if_pos hi]; rfl⟩, hI.same rfl (fun k u hu => .inl hu), hk3⟩
    · refine (of_bare layQ fsT ⟨rfl, rfl, rfl, rfl⟩ rfl oy9 delT h hi hk).mono ?_
      rintro e w' ⟨rfl, hc, hk3⟩
      exact ⟨none, _, rfl, .inr hk, hc, ⟨rfl, rfl, by rw [if_pos hi]; rfl⟩, hI.same rfl (fun k u hu => .inl hu), hk3⟩
/-- What the statics of a slot add, of the answer's cache. -/
def Rc.stE (R : Rc) (on b : Nat) (l : List Ab) : List Ef := l.filterMap fun a => if a.kind = 4 ∧ fitC a.who b on ((R.h b).ctrl == (R.h on).ctrl) = true then some (a.op, a.a, a.b, (R.h b).stamp) else none
def Rc.up (R : Rc) (on n : Nat) : List Ef := (List.range n).flatMap fun b => R.stE on b (R.cd b).abs
theorem Rc.up_succ (R : Rc) (on n : Nat) : R.up on (n + 1) = R.up on n ++ R.stE on n (R.cd n).abs := by
  unfold Rc.up
  rw [List.range_succ, List.flatMap_append]
  simp
theorem Rc.stE_snoc (R : Rc) (on b : Nat) (l : List Ab) (a : Ab) : R.stE on b (l ++ [a]) = R.stE on b l ++ if a.kind = 4 ∧ fitC a.who b on ((R.h b).ctrl == (R.h on).ctrl) = true then [(a.op, a.a, a.b, (R.h b).stamp)] else [] := by
  unfold Rc.stE
  rw [List.filterMap_append, List.filterMap_cons, List.filterMap_nil]
  split
  · rename_i h
    split at h
    · cases h
    · rename_i h2
      rw [if_neg h2]
  · rename_i h
    split at h
    · rename_i h2
      cases h
      rw [if_pos h2]
    · cases h
theorem Rc.stE_len (R : Rc) (on b : Nat) (l : List Ab) : (R.stE on b l).length ≤ l.length := List.length_filterMap_le _ _
theorem actE_agr {K : Ca} {R : Rc} (h : Agr K R) {on : Nat} (hon : on < 256) (hi : R.is on = true) : actE K on = R.up on 256 ++ (R.h on).effs := by
  rw [actE_all]
  have hat : ∀ b : Nat, b < 256 → R.is b = true → K.at b = R.h b := fun b hb hi => by
    unfold Ca.at
    rw [h.s, R.sl_at hb, if_pos hi]
    rfl
  congr 1
  · unfold slots Rc.up
    rw [List.flatMap_map]
    refine flat_congr _ fun b hb => ?_
    have hb : b < 256 := List.mem_range.1 hb
    show statE K on (b : Int) (K.at (b : Int)).cd.abs = _
    rw [h.cd hb]
    by_cases hib : R.is b = true
    · unfold statE Rc.stE
      rw [hat b hb hib, hat on hon hi]
    · have : R.cd b = zCd := by unfold Rc.cd; rw [if_neg hib]
      rw [this]
      rfl
  · rw [hat on hon hi]
/-- What the answer's Of tells. -/
def ROf (R : Rc) (k : Nat) (r : Option (Int × Int × Int)) : Prop := match r with
  | none => (R.cd k).kind ≠ 2
  | some v => (R.cd k).kind = 2 ∧ ∃ S, IsS (R.up k 256 ++ (R.h k).effs) S ∧ v = foldE S ((R.cd k).pow, (R.cd k).tou, (R.cd k).keys)
theorem ROf.ofV {K : Ca} {R : Rc} (h : Agr K R) {k : Nat} (hk : k < 256) {r : Option (Int × Int × Int)} (hr : ROf R k r) : OfV K k r := by
  have hc := h.cd hk
  match r, hr with
  | none, hr => exact .inr (by rw [hc]; exact hr)
  | some v, ⟨h2, S, hS, hv⟩ =>
    have hi : R.is k = true := by
      cases hi : R.is k with
      | true => rfl
      | false =>
        have : R.cd k = zCd := by unfold Rc.cd; rw [hi, if_neg (by simp)]
        rw [this] at h2
        cases h2
    refine ⟨by rw [h.s, R.sl_at hk, if_pos hi]; rfl, by rw [hc]; exact h2, S, by rw [actE_agr h hk hi]; exact hS, by rw [hc]; exact hv⟩
end Go.Proofs.Yticgadnmlbfmfaa.cachePlays
/-
  Chapter 25: the answer's Of, walked.
-/
namespace Go.Proofs.Yticgadnmlbfmfaa.cachePlays
open Go.Shelf Go.RowKit Go.Lib Go.Sort Go.Maps
theorem RcAt.abs_le {Z : Nat → Prop} {W : World} {rb : Nat} {R : Rc} (h : RcAt Z W rb R) (k : Nat) : (R.cd k).abs.length ≤ 1000 := by
  obtain ⟨F, ca, cc, rs, row, c1, c2, c3, c4, c5, c6⟩ := h.x
  unfold Rc.cd cdOf
  split
  · split
    · rename_i hc
      have h1 : (R.h k).card.toNat < R.cards.length := by omega
      have h2 : (R.h k).card.toNat < rs.length := by omega
      have := (c5 _ _ _ (List.getElem?_eq_getElem h2) (List.getElem?_eq_getElem h1)).n
      rw [List.getElem?_eq_getElem h1]
      exact this
    · exact Nat.zero_le _
  · exact Nat.zero_le _
theorem RcAt.up_le {Z : Nat → Prop} {W : World} {rb : Nat} {R : Rc} (h : RcAt Z W rb R) (on n : Nat) : (R.up on n).length ≤ n * 1000 := by
  have := flat_len' (fun b => R.stE on b (R.cd b).abs) 1000 (List.range n) (fun b _ => Nat.le_trans (R.stE_len _ _ _) (h.abs_le b))
  rw [List.length_range] at this
  exact this
theorem RcAt.eff_le {Z : Nat → Prop} {W : World} {rb : Nat} {R : Rc} (h : RcAt Z W rb R) {k : Nat} (hk : k < 256) : (R.h k).effs.length ≤ 1000 := by
  obtain ⟨F, ca, cc, rs, row, c1, c2, c3, c4, c5, c6⟩ := h.x
  exact (c6 k hk).n
theorem rowsZ_flat {Z : Nat → Prop} {W : World} {ea : Option Addr} {l : List Ef} (hR : RowsZ Z W ea 4 (l.map encE)) : (ea = none → l = []) ∧ ∀ ad, ea = some ad → ∀ j u, (flatE l)[j]? = some u → W.cell? (ad.add j) = some u := by
  refine ⟨fun h => ?_, fun ad had j u hu => ?_⟩
  · rcases hR with h0 | ⟨B, O, e, _, _, _⟩
    · simpa using h0
    · rw [e] at h
      cases h
  · rcases hR with h | ⟨B, O, e, _, _, hc⟩
    · have : l = [] := by simpa using h
      subst this
      simp [flatE] at hu
    · rw [e] at had
      injection had with had
      subst had
      have hj : j < (flatE l).length := (List.getElem?_eq_some_iff.1 hu).1
      rw [flatE_len] at hj
      have hd : j / 4 < l.length := by omega
      have hm := flatE_getR l (j / 4) hd (j % 4) (Nat.mod_lt _ (by decide))
      rw [show j / 4 * 4 + j % 4 = j by omega, hu] at hm
      rw [Addr.add_lit]
      have := hc (j / 4) (encE l[j / 4]) (by rw [List.getElem?_map, List.getElem?_eq_getElem hd]; rfl) (j % 4) u hm.symm
      rw [show O + j / 4 * 4 + j % 4 = O + j by omega] at this
      exact this
/-- One more effect onto a row of one's own. -/
theorem oz_app {P : Program} (i49 : ∃ i z, P.info? 49 = some i ∧ i.zero = some z ∧ z.cells.size = 4 ∧ i.size = 4 ∧ i.bytes ≤ 1000) (t28 : P.underlying 28 = some (.slice 49)) {W3 W : World} {ov : Value} {X : List Ef} (h : Oz W3 ov X W) (hl : X.length ≤ 4000000) (x0 x1 x2 x3 : Int) : ∃ v' w', (Builtin.append_ #[28, 28] 28 #[ov, .slice (some ⟨W.heap.size, 0, none⟩) 1 1]).run P (W.alloc (.cells #[.int .i64 x0, .int .i64 x1, .int .i64 x2, .int .i64 x3] 49)) = .ok v' w' ∧ Oz W3 v' (X ++ [(x0, x1, x2, x3)]) w' := by
  obtain ⟨v2, w2, hr2, ho2, hg2⟩ := app_segR i49 t28 X (h.o.alloc (.cells #[.int .i64 x0, .int .i64 x1, .int .i64 x2, .int .i64 x3] 49)) (by have := h.b.size; simp; omega) (some ⟨W.heap.size, 0, none⟩) 1 1 [(x0, x1, x2, x3)] rfl (fun h => by cases h)
    (fun ad had j u hu => by
      injection had with had
      subst had
      rw [Addr.add_lit, Nat.zero_add]
      simpa [encE, flatE] using hu) (by simp; omega)
  refine ⟨v2, w2, hr2, ⟨(h.b.alloc h.b.size (.cells #[.int .i64 x0, .int .i64 x1, .int .i64 x2, .int .i64 x3] 49)).grown hg2 (by have := h.b.size; simp; omega) fun k hk => (h.o.lt k hk).1, ho2⟩⟩
def ROfOK (Z : Nat → Prop) (w : World) (rb : Nat) (R : Rc) (k : Nat) (e : Ending) (w' : World) : Prop := ∃ (v0 v1 v2 : Int) (b : Bool), e = .returned (.tuple #[.agg #[.int .i64 v0, .int .i64 v1, .int .i64 v2], .bool b]) ∧ ROf R k (optR b (v0, v1, v2)) ∧ (b = false → v0 = 0 ∧ v1 = 0 ∧ v2 = 0) ∧ RcAt Z w' rb (R.setD k false) ∧ OutK (fun b => b = rb) w w'
/-- What this page leans on. -/
structure RcF (P : Program) : Prop where
  card : ∀ {Z : Nat → Prop} {w : World} {rb : Nat} {R : Rc}, RcAt Z w rb R → ∀ {k : Nat}, k < 256 → Calls P 41 #[.pointer (some ⟨rb, 0, none⟩), .int .i64 k] w (CardOK Z w (R.cd k))
  fi : ∀ {Z : Nat → Prop} {w : World} {rb : Nat} {R : Rc}, RcAt Z w rb R → ∀ {k j : Nat}, k < 256 → j < 256 → ∀ who : Int, Calls P 42 #[.pointer (some ⟨rb, 0, none⟩), .int .i64 who, .int .i64 k, .int .i64 j] w fun e w' => e = .returned (.bool (fitC who k j ((R.h k).ctrl == (R.h j).ctrl))) ∧ Gr w w'
/-- Where Of stands when the card is a beast's. -/
structure Rst (Z : Nat → Prop) (w : World) (rb b4 b6 : Nat) (R : Rc) (r : List Value) (W : World) : Prop where
  c : RcAt Z W rb R
  k : OutK (fun b => b = rb) w W
  h4 : W.heap[b4]? = some (.cells [Value.int .i64 0, .int .i64 0, .int .i64 0].toArray 36)
  h6 : W.heap[b6]? = some (.cells r.toArray 82)
  n4 : w.heap.size ≤ b4 ∧ b4 < b6
theorem rst_start {Z : Nat → Prop} {w W1 w2 : World} {rb b4 : Nat} {R : Rc} {r y : List Value} (hd : RcAt Z W1 rb R) (hk : OutK (fun b => b = rb) w W1) (h4 : W1.heap[b4]? = some (.cells [Value.int .i64 0, .int .i64 0, .int .i64 0].toArray 36)) (hb : w.heap.size ≤ b4) (hg : Gr W1 w2) (hl : r.length = y.length) : Rst Z w rb b4 w2.heap.size R r ((w2.alloc (.cells y.toArray 82)).setCells w2.heap.size 0 r) := by
  have e1 := Gr.le hg
  have g2 : Gr W1 (w2.alloc (.cells y.toArray 82)) := Gr.trans hg ((Gr.refl _).alloc _)
  have b1 : Below W1.heap.size W1 ((w2.alloc (.cells y.toArray 82)).setCells w2.heap.size 0 r) := below_sets e1 _ _ (gr_below (.refl _ _) (Nat.le_refl _) g2)
  have l4 := blk_lt h4
  exact ⟨hd.below b1, hk.next ⟨b1.os, b1.tape, b1.output, b1.size, fun k hk _ => b1.block k hk⟩, (b1.block b4 l4).trans h4, blk_put (blk_new w2 _) r hl, ⟨hb, by omega⟩⟩
theorem rst_end {Z : Nat → Prop} {w W W' : World} {rb b4 b6 : Nat} {R : Rc} {r : List Value} (S : Rst Z w rb b4 b6 R r W) (hz : ∀ b, Z b → b < w.heap.size) (hr : rb < w.heap.size) (g : W.grownBy W' (some b4)) : RcAt Z W' rb R ∧ OutK (fun b => b = rb) w W' := by
  have n4 := S.n4
  refine ⟨S.c.keep (Kz.grown g fun b e => by cases e; intro hh; have := hz _ hh; omega) (g.block _ S.c.lt (by simp; omega)), ⟨g.os.trans S.k.os, g.tape.trans S.k.tape, g.output.trans S.k.output, Nat.le_trans S.k.size g.size, fun k hk hn => (g.block k (Nat.lt_of_lt_of_le hk S.k.size) (by simp; omega)).trans (S.k.k k hk hn)⟩⟩
set_option pp.maxSteps 100000 in
set_option maxHeartbeats 16000000 in
set_option maxRecDepth 100000 in
theorem rof_in {P : Program} {k30 k82 k89 k92 k59 : Nat} {y30 y82 y89 y92 y59 : List Value} (L : LayQ P k30 k82 k89 k92 y30 y82 y89 y92) (V : LayV P k59 y59) (C : RcQ P k89) (O : RcO P) (F : RcF P) (h30 : k30 = 14) (h82 : k82 = 11) (h89 : k89 = 13) (hy82 : y82.length = k82) {Z : Nat → Prop} {w : World} {rb : Nat} {R : Rc} (h : RcAt Z w rb R) {k : Nat} (hk : k < 256) : Calls P 19 #[.pointer (some ⟨rb, 0, none⟩), .int .i64 k] w (ROfOK Z w rb R k) := by
  have mixed := L.mixed; have t3 := L.t3; have qt3 := run_underlying L.t3; have a3 := L.a3; have z3 := L.z3; have v3 := L.v3; have t4 := L.t4; have qt4 := run_underlying L.t4; have a4 := L.a4; have z4 := L.z4; have v4 := L.v4; have t26 := L.t26; have qt26 := run_underlying L.t26; have a26 := L.a26; have z26 := L.z26; have v26 := L.v26; have t28 := L.t28; have qt28 := run_underlying L.t28; have a28 := L.a28; have z28 := L.z28; have v28 := L.v28; have t80 := L.t80; have qt80 := run_underlying L.t80; have a80 := L.a80; have z80 := L.z80; have v80 := L.v80; have t30 := L.t30; have qt30 := run_underlying L.t30; have a30 := L.a30; have z30 := L.z30; have v30 := L.v30; have t82 := L.t82; have qt82 := run_underlying L.t82; have a82 := L.a82; have z82 := L.z82; have v82 := L.v82; have e38 := V.e38; have e39 := V.e39; have e40 := V.e40; have e41 := V.e41; have e42 := V.e42; have e43 := V.e43; have e44 := V.e44; have t43 := V.t43; have qt43 := run_underlying V.t43; have a43 := V.a43; have z43 := V.z43; have v43 := V.v43; have t59 := V.t59; have qt59 := run_underlying V.t59; have a59 := V.a59; have z59 := V.z59; have v59 := V.v59; have t56 := V.t56; have qt56 := run_underlying V.t56; have a56 := V.a56; have z56 := V.z56; have t57 := V.t57; have qt57 := run_underlying V.t57; have a57 := V.a57; have z57 := V.z57; have z9 := V.z9; have z79 := V.z79
  have qu36 := run_underlying L.t36; have a36 := L.a36; have z36 := L.z36; have v36 := L.v36; have qu49 := run_underlying L.t49; have a49 := L.a49; have z49 := L.z49; have v49 := L.v49; have a89 := L.a89; have z89 := L.z89; have qu89 := run_underlying L.t89
  have hkz : (k : Int) < 256 := by omega
  have dk1 : decide (0 ≤ (k : Int)) = true := decide_eq_true (by omega)
  have dk2 : decide ((k : Int) < 256) = true := decide_eq_true (by omega)
  have hp := C.pl k
  rw [dk1, dk2] at hp
  have n82 : ¬ k82 = 0 := by rw [h82]; decide
  have g1 : Gr w (w.alloc (.cells [Value.int .i64 0, .int .i64 0, .int .i64 0].toArray 36)) := (Gr.refl w).alloc _
  have hd := (h.gr g1).cd hk
  have HD : Aside (RcAt Z ((w.alloc (.cells [Value.int .i64 0, .int .i64 0, .int .i64 0].toArray 36)).setCell ⟨rb, 3841 + k, none⟩ (.bool false)) rb (R.setD k false)) := (h.gr g1).setD hk false
  have HK : Aside (OutK (fun b => b = rb) w ((w.alloc (.cells [Value.int .i64 0, .int .i64 0, .int .i64 0].toArray 36)).setCell ⟨rb, 3841 + k, none⟩ (.bool false))) := (OutK.gr g1).next (.one (set_grown _ _ _ _))
  have H4 : Aside (((w.alloc (.cells [Value.int .i64 0, .int .i64 0, .int .i64 0].toArray 36)).setCell ⟨rb, 3841 + k, none⟩ (.bool false)).heap[w.heap.size]? = some (.cells [Value.int .i64 0, .int .i64 0, .int .i64 0].toArray 36)) := (set_other (by have := h.lt; omega) _ _).trans (blk_new w _)
  have hcard := F.card HD.out hk
  rw [show (R.setD k false).cd k = R.cd k from rfl] at hcard
  obtain ⟨d1, d2⟩ := hd
  have HF : Aside (RcF P) := F
  have HC : Aside (RcQ P k89) := C
  have HO : Aside (RcO P) := O
  have HH : Aside (RcAt Z w rb R) := h
  have H30 : Aside (k30 = 14) := h30
  have H82 : Aside (k82 = 11) := h82
  have H89 : Aside (k89 = 13) := h89
  clear dk1 dk2 g1 h F C O h30 h89 h82
  go_enter V.f19, Try.ntmps19
  go_upto_region 4 with (first | (go_at_fn 38; refine (hp _).mono ?_; rintro e w1 ⟨rfl, hw⟩; obtain rfl := hw.symm))
  clear d1 d2
  generalize ((w.alloc (.cells [Value.int .i64 0, .int .i64 0, .int .i64 0].toArray 36)).setCell ⟨rb, 3841 + k, none⟩ (.bool false)) = W1 at HD HK H4 hcard ⊢
  go_upto_region 5 with (first | (go_at_fn 41; refine hcard.mono ?_; rintro e w2 ⟨r, rfl, hr, hG⟩; have HR : Aside (CdR Z w2 r (R.cd k)) := hr; have rl : r.length = k82 := (by rw [H82.out]; exact hr.len); have sA := hold_st P (blk_hold (blk_new w2 (.cells y82.toArray 82))) r (rl.trans hy82.symm) hr.one; have S3 : Aside (Rst Z w rb w.heap.size w2.heap.size (R.setD k false) r ((w2.alloc (.cells y82.toArray 82)).setCells w2.heap.size 0 r)) := rst_start HD.out HK.out H4.out (Nat.le_refl _) hG (rl.trans hy82.symm); clear hr hG hcard))
  clear sA HD HK H4
  generalize ((w2.alloc (.cells y82.toArray 82)).setCells w2.heap.size 0 r) = W3 at S3 ⊢
  have Q1 := hold_cell (blk_hold S3.out.h6) (j := 1) (by simpa using HR.out.q1)
  generalize w2.heap.size = b6 at S3 Q1 ⊢
  obtain ⟨e0, e1, e2, f0, f1, f2⟩ := box3R S3.out.h4
  by_cases hkd : (R.cd k).kind = 2
  · rw [hkd] at Q1
    go_upto_region 7 with fail
    clear e0 e1 e2 f0 f1 f2 Q1
    have O0 : Aside (Oz W3 (.slice none 0 0) (R.up k 0) W3) := (show Oz W3 (.slice none 0 0) (R.up k 0) W3 from ⟨.refl _ _, World.ownsRow_nil _ _ _ _⟩)
    go_wp2
    go_loopg [7, 8] 256 (fun kx s7 s8 wr => ∃ (i : Nat) (ov : Value), ov = s7 ∧ s8 = .int .i64 i ∧ i ≤ 256 ∧ 256 - i ≤ kx ∧ Aside (Oz W3 ov (R.up k i) wr))
    case atStart => exact ⟨0, _, rfl, rfl, by omega, Nat.le_refl _, O0⟩
    case round =>
      clear O0
      obtain ⟨i, ov, rfl, rfl, hi, hkx, O1⟩ := hrel
      have wi : IntKind.i64.wrap ((i : Int) + 1) = (i : Int) + 1 := by rw [IntKind.wrap_i64]; omega
      by_cases hlt : i < 256
      · have hltz : (i : Int) < 256 := by omega
        have hci := HF.out.card (S3.out.c.below O1.out.b) hlt
        rw [show (R.setD k false).cd i = R.cd i from rfl] at hci
        go_upto_region 12 with (first | (go_at_fn 41; refine hci.mono ?_; rintro e w4 ⟨r', rfl, hr', hG'⟩; obtain ⟨ad, cp, b1, b2⟩ := hr'.abRow; have hfl := fld_abs L b1; have hn := hr'.n; have HG' : Aside (Gr wr w4) := hG'; have HB : Aside (AbL w4 ad (R.cd i).abs Z) := b2; clear hG' b1 b2 hr' hci))
        clear hfl
        have O2 : Aside (Oz W3 ov (R.up k i ++ R.stE k i ((R.cd i).abs.take 0)) w4) := (by
          rw [List.take_zero]
          show Oz W3 ov (R.up k i ++ []) w4
          rw [List.append_nil]
          exact O1.out.gr HG'.out)
        have HZ4 : Aside (∀ W', Below W3.heap.size W3 W' → ∀ b, Z b → b < w4.heap.size → W'.heap[b]? = w4.heap[b]?) := fun W' hW b hb _ => by
          have hb3 : b < W3.heap.size := S3.out.c.zl b hb
          rw [hW.block b hb3, (gr_below O1.out.b O1.out.b.size HG'.out).block b hb3]
        have HUP : Aside ((R.up k i).length ≤ 256000) := Nat.le_trans (HH.out.up_le k i) (by omega)
        have HUN : Aside (R.up k (i + 1) = R.up k i ++ R.stE k i (R.cd i).abs) := R.up_succ k i
        clear O1 HG'
        generalize (R.cd i).abs = al at hn HB O2 HUN ⊢
        generalize R.up k i = U at O2 HUP HUN
        go_wp2
        go_loopg [7, 10] al.length (fun kd s7 s10 wr => ∃ (j : Nat) (ov : Value), ov = s7 ∧ s10 = .int .i64 j ∧ j ≤ al.length ∧ al.length - j ≤ kd ∧ Aside (Oz W3 ov (U ++ R.stE k i (al.take j)) wr))
        case atStart => exact ⟨0, _, rfl, rfl, Nat.zero_le _, Nat.le_refl _, O2⟩
        case round =>
          clear O2
          obtain ⟨j, ov, rfl, rfl, hj, hkd, O3⟩ := hrel
          have wj : IntKind.i64.wrap ((j : Int) + 1) = (j : Int) + 1 := by rw [IntKind.wrap_i64]; omega
          by_cases hja : j < al.length
          · have hjz : (j : Int) < (al.length : Int) := by omega
            obtain ⟨x, hx⟩ : ∃ x, al[j]? = some x := ⟨_, List.getElem?_eq_getElem hja⟩
            obtain ⟨B, Of, rfl, hcl⟩ := HB.out.x j x hx
            have HCL : Aside (∀ W', Below W3.heap.size W3 W' → W'.cell? ⟨B, Of + j * k89, none⟩ = some (.int .i64 x.kind) ∧ W'.cell? ⟨B, Of + j * k89 + 2, none⟩ = some (.int .i64 x.who) ∧ W'.cell? ⟨B, Of + j * k89 + 10, none⟩ = some (.int .i64 x.op) ∧ W'.cell? ⟨B, Of + j * k89 + 11, none⟩ = some (.int .i64 x.a) ∧ W'.cell? ⟨B, Of + j * k89 + 12, none⟩ = some (.int .i64 x.b)) := fun W' hW => by rw [H89.out]; exact hcl W' (HZ4.out W' hW)
            have HTK : Aside (al.take (j + 1) = al.take j ++ [x]) := by
              rw [List.take_add_one, hx]
              rfl
            have HSE : Aside (R.stE k i (al.take (j + 1)) = R.stE k i (al.take j) ++ if x.kind = 4 ∧ fitC x.who i k ((R.h i).ctrl == (R.h k).ctrl) = true then [(x.op, x.a, x.b, (R.h i).stamp)] else []) := by rw [HTK.out]; exact R.stE_snoc k i _ x
            have HLE : Aside ((R.stE k i (al.take j)).length ≤ 1000) := Nat.le_trans (R.stE_len _ _ _) (by rw [List.length_take]; omega)
            obtain ⟨c0, c2, _⟩ := HCL.out wr O3.out.b
            have hfi := HF.out.fi (S3.out.c.below O3.out.b) hlt hk x.who
            rw [show ((R.setD k false).h i).ctrl = (R.h i).ctrl from rfl, show ((R.setD k false).h k).ctrl = (R.h k).ctrl from rfl] at hfi
            clear hcl hx HTK
            by_cases hk4 : x.kind = 4
            · have hkb : (x.kind == 4) = true := by simpa using hk4
              cases hf : fitC x.who i k ((R.h i).ctrl == (R.h k).ctrl) with
              | false =>
                rw [hf] at hfi
                have HE : Aside (R.stE k i (al.take (j + 1)) = R.stE k i (al.take j)) := (show R.stE k i (al.take (j + 1)) = R.stE k i (al.take j) by rw [HSE.out, hf, if_neg (by simp), List.append_nil])
                clear HSE
                go_wp2_with (first | (go_at_fn 42; refine hfi.mono ?_; rintro e w5 ⟨rfl, hG5⟩; have O4 : Aside (Oz W3 ov (U ++ R.stE k i (al.take (j + 1))) w5) := (by rw [HE.out]; exact O3.out.gr hG5); clear hG5))
                go_roundg (al.length - (j + 1))
                case measure => omega
                case rel => exact ⟨j + 1, ov, rfl, by first | rfl | go_num, by omega, Nat.le_refl _, O4⟩
              | true =>
                rw [hf] at hfi
                have HE : Aside (R.stE k i (al.take (j + 1)) = R.stE k i (al.take j) ++ [(x.op, x.a, x.b, (R.h i).stamp)]) := (show R.stE k i (al.take (j + 1)) = R.stE k i (al.take j) ++ [(x.op, x.a, x.b, (R.h i).stamp)] by rw [HSE.out, hf, if_pos ⟨hk4, rfl⟩])
                clear HSE
                go_upto_region 16 with (first | (go_at_fn 42; refine hfi.mono ?_; rintro e w5 ⟨rfl, hG5⟩; have O4 : Aside (Oz W3 ov (U ++ R.stE k i (al.take j)) w5) := O3.out.gr hG5; clear hG5))
                clear c0 c2 O3
                have O5 : Oz W3 ov (U ++ R.stE k i (al.take j)) w5.drew := O4.out.gr ((Gr.refl _).drew)
                obtain ⟨_, _, c10, c11, c12⟩ := HCL.out w5 O4.out.b
                have cst : w5.cell? ⟨rb, 257 + i * k30 + 9, none⟩ = some (.int .i64 (R.h i).stamp) := by rw [H30.out]; exact ((S3.out.c.below O4.out.b).co hlt).2.1
                obtain ⟨v', w6, hr, O6⟩ := oz_app HC.out.i49 L.t28 O5 (by rw [List.length_append]; have := HUP.out; have := HLE.out; omega) x.op x.a x.b (R.h i).stamp
                have O7 : Aside (Oz W3 v' (U ++ R.stE k i (al.take (j + 1))) w6) := by rw [HE.out, ← List.append_assoc]; exact O6
                have HS : ∀ W', Below W3.heap.size W3 W' → W'.cell? ⟨B, Of + j * k89 + 10, none⟩ = some (.int .i64 x.op) ∧ W'.cell? ⟨B, Of + j * k89 + 11, none⟩ = some (.int .i64 x.a) ∧ W'.cell? ⟨B, Of + j * k89 + 12, none⟩ = some (.int .i64 x.b) ∧ W'.cell? ⟨rb, 257 + i * k30 + 9, none⟩ = some (.int .i64 (R.h i).stamp) := fun W' hW => by
                  obtain ⟨_, _, c10, c11, c12⟩ := HCL.out W' hW
                  exact ⟨c10, c11, c12, by rw [H30.out]; exact ((S3.out.c.below hW).co hlt).2.1⟩
                have OB0 := HS _ O5.b
                have O1 : Aside _ := HS _ (O5.b.alloc O5.b.size (.cells #[.int .i64 x.op, .int .i64 x.a, .int .i64 x.b, .int .i64 (R.h i).stamp] 49))
                have O2 : Aside _ := HS _ O6.b
                clear HS O4 O5 O6 HLE c10 c11 c12 cst
                generalize (R.h i).stamp = st at OB0 O1 O2 hr
                refine wp_region_held_drew (S := fun W => W.cell? ⟨B, Of + j * k89 + 10, none⟩ = some (.int .i64 x.op) ∧ W.cell? ⟨B, Of + j * k89 + 11, none⟩ = some (.int .i64 x.a) ∧ W.cell? ⟨B, Of + j * k89 + 12, none⟩ = some (.int .i64 x.b) ∧ W.cell? ⟨rb, 257 + i * k30 + 9, none⟩ = some (.int .i64 st)) mixed OB0 (fun hHeld => ?_)
                refine wpAnyH_take (i := 0) (v := ov) rfl (by kernel_rfl) (by kernel_rfl) (by kernel_rfl) (fun _ _ _ h => h) (Or.inl ⟨by rfl, ?_⟩) hHeld ?_
                · intro W hW
                  clear hW hHeld hr OB0
                  go_simp
                simp only [Act.put, List.getElem_toArray, List.getElem_cons_zero, List.setIfInBounds_toArray, List.set_cons_zero, List.set_cons_succ]
                refine wpAnyH_take (i := 1) (v := .slice (some ⟨B, Of, none⟩) al.length cp) rfl (by kernel_rfl) (by kernel_rfl) (by kernel_rfl) (fun _ _ _ h => h) (Or.inl ⟨by rfl, ?_⟩) hHeld ?_
                · intro W hW
                  clear hW hHeld hr OB0
                  go_simp
                simp only [Act.put, List.getElem_toArray, List.getElem_cons_zero, List.getElem_cons_succ, List.setIfInBounds_toArray, List.set_cons_zero, List.set_cons_succ]
                refine wpAnyH_take (i := 2) (v := .int .i64 j) rfl (by kernel_rfl) (by kernel_rfl) (by kernel_rfl) (fun _ _ _ h => h) (Or.inl ⟨by rfl, ?_⟩) hHeld ?_
                · intro W hW
                  clear hW hHeld hr OB0
                  go_simp
                simp only [Act.put, List.getElem_toArray, List.getElem_cons_zero, List.getElem_cons_succ, List.setIfInBounds_toArray, List.set_cons_zero, List.set_cons_succ]
                refine wpAnyH_take (i := 3) (v := .pointer (some ⟨B, Of + j * k89, none⟩)) rfl (by kernel_rfl) (by kernel_rfl) (by kernel_rfl) (fun _ _ _ h => h) (Or.inl ⟨by rfl, ?_⟩) hHeld ?_
                · intro W hW
                  clear hW hHeld hr OB0
                  go_simp
                simp only [Act.put, List.getElem_toArray, List.getElem_cons_zero, List.getElem_cons_succ, List.setIfInBounds_toArray, List.set_cons_zero, List.set_cons_succ]
                refine wpAnyH_take (i := 4) (v := .pointer (some ⟨B, Of + j * k89 + 10, none⟩)) rfl (by kernel_rfl) (by kernel_rfl) (by kernel_rfl) (fun _ _ _ h => h) (Or.inl ⟨by rfl, ?_⟩) hHeld ?_
                · intro W hW
                  clear hW hHeld hr OB0
                  go_simp
                simp only [Act.put, List.getElem_toArray, List.getElem_cons_zero, List.getElem_cons_succ, List.setIfInBounds_toArray, List.set_cons_zero, List.set_cons_succ]
                refine wpAnyH_take (i := 5) (v := .int .i64 x.op) rfl (by kernel_rfl) (by kernel_rfl) (by kernel_rfl) (fun _ _ _ h => h) (Or.inl ⟨by rfl, ?_⟩) hHeld ?_
                · intro W hW
                  have hq := hW.1
                  clear hW hHeld hr OB0
                  go_simp
                simp only [Act.put, List.getElem_toArray, List.getElem_cons_zero, List.getElem_cons_succ, List.setIfInBounds_toArray, List.set_cons_zero, List.set_cons_succ]
                refine wpAnyH_take (i := 6) (v := .slice (some ⟨B, Of, none⟩) al.length cp) rfl (by kernel_rfl) (by kernel_rfl) (by kernel_rfl) (fun _ _ _ h => h) (Or.inl ⟨by rfl, ?_⟩) hHeld ?_
                · intro W hW
                  clear hW hHeld hr OB0
                  go_simp
                simp only [Act.put, List.getElem_toArray, List.getElem_cons_zero, List.getElem_cons_succ, List.setIfInBounds_toArray, List.set_cons_zero, List.set_cons_succ]
                refine wpAnyH_take (i := 7) (v := .int .i64 j) rfl (by kernel_rfl) (by kernel_rfl) (by kernel_rfl) (fun _ _ _ h => h) (Or.inl ⟨by rfl, ?_⟩) hHeld ?_
                · intro W hW
                  clear hW hHeld hr OB0
                  go_simp
                simp only [Act.put, List.getElem_toArray, List.getElem_cons_zero, List.getElem_cons_succ, List.setIfInBounds_toArray, List.set_cons_zero, List.set_cons_succ]
                refine wpAnyH_take (i := 8) (v := .pointer (some ⟨B, Of + j * k89, none⟩)) rfl (by kernel_rfl) (by kernel_rfl) (by kernel_rfl) (fun _ _ _ h => h) (Or.inl ⟨by rfl, ?_⟩) hHeld ?_
                · intro W hW
                  clear hW hHeld hr OB0
                  go_simp
                simp only [Act.put, List.getElem_toArray, List.getElem_cons_zero, List.getElem_cons_succ, List.setIfInBounds_toArray, List.set_cons_zero, List.set_cons_succ]
                refine wpAnyH_take (i := 9) (v := .pointer (some ⟨B, Of + j * k89 + 11, none⟩)) rfl (by kernel_rfl) (by kernel_rfl) (by kernel_rfl) (fun _ _ _ h => h) (Or.inl ⟨by rfl, ?_⟩) hHeld ?_
                · intro W hW
                  clear hW hHeld hr OB0
                  go_simp
                simp only [Act.put, List.getElem_toArray, List.getElem_cons_zero, List.getElem_cons_succ, List.setIfInBounds_toArray, List.set_cons_zero, List.set_cons_succ]
                refine wpAnyH_take (i := 10) (v := .int .i64 x.a) rfl (by kernel_rfl) (by kernel_rfl) (by kernel_rfl) (fun _ _ _ h => h) (Or.inl ⟨by rfl, ?_⟩) hHeld ?_
                · intro W hW
                  have hq := hW.2.1
                  clear hW hHeld hr OB0
                  go_simp
                simp only [Act.put, List.getElem_toArray, List.getElem_cons_zero, List.getElem_cons_succ, List.setIfInBounds_toArray, List.set_cons_zero, List.set_cons_succ]
                refine wpAnyH_take (i := 11) (v := .slice (some ⟨B, Of, none⟩) al.length cp) rfl (by kernel_rfl) (by kernel_rfl) (by kernel_rfl) (fun _ _ _ h => h) (Or.inl ⟨by rfl, ?_⟩) hHeld ?_
                · intro W hW
                  clear hW hHeld hr OB0
                  go_simp
                simp only [Act.put, List.getElem_toArray, List.getElem_cons_zero, List.getElem_cons_succ, List.setIfInBounds_toArray, List.set_cons_zero, List.set_cons_succ]
                refine wpAnyH_take (i := 12) (v := .int .i64 j) rfl (by kernel_rfl) (by kernel_rfl) (by kernel_rfl) (fun _ _ _ h => h) (Or.inl ⟨by rfl, ?_⟩) hHeld ?_
                · intro W hW
                  clear hW hHeld hr OB0
                  go_simp
                simp only [Act.put, List.getElem_toArray, List.getElem_cons_zero, List.getElem_cons_succ, List.setIfInBounds_toArray, List.set_cons_zero, List.set_cons_succ]
                refine wpAnyH_take (i := 13) (v := .pointer (some ⟨B, Of + j * k89, none⟩)) rfl (by kernel_rfl) (by kernel_rfl) (by kernel_rfl) (fun _ _ _ h => h) (Or.inl ⟨by rfl, ?_⟩) hHeld ?_
                · intro W hW
                  clear hW hHeld hr OB0
                  go_simp
                simp only [Act.put, List.getElem_toArray, List.getElem_cons_zero, List.getElem_cons_succ, List.setIfInBounds_toArray, List.set_cons_zero, List.set_cons_succ]
                refine wpAnyH_take (i := 14) (v := .pointer (some ⟨B, Of + j * k89 + 12, none⟩)) rfl (by kernel_rfl) (by kernel_rfl) (by kernel_rfl) (fun _ _ _ h => h) (Or.inl ⟨by rfl, ?_⟩) hHeld ?_
                · intro W hW
                  clear hW hHeld hr OB0
                  go_simp
                simp only [Act.put, List.getElem_toArray, List.getElem_cons_zero, List.getElem_cons_succ, List.setIfInBounds_toArray, List.set_cons_zero, List.set_cons_succ]
                refine wpAnyH_take (i := 15) (v := .int .i64 x.b) rfl (by kernel_rfl) (by kernel_rfl) (by kernel_rfl) (fun _ _ _ h => h) (Or.inl ⟨by rfl, ?_⟩) hHeld ?_
                · intro W hW
                  have hq := hW.2.2.1
                  clear hW hHeld hr OB0
                  go_simp
                simp only [Act.put, List.getElem_toArray, List.getElem_cons_zero, List.getElem_cons_succ, List.setIfInBounds_toArray, List.set_cons_zero, List.set_cons_succ]
                refine wpAnyH_take (i := 16) (v := .pointer (some ⟨rb, 0, none⟩)) rfl (by kernel_rfl) (by kernel_rfl) (by kernel_rfl) (fun _ _ _ h => h) (Or.inl ⟨by rfl, ?_⟩) hHeld ?_
                · intro W hW
                  clear hW hHeld hr OB0
                  go_simp
                simp only [Act.put, List.getElem_toArray, List.getElem_cons_zero, List.getElem_cons_succ, List.setIfInBounds_toArray, List.set_cons_zero, List.set_cons_succ]
                refine wpAnyH_take (i := 17) (v := .int .i64 i) rfl (by kernel_rfl) (by kernel_rfl) (by kernel_rfl) (fun _ _ _ h => h) (Or.inl ⟨by rfl, ?_⟩) hHeld ?_
                · intro W hW
                  clear hW hHeld hr OB0
                  go_simp
                simp only [Act.put, List.getElem_toArray, List.getElem_cons_zero, List.getElem_cons_succ, List.setIfInBounds_toArray, List.set_cons_zero, List.set_cons_succ]
                refine wpAnyH_take (i := 18) (v := .pointer (some ⟨rb, 0, none⟩)) rfl (by kernel_rfl) (by kernel_rfl) (by kernel_rfl) (fun _ _ _ h => h) (Or.inl ⟨by rfl, ?_⟩) hHeld ?_
                · intro W hW
                  clear hW hHeld hr OB0
                  go_simp
                simp only [Act.put, List.getElem_toArray, List.getElem_cons_zero, List.getElem_cons_succ, List.setIfInBounds_toArray, List.set_cons_zero, List.set_cons_succ]
                refine wpAnyH_take (i := 19) (v := .pointer (some ⟨rb, 257, none⟩)) rfl (by kernel_rfl) (by kernel_rfl) (by kernel_rfl) (fun _ _ _ h => h) (Or.inl ⟨by rfl, ?_⟩) hHeld ?_
                · intro W hW
                  clear hW hHeld hr OB0
                  go_simp
                simp only [Act.put, List.getElem_toArray, List.getElem_cons_zero, List.getElem_cons_succ, List.setIfInBounds_toArray, List.set_cons_zero, List.set_cons_succ]
                refine wpAnyH_take (i := 20) (v := .pointer (some ⟨rb, 257 + i * k30, none⟩)) rfl (by kernel_rfl) (by kernel_rfl) (by kernel_rfl) (fun _ _ _ h => h) (Or.inl ⟨by rfl, ?_⟩) hHeld ?_
                · intro W hW
                  clear hW hHeld hr OB0
                  go_simp
                simp only [Act.put, List.getElem_toArray, List.getElem_cons_zero, List.getElem_cons_succ, List.setIfInBounds_toArray, List.set_cons_zero, List.set_cons_succ]
                refine wpAnyH_take (i := 21) (v := .pointer (some ⟨rb, 257 + i * k30 + 9, none⟩)) rfl (by kernel_rfl) (by kernel_rfl) (by kernel_rfl) (fun _ _ _ h => h) (Or.inl ⟨by rfl, ?_⟩) hHeld ?_
                · intro W hW
                  clear hW hHeld hr OB0
                  go_simp
                simp only [Act.put, List.getElem_toArray, List.getElem_cons_zero, List.getElem_cons_succ, List.setIfInBounds_toArray, List.set_cons_zero, List.set_cons_succ]
                refine wpAnyH_take (i := 22) (v := .int .i64 st) rfl (by kernel_rfl) (by kernel_rfl) (by kernel_rfl) (fun _ _ _ h => h) (Or.inl ⟨by rfl, ?_⟩) hHeld ?_
                · intro W hW
                  have hq := hW.2.2.2
                  clear hW hHeld hr OB0
                  go_simp
                simp only [Act.put, List.getElem_toArray, List.getElem_cons_zero, List.getElem_cons_succ, List.setIfInBounds_toArray, List.set_cons_zero, List.set_cons_succ]
                refine wpAnyH_take (i := 23) (v := .agg #[.int .i64 x.op, .int .i64 x.a, .int .i64 x.b, .int .i64 st]) rfl (by kernel_rfl) (by kernel_rfl) (by kernel_rfl) (fun _ _ _ h => h) (Or.inl ⟨by rfl, ?_⟩) hHeld ?_
                · intro W hW
                  clear hW hHeld hr OB0
                  go_simp
                simp only [Act.put, List.getElem_toArray, List.getElem_cons_zero, List.getElem_cons_succ, List.setIfInBounds_toArray, List.set_cons_zero, List.set_cons_succ]
                refine wpAnyH_ready (rs := [24]) (by kernel_rfl) (by simp) ?_
                refine AllReadyH.cons rfl (fun K hK => ?_) AllReadyH.nil
                go_simp
                refine hK.out _ _ O1.out (fun hHeld => ?_)
                clear hK K
                refine wpAnyH_ready (rs := [25]) (by kernel_rfl) (by simp) ?_
                refine AllReadyH.cons rfl (fun K hK => ?_) AllReadyH.nil
                refine readyH_app (.tmp 62) (.tmp 86) #[28, 28] rfl rfl ov (.slice (some ⟨w5.drew.heap.size, 0, none⟩) 1 1) rfl rfl v' w6 hr ?_
                refine hK.out _ _ O2.out (fun hHeld => ?_)
                clear hK K
                refine wpAnyH_ready (rs := [26]) (by kernel_rfl) (by simp) ?_
                refine AllReadyH.cons rfl (fun K hK => ?_) AllReadyH.nil
                go_simp
                refine hK.out _ _ O2.out (fun hHeld => ?_)
                clear hK K
                refine wpAnyH_done (by kernel_rfl) ?_ _
                clear hHeld OB0 hr
                go_wp2
                go_roundg (al.length - (j + 1))
                case measure => omega
                case rel => exact ⟨j + 1, v', rfl, by first | rfl | go_num, by omega, Nat.le_refl _, O7⟩
            · have hkb : (x.kind == 4) = false := by simpa using hk4
              have HE : Aside (R.stE k i (al.take (j + 1)) = R.stE k i (al.take j)) := (show R.stE k i (al.take (j + 1)) = R.stE k i (al.take j) by rw [HSE.out, if_neg (fun h => hk4 h.1), List.append_nil])
              clear HSE hfi
              rw [← HE.out] at O3
              go_wp2
              go_roundg (al.length - (j + 1))
              case measure => omega
              case rel => exact ⟨j + 1, ov, rfl, by first | rfl | go_num, by omega, Nat.le_refl _, O3⟩
          · have hjz : ¬ (j : Int) < (al.length : Int) := by omega
            obtain rfl : j = al.length := by omega
            rw [List.take_length] at O3
            have O4 : Aside (Oz W3 ov (R.up k (i + 1)) wr) := by rw [HUN.out]; exact O3.out
            clear O3
            go_wp2
            go_roundg (256 - (i + 1))
            case measure => omega
            case rel => exact ⟨i + 1, ov, rfl, by first | rfl | go_num, by omega, Nat.le_refl _, O4⟩
      · obtain rfl : i = 256 := by omega
        have hltz : ¬ ((256 : Int) < 256) := by decide
        have hT := O1.out
        have S4 := S3.out.c.below hT.b
        obtain ⟨_, _, ea, ec, c13', hE⟩ := S4.co hk
        have c13 : wr.cell? ⟨rb, 257 + k * k30 + 13, none⟩ = some (.slice ea (R.h k).effs.length ec) := by rw [H30.out]; exact c13'
        obtain ⟨hE1, hE2⟩ := rowsZ_flat hE
        have hu := HH.out.up_le k 256
        have he := HH.out.eff_le hk
        obtain ⟨v', w6, hr, ho', hg'⟩ := app_segR HC.out.i49 L.t28 (R.up k 256) hT.o hT.b.size ea (R.h k).effs.length ec (R.h k).effs rfl hE1 hE2 (by omega)
        have b6' : Below W3.heap.size W3 w6 := hT.b.grown hg' hT.b.size fun k hk => (hT.o.lt k hk).1
        have B6 : Aside (Below W3.heap.size W3 w6) := b6'
        have HO' : Aside (w6.ownsRow W3.heap.size 49 4 v' (R.up k 256 ++ (R.h k).effs).length (flatE (R.up k 256 ++ (R.h k).effs))) := ho'
        have HL0 : Aside ((R.up k 256 ++ (R.h k).effs).length ≤ 1000000) := (show (R.up k 256 ++ (R.h k).effs).length ≤ 1000000 by rw [List.length_append]; omega)
        clear hT S4 hE hE1 hE2 hu he ho' hg' b6' O1 c13'
        go_upto_region 17 with fail
        rename_i hKK
        have HKK : Aside _ := hKK
        clear hKK
        go_wp2_with (first | (at_builtin; refine wpList_app_run rfl _ _ #[28, 28] rfl ov (.slice ea (R.h k).effs.length ec) rfl rfl _ w6 hr ?_))
        refine HKK.out _ _ ?_
        have hb4 := (B6.out.block w.heap.size (blk_lt S3.out.h4)).trans S3.out.h4
        have hb6 := (B6.out.block b6 (blk_lt S3.out.h6)).trans S3.out.h6
        refine rins_ok (by kernel_rfl) L V HC.out HO.out v' (R.up k 256 ++ (R.h k).effs) W3.heap.size w6 HO'.out HL0.out hb4 hb6 HR.out.q7 HR.out.q8 HR.out.q9 _ _ _ _ _ _ _ _ _ _ _ _ _ _ _ _ _ _ _ _ _ _ _ _ _ _ _ _ _ _ _ _ _ _ _ _ _ _ _ _ _ _ _ _ _ _ _ _ _ _ _ _ _ _ _ _ _ _ _ _ _ _ _ _ _ _ _ _ _ _ _ _ _ _ _ _ _ _ _ _ _ _ _ _ _ _ _ _ _ _ _ _ _ _ _ _ _ _ _ _ _ _ _ _ _ _ _ _ _ _ _ _ _ _ _ _ _ _ _ _ _ _ _ _ _ _ _ _ _ _ _ _ _ _ _ _ _ _ _ _ _ _ _ _ _ _ _ _ _ _ _ _ _ _ _ _ _ _ _ _ _ _ _ _ _ _ _ _ _ _ _ _ _ _ _ _ _ _ ?_
        intro S W hS hg
        obtain ⟨f0, f1, f2, hff⟩ : ∃ f0 f1 f2, foldE S ((R.cd k).pow, (R.cd k).tou, (R.cd k).keys) = (f0, f1, f2) := ⟨_, _, _, rfl⟩
        have hg2 : W3.grownBy W (some w.heap.size) := ⟨hg.os.trans B6.out.os, hg.tape.trans B6.out.tape, hg.output.trans B6.out.output, Nat.le_trans B6.out.size hg.size, fun q hq hn => (hg.block q (Nat.lt_of_lt_of_le hq B6.out.size) hn).trans (B6.out.block q hq)⟩
        obtain ⟨k1, k2⟩ := rst_end S3.out HH.out.zl HH.out.lt hg2
        rw [hff]
        exact ⟨f0, f1, f2, true, rfl, ⟨hkd, S, hS, hff.symm⟩, fun h => (by cases h), k1, k2⟩
  · have hkn : (R.cd k).kind ≠ 2 := hkd
    have hkb : ((R.cd k).kind != 2) = true := by simpa using hkd
    go_wp2
    refine bodyPost_ret (v := .tuple #[.agg #[.int .i64 0, .int .i64 0, .int .i64 0], .bool false]) (by simp [results, go_sem, Try.results19, a36, z36, e0, e1, e2]) rfl ?_
    obtain ⟨k1, k2⟩ := rst_end S3.out HH.out.zl HH.out.lt (sets_grown w.heap.size [.int .i64 0, .int .i64 0, .int .i64 0] 0 W3)
    exact ⟨0, 0, 0, false, rfl, hkn, fun _ => ⟨rfl, rfl, rfl⟩, k1, k2⟩
set_option maxHeartbeats 4000000 in
set_option maxRecDepth 100000 in
theorem rof_out {P : Program} {k30 k82 k89 k92 k59 : Nat} {y30 y82 y89 y92 y59 : List Value} (L : LayQ P k30 k82 k89 k92 y30 y82 y89 y92) (V : LayV P k59 y59) (C : RcQ P k89) {w : World} {rb : Nat} {k : Int} (hk : ¬ (0 ≤ k ∧ k < 256)) : Calls P 19 #[.pointer (some ⟨rb, 0, none⟩), .int .i64 k] w fun e w' => e = .returned (.tuple #[.agg #[.int .i64 0, .int .i64 0, .int .i64 0], .bool false]) ∧ Below w.heap.size w w' := by
  have mixed := L.mixed; have t3 := L.t3; have qt3 := run_underlying L.t3; have a3 := L.a3; have z3 := L.z3; have v3 := L.v3; have t4 := L.t4; have qt4 := run_underlying L.t4; have a4 := L.a4; have z4 := L.z4; have v4 := L.v4; have t26 := L.t26; have qt26 := run_underlying L.t26; have a26 := L.a26; have z26 := L.z26; have v26 := L.v26; have t28 := L.t28; have qt28 := run_underlying L.t28; have a28 := L.a28; have z28 := L.z28; have v28 := L.v28; have t80 := L.t80; have qt80 := run_underlying L.t80; have a80 := L.a80; have z80 := L.z80; have v80 := L.v80; have t30 := L.t30; have qt30 := run_underlying L.t30; have a30 := L.a30; have z30 := L.z30; have v30 := L.v30; have t82 := L.t82; have qt82 := run_underlying L.t82; have a82 := L.a82; have z82 := L.z82; have v82 := L.v82; have e38 := V.e38; have e39 := V.e39; have e40 := V.e40; have e41 := V.e41; have e42 := V.e42; have e43 := V.e43; have e44 := V.e44; have t43 := V.t43; have qt43 := run_underlying V.t43; have a43 := V.a43; have z43 := V.z43; have v43 := V.v43; have t59 := V.t59; have qt59 := run_underlying V.t59; have a59 := V.a59; have z59 := V.z59; have v59 := V.v59; have t56 := V.t56; have qt56 := run_underlying V.t56; have a56 := V.a56; have z56 := V.z56; have t57 := V.t57; have qt57 := run_underlying V.t57; have a57 := V.a57; have z57 := V.z57; have z9 := V.z9; have z79 := V.z79
  have qu36 := run_underlying L.t36; have a36 := L.a36; have z36 := L.z36; have v36 := L.v36
  have hp := C.pl k
  rw [show (decide (0 ≤ k) && decide (k < 256)) = false by rw [← Bool.decide_and]; exact decide_eq_false hk] at hp
  obtain ⟨e0, e1, e2, f0, f1, f2⟩ := box3R (blk_new w (.cells [Value.int .i64 0, .int .i64 0, .int .i64 0].toArray 36))
  have B1 : Aside (Below w.heap.size w (w.alloc (.cells [Value.int .i64 0, .int .i64 0, .int .i64 0].toArray 36))) := (gr_below (.refl _ _) (Nat.le_refl _) ((Gr.refl w).alloc _))
  go_enter V.f19, Try.ntmps19
  go_wp2_with (first | (go_at_fn 38; refine (hp _).mono ?_; rintro e w1 ⟨rfl, rfl⟩))
  refine bodyPost_ret (v := .tuple #[.agg #[.int .i64 0, .int .i64 0, .int .i64 0], .bool false]) (by simp [results, go_sem, Try.results19, a36, z36, e0, e1, e2]) rfl ?_
  exact ⟨rfl, B1.out⟩
end Go.Proofs.Yticgadnmlbfmfaa.cachePlays
