/-
  The law CharsOrder: what the kernel runs.
-/
import Derived.Test.YtgbhmkdldfhamaaTxI
namespace Go.Proofs.Ytgbhmkdldfhamaa.order
open Go.Ev Go.RowKit
set_option linter.unusedVariables false
noncomputable section
def orbody : Code := match Try.f4.body with | some c => c | none => .skip
def or0 : Code := sq1 orbody
def or1 : Code := sq1 (sq2 orbody)
def or3 : Code := sq1 (sq2 (sq2 orbody))
def or4 : Code := sq2 (sq2 (sq2 orbody))
def oo3 : List Oper := rops or3
theorem orshape : orbody = .seq or0 (.seq or1 (.seq or3 or4)) := by kernel_rfl
theorem or3_eq : or3 = .region (rid or3) ⟨oo3⟩ false := by kernel_rfl
def orseg (K : List KE) (K2 : List KE2) (t : Nat) (l : List (Nat × VV)) (E : Env) : Option SegO := match ctx t orbody 0 [] with
  | some (c, K') => seg (rcK2 Try.prog K K2) Try.f4.ntmps [0, 1] 1000 c (t + 1) (.lp c t :: K') (mkT Try.f4.ntmps l) ⟨E, .lf, 0⟩
  | none => none
/-! ### behind the second call -/
def oap : Option (VT × VH) := runOps Try.prog (feK Try.prog []) Try.f4.ntmps oo3 (oo3.drop 4) (mkT Try.f4.ntmps [(1, .sym 1), (20, stV), (22, stW)]) ⟨⟨fun _ => none, ivAt [], [.len false (.sym 206) (si 14)], fun _ => none⟩, .lf, 0⟩
def oaq : Option SegO := match oap with
  | some (a, H) => seg (rcK Try.prog []) Try.f4.ntmps [0, 1] 1000 or4 0 [] a H
  | none => none
def oafin : Bool := match oaq with
  | some (.cut 0 a H) => match keepL a [(1, .sym 1), (5, .ptr (some ⟨.loc 0, 0⟩)), (6, .ptr (some ⟨.loc 1, 0⟩)), (7, si 14), (8, i8 0)], H.locs.get 0, H.locs.get 1 with
    | true, some (.cells c1 none _ _), some (.cells c2 none _ _) => match vvsEq c1 lySt with
      | true => vvsEq c2 (symsV 25 200)
      | false => false
    | _, _, _ => false
  | _ => false
/-! ### a swap -/
def swT (n i : VV) : List (Nat × VV) := [(1, .sym 1), (5, .ptr (some ⟨.sym 5, 0⟩)), (6, .ptr (some ⟨.sym 6, 0⟩)), (7, n), (8, i)]
def swIv : Ivs := [big1, big1, big1, (0, 29)]
def swF (n a b : Nat) : List Fact := [.len false (.sym 1) (si 2), .bin .lss (si 3) (si 2) (.bool true), .at 1 (.sym 1) (si 3) ⟨.sym 10, 0⟩, .bin .rem (s8 11) (.int .u8 16) (s8 12), .bin .rem (si 12) (i8 n) (i8 a), .bin .shr (s8 11) (.int .u64 4) (s8 15), .bin .rem (si 15) (i8 n) (i8 b), .bin .add (si 3) (i8 1) (si 9), .len false (.sym 206) (i8 n), .win 1 (.sym 206) (i8 a) 0 a, .win 1 (.sym 206) (i8 b) 0 b]
def swB (i : Nat) : Option (List VV) := match i with
  | 6 => some (symsV 25 200)
  | 10 => some [s8 11]
  | _ => none
def swC : Nat → Nat → List VV
  | 0, _ => []
  | n + 1, k => si k :: swC n (k + 1)
def swrun (n a b : Nat) : Option SegO := match ctx 0 orbody 0 [] with
  | some (c, K') => seg (rcK Try.prog []) Try.f4.ntmps [0, 1] 1000 c 1 (.lp c 0 :: K') (mkT Try.f4.ntmps (swT (i8 n) (si 3))) ⟨⟨fun _ => none, ivAt swIv, swF n a b, swB⟩, .nd .lf (some (.cells (swC n 100) none 0 none)) .lf, 1⟩
  | none => none
def swnew (n a b : Nat) : List VV := ((swC n 100).set a (si (100 + b))).set b (si (100 + a))
def swfin (n a b : Nat) : Option SegO → Bool
  | some (.cut 0 t H) => match keepL t (swT (i8 n) (si 9)), H.locs.get 0 with
    | true, some (.cells c none 0 _) => vvsEq c (swnew n a b)
    | _, _ => false
  | _ => false
/-! ### behind the swaps -/
def swx (iv : Ivs) (fs : List Fact) : Bool := match orseg [] [] 0 (swT (si 14) (si 3)) ⟨fun _ => none, ivAt iv, .len false (.sym 1) (si 2) :: fs, fun _ => none⟩ with
  | some (.cut 1 a H) => keepL a [(5, .ptr (some ⟨.sym 5, 0⟩)), (6, .ptr (some ⟨.sym 6, 0⟩)), (7, si 14), (12, i8 1)]
  | _ => false
def swx1 : Bool := swx [] [.bin .lss (si 3) (si 2) (.bool false)]
def swx2 : Bool := swx [big1, big1, big1, (30, 9223372036854775807)] [.bin .lss (si 3) (si 2) (.bool true)]
def swx3 : Bool := swx [big1, big1, big1, (0, 29)] [.bin .lss (si 3) (si 2) (.bool true), .bin .gtr (si 14) (i8 0) (.bool false)]
/-! ### a round of the second loop -/
def orT (i : VV) : List (Nat × VV) := [(5, .ptr (some ⟨.sym 5, 0⟩)), (6, .ptr (some ⟨.sym 6, 0⟩)), (7, si 14), (12, i)]
def poolV (k : Nat) : VV := .slice (some ⟨.loc (k + 7), 0⟩) 4 4
def orK (b : Bool) : List KE := [⟨10, [poolV 0, stV, si 3], plP 0, apRes b⟩, ⟨10, [poolV 9, stW, si 3], plP 9, apRes b⟩]
def orK0 (b : Bool) : List KE := orK b ++ [⟨13, [poolV 18, stV, si 3], plP 18, .slice none 0 0⟩, ⟨13, [poolV 26, stW, si 3], plP 26, .slice none 0 0⟩]
def lstO : VO := .list 144 158 4 [] none
def orL1 : KE2 := ⟨13, [poolV 18, stV, si 3], 26, plP 18, .lsl 26 158 0, plP 18 ++ [(26, lstO)], 27⟩
def orL2 : KE2 := ⟨13, [poolV 27, stW, si 3], 35, plP 27, .lsl 35 158 0, plP 27 ++ [(35, lstO)], 36⟩
def orK1 (b : Bool) : List KE := orK b ++ [⟨12, [.lsl 26 158 0, .lsl 35 158 0], [(26, lstO), (35, lstO)], .bool true⟩]
def orr0 (b : Bool) : Bool := lyhd 1 (orT (si 9)) (orseg (orK0 b) [] 1 (orT (si 3)) apG)
def orr1 (b : Bool) : Bool := lyhd 1 (orT (si 9)) (orseg (orK1 b) [orL1, orL2] 1 (orT (si 3)) apG)
def orz : Option SegO := orseg [] [] 1 (orT (si 3)) ⟨fun _ => none, ivAt [], [.bin .leq (si 3) (si 14) (.bool false)], fun _ => none⟩
def orzB : Bool := match orz with
  | some (.out .ret a H) => match resL Try.prog a H Try.f4.results.toList with
    | some [.bool true] => true
    | _ => false
  | _ => false
/-! ### all of it -/
def swall1 (n a : Nat) : Nat → Bool
  | 0 => true
  | b + 1 => match swall1 n a b with
    | true => swfin n a b (swrun n a b)
    | false => false
def swall2 (n : Nat) : Nat → Bool
  | 0 => true
  | a + 1 => match swall2 n a with
    | true => swall1 n a n
    | false => false
def swall : Nat → Bool
  | 0 => true
  | n + 1 => match swall n with
    | true => swall2 (n + 1) (n + 1)
    | false => false
theorem swallT : swall 10 = true := by kernel_rfl
theorem swall1_at {n a : Nat} : ∀ {m b : Nat}, swall1 n a m = true → b < m → swfin n a b (swrun n a b) = true
  | 0, b, _, h => by omega
  | m + 1, b, h, hb => by
    simp only [swall1] at h
    split at h
    · rename_i h1
      by_cases e : b = m
      · rw [e]; exact h
      · exact swall1_at h1 (by omega)
    · cases h
theorem swall2_at {n : Nat} : ∀ {m a : Nat}, swall2 n m = true → a < m → swall1 n a n = true
  | 0, a, _, h => by omega
  | m + 1, a, h, ha => by
    simp only [swall2] at h
    split at h
    · rename_i h1
      by_cases e : a = m
      · rw [e]; exact h
      · exact swall2_at h1 (by omega)
    · cases h
theorem swall_at : ∀ {m n : Nat}, swall m = true → n < m → swall2 (n + 1) (n + 1) = true
  | 0, n, _, h => by omega
  | m + 1, n, h, hn => by
    simp only [swall] at h
    split at h
    · rename_i h1
      by_cases e : n = m
      · rw [e]; exact h
      · exact swall_at h1 (by omega)
    · cases h
theorem sw_chk {n a b : Nat} (h0 : 0 < n) (h10 : n ≤ 10) (ha : a < n) (hb : b < n) : swfin n a b (swrun n a b) = true := by
  have h := swall_at swallT (n := n - 1) (by omega)
  rw [show n - 1 + 1 = n by omega] at h
  exact swall1_at (swall2_at h ha) hb
theorem orallT : ([oafin, swx1, swx2, swx3, orr0 true, orr0 false, orr1 true, orr1 false, orzB].all id) = true := by kernel_rfl
theorem orall_at {b : Bool} (h : b ∈ [oafin, swx1, swx2, swx3, orr0 true, orr0 false, orr1 true, orr1 false, orzB]) : b = true := by
  have := orallT
  rw [List.all_eq_true] at this
  exact this b h
/-! ### to the calls -/
def orp1 : Option (VT × VH) := match rcK Try.prog wkK Try.f4.ntmps or0 (listT [.sym 0, .sym 1] 0 .lf) ⟨E0, .lf, 0⟩ with
  | some (.normal, a, H) => match rcK Try.prog wkK Try.f4.ntmps or1 a H with
    | some (.normal, a, H) => runOps Try.prog (feK Try.prog wkK) Try.f4.ntmps oo3 (oo3.take 1) a H
    | _ => none
  | _ => none
def orq1 : Bool := match orp1 with
  | some (a, H) => match keepL a [(0, .sym 0), (1, .sym 1)] with
    | true => entB Try.prog (oo3[1]?) a H 20 16 [.sym 0]
    | false => false
  | none => false
theorem orq1T : orq1 = true := by kernel_rfl
def orp2 : Option (VT × VH) := runOps Try.prog (feK Try.prog []) Try.f4.ntmps oo3 ((oo3.drop 2).take 1) (mkT Try.f4.ntmps [(0, .sym 0), (1, .sym 1), (20, stV)]) ⟨E0, .lf, 0⟩
def orq2 : Bool := match orp2 with
  | some (a, H) => match keepL a [(1, .sym 1), (20, stV)] with
    | true => entB Try.prog (oo3[3]?) a H 22 16 [.sym 0]
    | false => false
  | none => false
theorem orq2T : orq2 = true := by kernel_rfl
end
end Go.Proofs.Ytgbhmkdldfhamaa.order
namespace Go.Proofs.Ytgbhmkdldfhamaa.order
open Go.Ev Go.RowKit
set_option linter.unusedVariables false
noncomputable section
def e2body : Code := match Try.f12.body with | some c => c | none => .skip
theorem body12 : Try.f12.body = some e2body := rfl
theorem nt12 : Try.f12.ntmps ≤ top := Nat.le_of_ble_eq_true (by kernel_rfl)
def e2T (i : VV) : List (Nat × VV) := [(0, .sym 0), (1, .sym 1), (5, i)]
def e2L : List Fact := [.len false (.sym 0) (si 2), .len false (.sym 1) (si 2)]
def e2ent : Option SegO := seg (rcK Try.prog []) Try.f12.ntmps [0] 1000 e2body 0 [] (listT [.sym 0, .sym 1] 0 .lf) ⟨⟨fun _ => none, ivAt [], e2L, fun _ => none⟩, .lf, 0⟩
def e2seg (E : Env) : Option SegO := match ctx 0 e2body 0 [] with
  | some (c, K') => seg (rcK Try.prog []) Try.f12.ntmps [0] 1000 c 1 (.lp c 0 :: K') (mkT Try.f12.ntmps (e2T (si 3))) ⟨E, .lf, 0⟩
  | none => none
def e2R : Env := ⟨fun _ => none, ivAt [], e2L ++ [.bin .lss (si 3) (si 2) (.bool true), .at 4 (.sym 0) (si 3) ⟨.sym 10, 0⟩, .at 4 (.sym 1) (si 3) ⟨.sym 11, 0⟩, .bin .add (si 3) (i8 1) (si 9)], fun i => match i with
  | 10 => some [si 20, si 21, si 22, si 23]
  | 11 => some [si 20, si 21, si 22, si 23]
  | _ => none⟩
def e2X : Env := ⟨fun _ => none, ivAt [], e2L ++ [.bin .lss (si 3) (si 2) (.bool false)], fun _ => none⟩
def e2z : Bool := match e2seg e2X with
  | some (.out .ret a H) => match resL Try.prog a H Try.f12.results.toList with
    | some [.bool true] => true
    | _ => false
  | _ => false
theorem e2T1 : lyhd 0 (e2T (i8 0)) e2ent = true := by kernel_rfl
theorem e2T2 : lyhd 0 (e2T (si 9)) (e2seg e2R) = true := by kernel_rfl
theorem e2T3 : e2z = true := by kernel_rfl
theorem e2z_of : ∃ a H, e2seg e2X = some (.out .ret a H) ∧ resL Try.prog a H Try.f12.results.toList = some [.bool true] := by
  have h := e2T3
  unfold e2z at h
  split at h
  · rename_i h1
    split at h
    · rename_i h2
      exact ⟨_, _, h1, h2⟩
    · cases h
  · cases h
def e2int (f : FoIn) (i : Nat) : Nat → Int
  | 2 => (f.l.length : Int)
  | 3 => (i : Int)
  | 9 => w64 ((i : Int) + 1)
  | 20 => (f.at i).op
  | 21 => (f.at i).a
  | 22 => (f.at i).b
  | 23 => (f.at i).st
  | _ => 0
def foV (f : FoIn) : Value := .slice f.oa f.l.length f.ca
def e2rho (f f2 : FoIn) (i : Nat) : Rho where
  int := e2int f i
  val k := if k = 0 then foV f else foV f2
  blk k := if k = 10 then f.B else f2.B
  off k := if k = 10 then f.O + i * 4 else f2.O + i * 4
  one k := by
    show (if k = 0 then foV f else foV f2).oneCell' = true
    split <;> rfl
  lst _ := []
  lcl _ _ h := by cases h
structure E2T (f f2 : FoIn) (i : Nat) (act : Act) : Prop where
  sz : act.tmps.size = Try.f12.ntmps
  df : act.defers = []
  t0 : act.tmps.getD 0 undef = foV f
  t1 : act.tmps.getD 1 undef = foV f2
  t5 : act.tmps.getD 5 undef = n64 (i : Int)
section
variable {w0 w : World} {f f2 : FoIn} {i : Nat} {act : Act}
theorem e2_fits (hf : f.OK w) (hi : i ≤ f.l.length) (k : Nat) : I64 (e2int f i k) := by
  have h1 := at_fit hf i
  have h3 := hf.n
  unfold e2int
  split
  · exact ⟨by omega, by omega⟩
  · exact ⟨by omega, by omega⟩
  · exact w64_fits _
  · exact h1.op
  · exact h1.a
  · exact h1.b
  · exact h1.st
  · exact i64_0
theorem e2L_ok (hl : f2.l = f.l) : FsOK e2L (e2rho f f2 i) :=
  fs_cons (fact_lenV (a := f.oa) (n := f.l.length) (c := f.ca) rfl rfl) (fs_cons (fact_lenV (a := f2.oa) (n := f2.l.length) (c := f2.ca) rfl (by rw [hl]; rfl)) fs_nil)
theorem e2_tr (ha : E2T f f2 i act) : TR ⟨fun _ => none, e2rho f f2 i⟩ (mkT Try.f12.ntmps (e2T (si 3))) act.tmps := by
  have h1 : ∀ q ∈ e2T (si 3), q.1 < top ∧ VR ⟨fun _ => none, e2rho f f2 i⟩ q.2 (act.tmps.getD q.1 undef) := by
    intro q hq
    simp only [e2T, List.mem_cons, List.not_mem_nil, or_false] at hq
    rcases hq with rfl | rfl | rfl
    · exact ⟨show 0 < top by decide, by simp only [ha.t0, VR]; rfl⟩
    · exact ⟨show 1 < top by decide, by simp only [ha.t1, VR]; rfl⟩
    · exact ⟨show 5 < top by decide, by simp only [ha.t5, si, VR]; rfl⟩
  exact mkT_TR ha.sz nt12 h1
theorem e2_back {φ : Phi} {j : VV} {i' : Nat} (hφ : φ.ρ = e2rho f f2 i) (hsz : act.tmps.size = Try.f12.ntmps) (hd : act.defers = []) (hq : ∀ q ∈ e2T j, VR φ q.2 (act.tmps.getD q.1 undef)) (hj : ∀ v, VR φ j v → v = n64 (i' : Int)) : E2T f f2 i' act := by
  have a0 := hq (0, .sym 0) (by simp [e2T])
  have a1 := hq (1, .sym 1) (by simp [e2T])
  have a5 := hq (5, j) (by simp [e2T])
  simp only [VR, hφ] at a0 a1
  exact ⟨hsz, hd, a0, a1, hj _ a5⟩
def e2Q (w0 : World) : Exit → Act → World → Prop := fun e act w => (e = .ret ∨ e = .normal) ∧ act.defers = [] ∧ ∃ v, (results Try.f12 act.tmps).run Try.prog w = .ok v w ∧ Ending.returned v = .returned (.bool true) ∧ Below w0.heap.size w0 w
inductive E2I (f f2 : FoIn) (w0 : World) : Nat → Nat → Act → World → Prop
  | at_ {i : Nat} {act : Act} {w : World} : i ≤ f.l.length → E2T f f2 i act → f.OK w → f2.OK w → Anc w0 w → E2I f f2 w0 (f.l.length - i) 0 act w
theorem e2_heads (hl : f2.l = f.l) : ∀ k t act w', E2I f f2 w0 k t act w' → ∀ c K, ctx t e2body 0 [] = some (c, K) → At1 e2body (.loop c) t K → KOK e2body K → ∀ HD : Nat → Act → World → Prop, (∀ t' act' w'', (∃ j, j < k ∧ E2I f f2 w0 j t' act' w'') → HD t' act' w'' ∧ ∀ c' K', ctx t' e2body 0 [] = some (c', K') → (Code.loop c').wpIn (Fr none) 0 Try.prog (postK Try.prog HD (e2Q w0) K') act' w'') →
      c.wpIn (Fr none) 0 Try.prog (postK Try.prog HD (e2Q w0) (.lp c t :: K)) act w' := by
  letI : Ext := XK Try.prog [] (fun _ => False)
  rintro k t act w' hI c K hc hat hko HD hHD
  cases hI with
  | @at_ i _ _ hi ha hf hf2 an =>
    have hn := hf.n
    have ft := e2_fits hf hi
    by_cases hlt : i < f.l.length
    · obtain ⟨a, H, hseg, hkeep⟩ := lyhd_of e2T2
      unfold e2seg at hseg
      rw [hc] at hseg
      simp only at hseg
      have hi2 : i < f2.l.length := by rw [hl]; exact hlt
      have hat2 : f2.at i = f.at i := by unfold FoIn.at; rw [hl]
      obtain ⟨g1, g2, g3⟩ := hf.cl i _ (at_of hlt)
      obtain ⟨h1, h2, h3⟩ := hf2.cl i _ (at_of hi2)
      have hE : EnvOK e2R ⟨fun _ => none, e2rho f f2 i⟩ w' := by
        refine EnvOK.mk (fun e he => by cases he) (ivs_nil ft) ?_ ?_
        · have h1 : FsOK e2R.tab (e2rho f f2 i) := fs_app (e2L_ok hl) (fs_cons (fact_lssG rfl rfl (decide_eq_true (show (i : Int) < (f.l.length : Int) by omega))) (fs_cons (fact_atG (c := f.ca) (n := i) rfl g1 rfl hlt rfl rfl) (fs_cons (fact_atG (c := f2.ca) (n := i) rfl h1 rfl hi2 rfl rfl) (fs_cons (fact_addG rfl rfl rfl) fs_nil))))
          exact fun x hx => FactOK.w (h1 x hx)
        · intro k c hk
          simp only [e2R] at hk
          split at hk
          · cases hk
            refine el_blk (f := f) hf hlt ?_ ?_ ?_ ?_ <;> (simp only [si, VR]; rfl)
          · cases hk
            refine el_blk (f := f2) hf2 hi2 ?_ ?_ ?_ ?_ <;> (simp only [si, VR, hat2]; rfl)
          · cases hk
      refine plain_part (X := XK Try.prog [] (fun _ => False)) (ρ := e2rho f f2 i) (hrcK (noNG_of noNG) mixed) nt12 hat.loop.2 hko hseg (e2_tr ha) hE (fun r => rfl) ha.sz ha.df (fun k h => h) fun act' w'' φ b => ?_
      have same : ∀ k, k < w'.heap.size → w''.heap[k]? = w'.heap[k]? := fun k hk => b.same k hk (fun h => h)
      refine hHD 0 act' w'' ⟨f.l.length - (i + 1), by omega, .at_ (by omega) (e2_back b.rho b.sz b.df (keepL_VR b.tr hkeep) fun v hv => ?_) (hf.later b.wk.size same) (hf2.later b.wk.size same) (an.trans ⟨b.wk, same⟩)⟩
      simp only [si, VR, b.rho] at hv
      rw [hv]
      show Value.int .i64 (w64 ((i : Int) + 1)) = n64 ((i + 1 : Nat) : Int)
      rw [w64_same (by omega)]
      unfold n64
      congr 1
    · obtain rfl : i = f.l.length := by omega
      obtain ⟨a, H, hseg, hres⟩ := e2z_of
      unfold e2seg at hseg
      rw [hc] at hseg
      simp only at hseg
      have hE : EnvOK e2X ⟨fun _ => none, e2rho f f2 f.l.length⟩ w' := by
        refine EnvOK.mk (fun e he => by cases he) (ivs_nil ft) ?_ (fun k c hk => by cases hk)
        have h1 : FsOK e2X.tab (e2rho f f2 f.l.length) := fs_app (e2L_ok hl) (fs_cons (fact_lssG rfl rfl (decide_eq_false (show ¬ ((f.l.length : Nat) : Int) < (f.l.length : Int) by omega))) fs_nil)
        exact fun x hx => FactOK.w (h1 x hx)
      refine plain_part (X := XK Try.prog [] (fun _ => False)) (ρ := e2rho f f2 f.l.length) (hrcK (noNG_of noNG) mixed) nt12 hat.loop.2 hko hseg (e2_tr ha) hE (fun r => rfl) ha.sz ha.df (fun k h => h) fun act' w'' φ b => ?_
      obtain ⟨v', r1, r2⟩ := results_sound (P := Try.prog) b.tr b.sim (fn := Try.f12) hres
      have r3 : v' = .bool true := by
        simpa only [oneV, VR] using r2
      exact ⟨.inl rfl, b.df, v', r1, by rw [r3], anc_back (an.trans ⟨b.wk, fun k hk => b.same k hk (fun h => h)⟩)⟩
/-- Two lists that are alike are told alike. -/
theorem same_calls (hf : f.OK w0) (hf2 : f2.OK w0) (hl : f2.l = f.l) : Calls Try.prog 12 ⟨[foV f, foV f2]⟩ w0 fun en w' => en = .returned (.bool true) ∧ Below w0.heap.size w0 w' := by
  letI : Ext := XK Try.prog [] (fun _ => False)
  refine calls_of_body (c := e2body) Try.func12 body12 ?_
  obtain ⟨a, H, hs, hkeep⟩ := lyhd_of e2T1
  have hargs : VRs ⟨fun _ => none, e2rho f f2 0⟩ [.sym 0, .sym 1] [foV f, foV f2] := by
    simp only [VRs, VR]
    exact ⟨_, _, rfl, rfl, _, _, rfl, rfl, rfl⟩
  have hE : EnvOK ⟨fun _ => none, ivAt [], e2L, fun _ => none⟩ ⟨fun _ => none, e2rho f f2 0⟩ w0 :=
    EnvOK.mk (fun e he => by cases he) (ivs_nil (e2_fits hf (Nat.zero_le _))) (fun x hx => FactOK.w (e2L_ok hl x hx)) (fun k c hk => by cases hk)
  refine plain_part (X := XK Try.prog [] (fun _ => False)) (HD := fun t act w => ∃ j, j ≤ f.l.length ∧ E2I f f2 w0 j t act w) (Q := e2Q w0) (hrcK (noNG_of noNG) mixed) nt12 (fun t _ _ => rfl) trivial hs (ρ := e2rho f f2 0) (TR_args hargs (by decide) nt12) hE (fun r => rfl) (by simp) rfl (fun k hk => hk) fun act' w' φ b => ?_
  have same : ∀ k, k < w0.heap.size → w'.heap[k]? = w0.heap[k]? := fun k hk => b.same k hk (fun h => h)
  have hst : E2I f f2 w0 f.l.length 0 act' w' := .at_ (i := 0) (Nat.zero_le _) (e2_back b.rho b.sz b.df (keepL_VR b.tr hkeep) fun v hv => i8V hv) (hf.later b.wk.size same) (hf2.later b.wk.size same) ⟨b.wk, same⟩
  exact ⟨⟨f.l.length, Nat.le_refl _, hst⟩, fun c' K' hc' => heads_ok (e2_heads hl) f.l.length 0 c' K' hc' _ (Nat.le_refl _) act' w' ⟨_, Nat.le_refl _, hst⟩⟩
end
end
end Go.Proofs.Ytgbhmkdldfhamaa.order
namespace Go.Proofs.Ytgbhmkdldfhamaa.order
open Go.Ev Go.RowKit
set_option linter.unusedVariables false
noncomputable section
/-! ### symbols behind the second call -/
section
variable {w0 w wa wb : World} {g : PlIn} {G G1 : StG} {more : Int} {act : Act}
end
end
end Go.Proofs.Ytgbhmkdldfhamaa.order
namespace Go.Proofs.Ytgbhmkdldfhamaa.order
open Go.Ev Go.RowKit
set_option linter.unusedVariables false
noncomputable section
theorem out_res3 {R : List Eff} {v : Value} {w w' : World} {φ : Phi} {nx j n k : Nat} {e : KE2} (hpre : e.pre = plP k) (hpost : e.post = plP k ++ [(nx, .list j n 4 [] none)]) (hny : e.ny = nx + 1) (hfr : φ nx = none) (hn : φ.ρ.int n = (R.length : Int)) (hl : φ.ρ.lst j = cellsOf R) (hb : Below w.heap.size w w') (ho : ListOut R v w.heap.size w') (hne : R ≠ [])
    (hp : preOK φ (plP k) w) (hin : ∀ p ∈ e.pre, ∀ q ∈ e.pre, ∀ inf jnf, φ p.1 = some inf → φ q.1 = some jnf → inf.blk = jnf.blk → p.1 = q.1) : ∃ φ', VR φ' (.lsl nx n 0) v ∧ Res2 e φ w φ' w' := by
  obtain ⟨φ', g1, g2⟩ := out_res2 (e := ⟨e.f, e.xs, nx, [], e.r, [(nx, .list j n 4 [] none)], nx + 1⟩) (nx := nx) (j := j) (n := n) rfl rfl rfl hfr hn hl hb ho hne
  have hle := g2.le
  have lw : ∀ {p : Nat × VO}, p ∈ plP k → ∃ inf o', φ p.1 = some inf ∧ φ' p.1 = some inf ∧ w.heap[inf.blk]? = some o' ∧ OR φ inf p.2 o' := fun {p} hm => by
    obtain ⟨inf, o', h1, h2, h3⟩ := hp p hm
    exact ⟨inf, o', h1, hle.1 _ _ h1, h2, h3⟩
  have new : ∀ {inf : Inf}, φ' nx = some inf → w.heap.size ≤ inf.blk := fun {inf} hi => by
    rcases g2.own nx inf hi with h | ⟨_, _, ⟨p, hm, _⟩ | h⟩
    · rw [hfr] at h; cases h
    · cases hm
    · exact h
  refine ⟨φ', g1, hle, g2.wk, fun i hi _ => g2.frame i hi (fun p hm => by cases hm), fun i inf hi => ?_, fun p hm => ?_, fun p hm inf hi => ?_, fun p hpm q hqm inf jnf hi hj hbk => ?_⟩
  · rcases g2.own i inf hi with h | ⟨h1, h2, ⟨p, hm, _⟩ | h⟩
    · exact .inl h
    · cases hm
    · exact .inr ⟨by rw [hny]; exact h1, h2, .inr h⟩
  · rw [hpost] at hm
    rcases List.mem_append.1 hm with hm | hm
    · obtain ⟨inf, o', h1, h2, h3, h4⟩ := lw hm
      exact ⟨inf, o', h2, by rw [hb.block _ (get_lt h3)]; exact h3, h4.mono hle⟩
    · exact g2.post p hm
  · rw [hpost] at hm
    rcases List.mem_append.1 hm with hm | hm
    · exact ⟨p, by rw [hpre]; exact hm, inf, hi, rfl⟩
    · rw [List.mem_singleton] at hm
      subst hm
      rw [hfr] at hi
      cases hi
  · rw [hpost] at hpm hqm
    have old : ∀ {p : Nat × VO} {inf : Inf}, p ∈ plP k → φ' p.1 = some inf → φ p.1 = some inf ∧ inf.blk < w.heap.size := fun {p inf} hm hi => by
      obtain ⟨inf', o', h1, h2, h3, _⟩ := lw hm
      rw [h2] at hi
      cases hi
      exact ⟨h1, get_lt h3⟩
    rcases List.mem_append.1 hpm with hpm | hpm <;> rcases List.mem_append.1 hqm with hqm | hqm
    · exact hin p (by rw [hpre]; exact hpm) q (by rw [hpre]; exact hqm) inf jnf (old hpm hi).1 (old hqm hj).1 hbk
    · rw [List.mem_singleton] at hqm
      subst hqm
      have h1 := (old hpm hi).2
      have h2 := new hj
      omega
    · rw [List.mem_singleton] at hpm
      subst hpm
      have h1 := (old hqm hj).2
      have h2 := new hi
      omega
    · rw [List.mem_singleton] at hpm hqm
      rw [hpm, hqm]
section
variable {w0 w1 w : World} {y : ApG} {id n : Int} {s : Nums} {l : List Eff} {b : Bool} {k : Nat}
abbrev Tw (G : StG) (id : Int) (s : Nums) (b : Bool) (l : List Eff) (w : World) : Prop := ∀ (w' : World) (p : PoG), w.heap.size ≤ w'.heap.size → (∀ k, k < w.heap.size → w'.heap[k]? = w.heap[k]?) → p.OK w' → ∃ e : EfG, e.g = G ∧ e.p = p ∧ e.OK id w' ∧ e.ofV = .tuple ⟨[numV s, .bool b]⟩ ∧ e.all = l
theorem tw_args1 {φ : Phi} {w' : World} {vs : List Value} (hφ : φ.ρ = twrho y id n s l) (hv : VRs φ [poolV k, stV, si 3] vs) (hpre : preOK φ (plP k) w') : ∃ p : PoG, p.OK w' ∧ vs = [p.v, y.G.v, .int .i64 id] := by
  obtain ⟨p, hp, hpv⟩ := pool_pre hpre
  refine ⟨p, hp, ?_⟩
  unfold poolV at hv
  simp only [VRs] at hv
  obtain ⟨a, bs, rfl, ha, v, ws, rfl, hs, u, us, rfl, hu, rfl⟩ := hv
  rw [stV_inv (g := y.G) (by rw [hφ]; exact tw_st) hs, hpv a ha]
  simp only [si, VR, hφ] at hu
  rw [hu]
  rfl
theorem tw_args2 {φ : Phi} {w' : World} {vs : List Value} (hφ : φ.ρ = twrho y id n s l) (hv : VRs φ [poolV k, stW, si 3] vs) (hpre : preOK φ (plP k) w') : ∃ p : PoG, p.OK w' ∧ vs = [p.v, y.G2.v, .int .i64 id] := by
  obtain ⟨p, hp, hpv⟩ := pool_pre hpre
  refine ⟨p, hp, ?_⟩
  unfold poolV at hv
  simp only [VRs] at hv
  obtain ⟨a, bs, rfl, ha, v, ws, rfl, hs, u, us, rfl, hu, rfl⟩ := hv
  rw [stW_inv (G := y.G2) (by rw [hφ]; exact fun j hj => tw_w j hj) hs, hpv a ha]
  simp only [si, VR, hφ] at hu
  rw [hu]
  rfl
theorem tw_nil1 (h : Tw y.G id s b [] w) : KEok Try.prog (twrho y id n s []) w ⟨13, [poolV k, stV, si 3], plP k, .slice none 0 0⟩ := by
  intro φ vs w' hφ h1 h2 hv hpre
  obtain ⟨p, hp, rfl⟩ := tw_args1 hφ hv hpre
  obtain ⟨e, e1, e2, e3, e4, e5⟩ := h w' p h1 (fun k hk => h2 k hk (fun x => x)) hp
  have := effects_calls e3
  rw [e1, e2] at this
  refine this.mono ?_
  rintro en w'' ⟨v, rfl, hb, ho⟩
  rcases ho with ⟨_, rfl⟩ | ⟨hne, _⟩
  · exact ⟨_, rfl, by simp only [VR], hb⟩
  · exact absurd e5 hne
theorem tw_nil2 (h : Tw y.G2 id s b [] w) : KEok Try.prog (twrho y id n s []) w ⟨13, [poolV k, stW, si 3], plP k, .slice none 0 0⟩ := by
  intro φ vs w' hφ h1 h2 hv hpre
  obtain ⟨p, hp, rfl⟩ := tw_args2 hφ hv hpre
  obtain ⟨e, e1, e2, e3, e4, e5⟩ := h w' p h1 (fun k hk => h2 k hk (fun x => x)) hp
  have := effects_calls e3
  rw [e1, e2] at this
  refine this.mono ?_
  rintro en w'' ⟨v, rfl, hb, ho⟩
  rcases ho with ⟨_, rfl⟩ | ⟨hne, _⟩
  · exact ⟨_, rfl, by simp only [VR], hb⟩
  · exact absurd e5 hne
theorem tw_list1 (h : Tw y.G id s b l w) (hl : l ≠ []) : KE2ok Try.prog (twrho y id n s l) w orL1 := by
  intro φ vs w' hφ h1 h2 hv hpre hown hinj hfr
  obtain ⟨p, hp, rfl⟩ := tw_args1 hφ hv hpre
  obtain ⟨e, e1, e2, e3, e4, e5⟩ := h w' p h1 (fun k hk => h2 k hk (fun x => x)) hp
  have := effects_calls e3
  rw [e1, e2] at this
  refine this.mono ?_
  rintro en w'' ⟨v, rfl, hb, ho⟩
  rw [e5] at ho
  obtain ⟨φ', g1, g2⟩ := out_res3 (e := orL1) (nx := 26) (j := 144) (n := 158) (k := 18) rfl rfl rfl (hfr 26 (Nat.le_refl _)) (by rw [hφ]; rfl) (by rw [hφ]; rfl) hb ho hl hpre hinj
  exact ⟨v, φ', rfl, g1, g2⟩
theorem tw_list2 (h : Tw y.G2 id s b l w) (hl : l ≠ []) : KE2ok Try.prog (twrho y id n s l) w orL2 := by
  intro φ vs w' hφ h1 h2 hv hpre hown hinj hfr
  obtain ⟨p, hp, rfl⟩ := tw_args2 hφ hv hpre
  obtain ⟨e, e1, e2, e3, e4, e5⟩ := h w' p h1 (fun k hk => h2 k hk (fun x => x)) hp
  have := effects_calls e3
  rw [e1, e2] at this
  refine this.mono ?_
  rintro en w'' ⟨v, rfl, hb, ho⟩
  rw [e5] at ho
  obtain ⟨φ', g1, g2⟩ := out_res3 (e := orL2) (nx := 35) (j := 144) (n := 158) (k := 27) rfl rfl rfl (hfr 35 (Nat.le_refl _)) (by rw [hφ]; rfl) (by rw [hφ]; rfl) hb ho hl hpre hinj
  exact ⟨v, φ', rfl, g1, g2⟩
theorem tw_same (hl : l.length ≤ 1000) (hf : ∀ x ∈ l, x.Fit) : KEok Try.prog (twrho y id n s l) w ⟨12, [.lsl 26 158 0, .lsl 35 158 0], [(26, lstO), (35, lstO)], .bool true⟩ := by
  intro φ vs w' hφ h1 h2 hv hpre
  obtain ⟨i1, o1, f1, g1, q1⟩ := hpre (26, lstO) (by simp)
  obtain ⟨i2, o2, f2, g2, q2⟩ := hpre (35, lstO) (by simp)
  have hn : (φ.ρ.int 158).toNat = l.length := by
    rw [hφ]
    show ((l.length : Nat) : Int).toNat = _
    omega
  have k1 := list_fo (R := l) g1 q1 (by rw [hφ]; rfl) (by omega) hf
  have k2 := list_fo (R := l) g2 q2 (by rw [hφ]; rfl) (by omega) hf
  have hv' : vs = [foV ⟨l, some ⟨i1.blk, i1.off, none⟩, l.length + i1.slack, i1.blk, i1.off⟩, foV ⟨l, some ⟨i2.blk, i2.off, none⟩, l.length + i2.slack, i2.blk, i2.off⟩] := by
    simp only [VRs] at hv
    obtain ⟨a, bs, rfl, ha, u, us, rfl, hu, rfl⟩ := hv
    simp only [VR] at ha hu
    obtain ⟨j1, e1, rfl⟩ := ha
    obtain ⟨j2, e2, rfl⟩ := hu
    have e1' : φ 26 = some j1 := e1
    have e2' : φ 35 = some j2 := e2
    rw [show φ 26 = some i1 from f1] at e1'
    rw [show φ 35 = some i2 from f2] at e2'
    cases e1'
    cases e2'
    rw [hn]
    rfl
  rw [hv']
  refine (same_calls k1 k2 rfl).mono ?_
  rintro en w'' ⟨rfl, hb⟩
  exact ⟨_, rfl, by simp only [VR], hb⟩
/-- The temporaries at the second head. -/
structure OrT (y : ApG) (id : Int) (act : Act) : Prop where
  sz : act.tmps.size = Try.f4.ntmps
  df : act.defers = []
  t5 : act.tmps.getD 5 undef = .pointer (some ⟨y.b5, y.o5, none⟩)
  t6 : act.tmps.getD 6 undef = .pointer (some ⟨y.b6, y.o6, none⟩)
  t7 : act.tmps.getD 7 undef = n64 (y.g.m : Int)
  t12 : act.tmps.getD 12 undef = n64 id
theorem nt4 : Try.f4.ntmps ≤ top := Nat.le_of_ble_eq_true (by kernel_rfl)
theorem or_tr {act : Act} (ha : OrT y id act) : TR ⟨fun _ => none, twrho y id (y.g.m : Int) s l⟩ (mkT Try.f4.ntmps (orT (si 3))) act.tmps := by
  have h1 : ∀ q ∈ orT (si 3), q.1 < top ∧ VR ⟨fun _ => none, twrho y id (y.g.m : Int) s l⟩ q.2 (act.tmps.getD q.1 undef) := by
    intro q hq
    simp only [orT, List.mem_cons, List.not_mem_nil, or_false] at hq
    rcases hq with rfl | rfl | rfl | rfl
    · exact ⟨show 5 < top by decide, by simp only [ha.t5, VR, AR]; exact ⟨_, _, ⟨rfl, rfl⟩, rfl⟩⟩
    · exact ⟨show 6 < top by decide, by simp only [ha.t6, VR, AR]; exact ⟨_, _, ⟨rfl, rfl⟩, rfl⟩⟩
    · exact ⟨show 7 < top by decide, by simp only [ha.t7, si, VR]; rfl⟩
    · exact ⟨show 12 < top by decide, by simp only [ha.t12, si, VR]; rfl⟩
  exact mkT_TR ha.sz nt4 h1
theorem or_back {act : Act} {φ : Phi} {j : VV} {id' : Int} (hφ : φ.ρ = twrho y id (y.g.m : Int) s l) (hsz : act.tmps.size = Try.f4.ntmps) (hd : act.defers = []) (hq : ∀ q ∈ orT j, VR φ q.2 (act.tmps.getD q.1 undef)) (hj : ∀ v, VR φ j v → v = n64 id') : OrT y id' act := by
  have a5 := hq (5, .ptr (some ⟨.sym 5, 0⟩)) (by simp [orT])
  have a6 := hq (6, .ptr (some ⟨.sym 6, 0⟩)) (by simp [orT])
  have a7 := hq (7, si 14) (by simp [orT])
  have a12 := hq (12, j) (by simp [orT])
  simp only [VR, AR, hφ] at a5 a6
  simp only [si, VR, hφ] at a7
  obtain ⟨_, _, ⟨rfl, rfl⟩, a5⟩ := a5
  obtain ⟨_, _, ⟨rfl, rfl⟩, a6⟩ := a6
  exact ⟨hsz, hd, a5, a6, a7, hj _ a12⟩
def orQ (w0 : World) : Exit → Act → World → Prop := fun e act w => (e = .ret ∨ e = .normal) ∧ act.defers = [] ∧ ∃ v, (results Try.f4 act.tmps).run Try.prog w = .ok v w ∧ Ending.returned v = .returned (.bool true) ∧ Below w0.heap.size w0 w
theorem apG_ok {X : Ext} (hM : ApM y w0 w1 w) (hx : X.ok (twrho y id (y.g.m : Int) s l) w) (hid : 0 ≤ id ∧ id ≤ (y.g.m : Int)) (hs : s.Fit) (hl : l.length ≤ 18) : @EnvOK X apG ⟨fun _ => none, twrho y id (y.g.m : Int) s l⟩ w := by
  have hm := hM.pls.m10
  refine @EnvOK.mk X _ _ _ hx (ivs_nil (tw_fits ⟨by omega, by omega⟩ ⟨by omega, by omega⟩ hs (by omega))) ?_ ?_
  · have h1 : FsOK apG.tab (twrho y id (y.g.m : Int) s l) := fs_cons (fact_leqG rfl rfl (decide_eq_true hid.2)) (fs_cons (fact_addG rfl rfl rfl) fs_nil)
    exact fun x hx => FactOK.w (h1 x hx)
  · intro k c hk
    simp only [apG] at hk
    split at hk
    · cases hk
      exact cells_blk hM.s5 (lySt_VR (y := ⟨y.g, y.G, ⟨0, 0, 0, fun _ => 0, fun _ => 0, fun _ => 0⟩, 0, 0, 0, 0⟩) tw_st)
    · cases hk
      exact cells_blk hM.s6 (stW_cells fun j hj => tw_w j hj)
    · cases hk
theorem next_id {φ : Phi} {j : Nat} (hφ : φ.ρ = twrho y ((j : Int) + 1) n s l) (hj : j ≤ 1000) : ∀ v, VR φ (si 9) v → v = n64 (((j + 1 : Nat) : Int) + 1) := fun v hv => by
  simp only [si, VR, hφ] at hv
  rw [hv]
  show Value.int .i64 (w64 ((j : Int) + 1 + 1)) = n64 (((j + 1 : Nat) : Int) + 1)
  rw [w64_same (by omega)]
  unfold n64
  congr 1
/-- A round of the second loop. -/
theorem or_round {act : Act} {HD : Nat → Act → World → Prop} {Q : Exit → Act → World → Prop} {j : Nat} (hg : ∀ k, 0 ≤ y.g.x k ∧ y.g.x k ≤ 255) (hlt : j < y.g.m) (hM : ApM y w0 w1 w) (ha : OrT y ((j : Int) + 1) act) {c : Code} {K : List Fr1} (hc : ctx 1 orbody 0 [] = some (c, K)) (hat : At1 orbody (.loop c) 1 K) (hko : KOK orbody K)
    (hgo : ∀ act' w', OrT y (((j + 1 : Nat) : Int) + 1) act' → ApM y w0 w1 w' → HD 1 act' w' ∧ ∀ c' K', ctx 1 orbody 0 [] = some (c', K') → (Code.loop c').wpIn (Fr none) 0 Try.prog (postK Try.prog HD Q K') act' w') :
    c.wpIn (Fr none) 0 Try.prog (postK Try.prog HD Q (.lp c 1 :: K)) act w := by
  have hm := hM.pls.m10
  obtain ⟨d, d1, d2, d3, d4, d5⟩ := hM.lk.both hM.pls hg hlt
  obtain ⟨s, b, l⟩ := d
  have d4' : l.length ≤ 18 := d4
  by_cases hl : l = []
  · subst hl
    letI : Ext := extKA Try.prog (orK0 b) []
    have hchk : orr0 b = true := by cases b <;> exact orall_at (by simp)
    obtain ⟨a, H, hseg, hkeep⟩ := lyhd_of hchk
    unfold orseg at hseg
    rw [hc] at hseg
    simp only at hseg
    have hx : (extKA Try.prog (orK0 b) []).ok (twrho y ((j : Int) + 1) (y.g.m : Int) s []) w := ⟨fun e he => by
      simp only [orK0, orK, List.cons_append, List.nil_append, List.mem_cons, List.not_mem_nil, or_false] at he
      rcases he with rfl | rfl | rfl | rfl
      · exact tw_of1 (k := 0) d1
      · exact tw_of2 (k := 9) d2
      · exact tw_nil1 (k := 18) d1
      · exact tw_nil2 (k := 26) d2, fun e he => by cases he⟩
    refine plain_part (X := extKA Try.prog (orK0 b) []) (ρ := twrho y ((j : Int) + 1) (y.g.m : Int) s []) (hrcK2 (noNG_of noNG) mixed) nt4 hat.loop.2 hko hseg (or_tr ha) (apG_ok hM hx ⟨by omega, by omega⟩ d5 (Nat.zero_le _)) (fun r => rfl) ha.sz ha.df (fun k h => h) fun act' w'' φ b => ?_
    exact hgo act' w'' (or_back b.rho b.sz b.df (keepL_VR b.tr hkeep) (next_id b.rho (by omega))) (hM.later b.wk fun k hk => b.same k hk (fun h => h))
  · letI : Ext := extKA Try.prog (orK1 b) [orL1, orL2]
    have hchk : orr1 b = true := by cases b <;> exact orall_at (by simp)
    obtain ⟨a, H, hseg, hkeep⟩ := lyhd_of hchk
    unfold orseg at hseg
    rw [hc] at hseg
    simp only at hseg
    have hx : (extKA Try.prog (orK1 b) [orL1, orL2]).ok (twrho y ((j : Int) + 1) (y.g.m : Int) s l) w := ⟨fun e he => by
      simp only [orK1, orK, List.cons_append, List.nil_append, List.mem_cons, List.not_mem_nil, or_false] at he
      rcases he with rfl | rfl | rfl
      · exact tw_of1 (k := 0) d1
      · exact tw_of2 (k := 9) d2
      · exact tw_same (by omega) fun x hx => (d3 x hx).2, fun e he => by
      simp only [List.mem_cons, List.not_mem_nil, or_false] at he
      rcases he with rfl | rfl
      · exact tw_list1 d1 hl
      · exact tw_list2 d2 hl⟩
    refine plain_part (X := extKA Try.prog (orK1 b) [orL1, orL2]) (ρ := twrho y ((j : Int) + 1) (y.g.m : Int) s l) (hrcK2 (noNG_of noNG) mixed) nt4 hat.loop.2 hko hseg (or_tr ha) (apG_ok hM hx ⟨by omega, by omega⟩ d5 d4') (fun r => rfl) ha.sz ha.df (fun k h => h) fun act' w'' φ b => ?_
    exact hgo act' w'' (or_back b.rho b.sz b.df (keepL_VR b.tr hkeep) (next_id b.rho (by omega))) (hM.later b.wk fun k hk => b.same k hk (fun h => h))
theorem orz_of : ∃ a H, orz = some (.out .ret a H) ∧ resL Try.prog a H Try.f4.results.toList = some [.bool true] := by
  have h : orzB = true := orall_at (by simp)
  unfold orzB at h
  split at h
  · rename_i h1
    split at h
    · rename_i h2
      exact ⟨_, _, h1, h2⟩
    · cases h
  · cases h
/-- The end. -/
theorem or_end {act : Act} {HD : Nat → Act → World → Prop} (hM : ApM y w0 w1 w) (ha : OrT y ((y.g.m : Int) + 1) act) {c : Code} {K : List Fr1} (hc : ctx 1 orbody 0 [] = some (c, K)) (hat : At1 orbody (.loop c) 1 K) (hko : KOK orbody K) :
    c.wpIn (Fr none) 0 Try.prog (postK Try.prog HD (orQ w0) (.lp c 1 :: K)) act w := by
  have hm := hM.pls.m10
  letI : Ext := extKA Try.prog [] []
  obtain ⟨a, H, hseg, hres⟩ := orz_of
  unfold orz orseg at hseg
  rw [hc] at hseg
  simp only at hseg
  have hE : EnvOK ⟨fun _ => none, ivAt [], [.bin .leq (si 3) (si 14) (.bool false)], fun _ => none⟩ ⟨fun _ => none, twrho y ((y.g.m : Int) + 1) (y.g.m : Int) ⟨0, 0, 0⟩ []⟩ w := by
    refine EnvOK.mk ⟨(fun e he => by cases he), (fun e he => by cases he)⟩ (ivs_nil (tw_fits ⟨by omega, by omega⟩ ⟨by omega, by omega⟩ ⟨i64_0, i64_0, i64_0⟩ (Nat.zero_le _))) ?_ (fun k c hk => by cases hk)
    have h1 : FsOK [.bin .leq (si 3) (si 14) (.bool false)] (twrho y ((y.g.m : Int) + 1) (y.g.m : Int) ⟨0, 0, 0⟩ []) := fs_cons (fact_leqG rfl rfl (decide_eq_false (show ¬ (y.g.m : Int) + 1 ≤ (y.g.m : Int) by omega))) fs_nil
    exact fun x hx => FactOK.w (h1 x hx)
  refine plain_part (X := extKA Try.prog [] []) (ρ := twrho y ((y.g.m : Int) + 1) (y.g.m : Int) ⟨0, 0, 0⟩ []) (hrcK2 (noNG_of noNG) mixed) nt4 hat.loop.2 hko hseg (or_tr ha) hE (fun r => rfl) ha.sz ha.df (fun k h => h) fun act' w'' φ b => ?_
  obtain ⟨v', r1, r2⟩ := results_sound (P := Try.prog) b.tr b.sim (fn := Try.f4) hres
  have r3 : v' = .bool true := by
    simpa only [oneV, VR] using r2
  exact ⟨.inl rfl, b.df, v', r1, by rw [r3], anc_back (hM.anc.trans ⟨b.wk, fun k hk => b.same k hk (fun h => h)⟩)⟩
end
end
end Go.Proofs.Ytgbhmkdldfhamaa.order
namespace Go.Proofs.Ytgbhmkdldfhamaa.order
open Go.Ev Go.RowKit
set_option linter.unusedVariables false
noncomputable section
def setF (G : StG) (ff : List Int) : StG := { G with fs := ff }
/-- While objects change places: the world from which on only the field changes is w6. -/
structure SwM (y : ApG) (w0 w3 w4 w5 w6 : World) (ff : List Int) (w : World) : Prop where
  anc : Anc w0 w
  a0 : Anc w0 w4
  pls : PlS y.g w3 y.G w4
  a4 : Anc w4 w
  n5 : w4.heap.size ≤ w5.heap.size
  p1 : PlS y.g w5 y.G2 w6
  sz : w6.heap.size ≤ w.heap.size
  same : ∀ k, k < w6.heap.size → k ≠ y.G2.fB → w.heap[k]? = w6.heap[k]?
  s5 : CellsAt w y.b5 y.o5 (cellsV y.G.v)
  s6 : CellsAt w y.b6 y.o6 (cellsV y.G2.v)
  g5 : w6.heap.size ≤ y.b5
  g6 : w6.heap.size ≤ y.b6
  fld : 0 < y.g.m → ∃ c e fr, w.heap[y.G2.fB]? = some (.cells c e fr) ∧ fr.2 ≤ y.G2.fO ∧ y.G2.fO + y.g.m ≤ c.size ∧ ∀ k v, ff[k]? = some v → c[y.G2.fO + k]? = some (n64 v)
  perm : ff.Perm y.G2.fs
section
variable {w0 w3 w4 w5 w6 w : World} {y : ApG} {ff : List Int}
theorem SwM.len (h : SwM y w0 w3 w4 w5 w6 ff w) : ff.length = y.g.m := by rw [h.perm.length_eq, h.p1.fsl]
theorem SwM.mem (h : SwM y w0 w3 w4 w5 w6 ff w) {n : Int} (hn : n ∈ ff) : ∃ k : Nat, k < y.g.m ∧ n = (k : Int) + 1 := by
  have := h.perm.mem_iff.1 hn
  rw [h.p1.fs, List.mem_map] at this
  obtain ⟨k, hk, rfl⟩ := this
  exact ⟨k, List.mem_range.1 hk, rfl⟩
theorem plSt_inj {a b : Nat} (ha : a < 11) (hb : b < 11) (h : plSt a = plSt b) : a = b := by
  unfold plSt at h
  omega
theorem SwM.like (h : SwM y w0 w3 w4 w5 w6 ff w) : Like y.g y.G (setF y.G2 ff) w := by
  have hm := h.p1.m10
  have hlen := h.len
  have hno := h.p1.no
  have keep : ∀ {a : Addr} {v : Value}, a.block < w6.heap.size → a.block ≠ y.G2.fB → w6.cell? a = some v → w.cell? a = some v := fun {a v} k1 k2 k3 => by
    rw [← k3]
    unfold World.cell?
    rw [h.same _ k1 k2]
  have hob : ∀ k, (setF y.G2 ff).ob k = y.G2.ob k := fun k => rfl
  have hfind : ∀ n, (setF y.G2 ff).find n = y.G2.find n := fun n => rfl
  refine ⟨⟨h.p1.ok.no, by show ff.length ≤ _; omega, h.p1.ok.fo, fun n hn => ?_, fun i x hi => ?_, fun i n hi => ?_⟩, by show ff.length ≤ 16; omega, ?_, fun k hk => ?_, fun k hk t => ?_⟩
  · obtain ⟨k, hk, rfl⟩ := h.mem hn
    exact ⟨by omega, by omega⟩
  · have hi' : y.G2.os[i]? = some x := hi
    have h0 : 0 < y.g.m := by
      have := (List.getElem?_eq_some_iff.1 hi').1
      omega
    obtain ⟨c1, c2, c3⟩ := h.p1.ok.co i x hi'
    refine ⟨c1, ?_, fun j hj => keep c2 (h.p1.ne h0) (c3 j hj)⟩
    have := h.sz
    show y.G2.oB < _
    omega
  · have hi' : ff[i]? = some n := hi
    have hlt : i < ff.length := (List.getElem?_eq_some_iff.1 hi').1
    obtain ⟨c, e, fr, f1, f2, f3, f4⟩ := h.fld (by omega)
    have hi2 : i < y.G2.fs.length := by rw [h.p1.fsl]; omega
    obtain ⟨g1, _, _⟩ := h.p1.ok.cf i _ (List.getElem?_eq_getElem hi2)
    refine ⟨g1, get_lt f1, ?_⟩
    exact cell_of f1 (f4 i n hi')
  · exact h.perm.nodup_iff.2 h.p1.nodup
  · refine ⟨by show k < y.G2.os.length; omega, by rw [hfind]; exact h.p1.find hk, ?_, ?_, ?_⟩
    · exact h.perm.mem_iff.2 (h.p1.mem hk)
    · rw [hob, core_of h.p1 hk, core_of h.pls hk]
    · rw [hob]
      rcases h.p1.ef k hk with he | ⟨he, B, O, e1, e2, e3, e4, e5⟩
      · exact .inl he
      · exact .inr ⟨he, B, O, e1, by have := e5.1; have := h.sz; omega, fun j v hj => keep e5.1 e3 (e5.2 j v hj)⟩
  · have hb : core ((setF y.G2 ff).ob k) = core (y.G.ob k) := by rw [hob, core_of h.p1 hk, core_of h.pls hk]
    have hact : ∀ n ∈ y.G2.fs, (setF y.G2 ff).acts ((setF y.G2 ff).ob k) n = y.G.acts (y.G.ob k) n := fun n hn => by
      rw [h.p1.fs, List.mem_map] at hn
      obtain ⟨j, hj, rfl⟩ := hn
      have hj := List.mem_range.1 hj
      unfold StG.acts
      rw [hfind, h.p1.find hj, h.pls.find hj, if_neg (by omega), if_neg (by omega)]
      simp only [Int.toNat_natCast]
      exact acts_core (by rw [hob, core_of h.p1 hj, core_of h.pls hj]) hb
    have hst : ∀ n ∈ ff, ∀ x ∈ (setF y.G2 ff).acts ((setF y.G2 ff).ob k) n, ∃ j : Nat, j < y.g.m ∧ n = (j : Int) + 1 ∧ x.st = plSt j := fun n hn x hx => by
      obtain ⟨j, hj, rfl⟩ := h.mem hn
      refine ⟨j, hj, rfl, ?_⟩
      have := (acts_ok hx).2.1
      rw [this, hfind, h.p1.find hj]
      simp only [Int.toNat_natCast]
      rw [hob]
      exact (h.p1.ob j hj).2.2.2
    show isort (ff.flatMap ((setF y.G2 ff).acts ((setF y.G2 ff).ob k)) ++ t) = _
    rw [isort_perm h.perm fun m hm' n hn' hne x hx z hz => ?_, flatMap_eq hact]
    · have : y.G2.fs = y.G.fs := by rw [h.p1.fs, h.pls.fs]
      rw [this]
      rfl
    · obtain ⟨i, i1, i2, i3⟩ := hst m hm' x hx
      obtain ⟨j, j1, j2, j3⟩ := hst n hn' z hz
      unfold unlike
      rw [i3, j3]
      intro he
      have := plSt_inj (by omega) (by omega) he
      omega
/-- Behind the swaps. -/
theorem SwM.done (h : SwM y w0 w3 w4 w5 w6 ff w) : ApM { y with G2 := setF y.G2 ff } w0 w3 w := by
  refine ⟨h.anc, h.pls.later h.a4.wk.size h.a4.old, h.like, h.s5, ?_⟩
  have e : (setF y.G2 ff).v = y.G2.v := by
    have : (setF y.G2 ff).fsV = y.G2.fsV := by
      show Value.slice y.G2.fa ff.length y.G2.fc = Value.slice y.G2.fa y.G2.fs.length y.G2.fc
      rw [h.len, h.p1.fsl]
    show StG.v (setF y.G2 ff) = _
    unfold StG.v
    rw [this]
    rfl
  show CellsAt w y.b6 y.o6 (cellsV (setF y.G2 ff).v)
  rw [e]
  exact h.s6
theorem SwM.later {w' : World} (h : SwM y w0 w3 w4 w5 w6 ff w) (hw : WK w w') (hb : ∀ k, k < w.heap.size → w'.heap[k]? = w.heap[k]?) : SwM y w0 w3 w4 w5 w6 ff w' :=
  ⟨h.anc.trans ⟨hw, hb⟩, h.a0, h.pls, h.a4.trans ⟨hw, hb⟩, h.n5, h.p1, Nat.le_trans h.sz hw.size, fun k hk hne => by rw [hb k (Nat.lt_of_lt_of_le hk h.sz), h.same k hk hne], h.s5.later hw.size hb, h.s6.later hw.size hb, h.g5, h.g6, fun h0 => by
    obtain ⟨c, e, fr, f1, f2⟩ := h.fld h0
    exact ⟨c, e, fr, by rw [hb _ (get_lt f1)]; exact f1, f2⟩, h.perm⟩
end
/-! ### symbols of a swap -/
def swint (s : PlIn) (ff : List Int) (m i : Nat) (k : Nat) : Int := if k < 100 then (match k with
  | 2 => (s.L.length : Int)
  | 3 => (i : Int)
  | 9 => w64 ((i : Int) + 1)
  | 11 => s.x i
  | 12 => s.x i % 16
  | 14 => (m : Int)
  | 15 => s.x i / 16
  | _ => 0) else ff.getD (k - 100) 0
def swval (y : ApG) (s : PlIn) (k : Nat) : Value := if k = 1 then s.v else if k < 200 then qval y.G k else y.G2.cellAt (k - 200)
def swrho (y : ApG) (s : PlIn) (ff : List Int) (i : Nat) : Rho where
  int := swint s ff y.g.m i
  val := swval y s
  blk k := if k = 5 then y.b5 else if k = 6 then y.b6 else s.B
  off k := if k = 5 then y.o5 else if k = 6 then y.o6 else s.O + i
  one k := by
    unfold swval
    split
    · rfl
    split
    · exact qval_one _
    · exact cellAt_one _ _
  lst _ := []
  lcl _ _ h := by cases h
/-- The temporaries at the first head. -/
structure SwT (y : ApG) (s : PlIn) (i : Nat) (act : Act) : Prop where
  sz : act.tmps.size = Try.f4.ntmps
  df : act.defers = []
  t1 : act.tmps.getD 1 undef = s.v
  t5 : act.tmps.getD 5 undef = .pointer (some ⟨y.b5, y.o5, none⟩)
  t6 : act.tmps.getD 6 undef = .pointer (some ⟨y.b6, y.o6, none⟩)
  t7 : act.tmps.getD 7 undef = n64 (y.g.m : Int)
  t8 : act.tmps.getD 8 undef = n64 (i : Int)
section
variable {w0 w3 w4 w5 w6 w : World} {y : ApG} {s : PlIn} {ff : List Int} {i : Nat} {act : Act} {HD : Nat → Act → World → Prop} {Q : Exit → Act → World → Prop}
theorem sw_w (j : Nat) (hj : j < 25) : (swrho y s ff i).val (200 + j) = y.G2.cellAt j := by
  show swval y s (200 + j) = _
  unfold swval
  rw [if_neg (by omega), if_neg (by omega), Nat.add_sub_cancel_left]
theorem sw_fits (hs : s.OK w0) (hi : i ≤ 1000) (hm : y.g.m ≤ 10) (hf : ∀ n ∈ ff, I64 n) (k : Nat) : I64 (swint s ff y.g.m i k) := by
  obtain ⟨x0, x1⟩ := hs.x_fit i
  have hn := hs.n
  unfold swint
  split
  · split
    · exact ⟨by omega, by omega⟩
    · exact ⟨by omega, by omega⟩
    · exact w64_fits _
    · exact ⟨by omega, by omega⟩
    · exact ⟨by omega, by omega⟩
    · exact ⟨by omega, by omega⟩
    · exact ⟨by omega, by omega⟩
    · exact i64_0
  · rw [List.getD_eq_getElem?_getD]
    cases hx : ff[k - 100]? with
    | none => exact i64_0
    | some v => exact hf v (List.mem_of_getElem? hx)
theorem sw_tmps {nv : VV} {φ : Phi} (hφ : φ.ρ = swrho y s ff i) (ha : SwT y s i act) (hn : VR φ nv (n64 (y.g.m : Int))) : ∀ q ∈ swT nv (si 3), q.1 < top ∧ VR φ q.2 (act.tmps.getD q.1 undef) := by
  intro q hq
  simp only [swT, List.mem_cons, List.not_mem_nil, or_false] at hq
  rcases hq with rfl | rfl | rfl | rfl | rfl
  · exact ⟨show 1 < top by decide, by simp only [ha.t1, VR, hφ]; rfl⟩
  · exact ⟨show 5 < top by decide, by simp only [ha.t5, VR, AR, hφ]; exact ⟨_, _, ⟨rfl, rfl⟩, rfl⟩⟩
  · exact ⟨show 6 < top by decide, by simp only [ha.t6, VR, AR, hφ]; exact ⟨_, _, ⟨rfl, rfl⟩, rfl⟩⟩
  · exact ⟨show 7 < top by decide, by simp only [ha.t7]; exact hn⟩
  · exact ⟨show 8 < top by decide, by simp only [ha.t8, si, VR, hφ]; rfl⟩
theorem sw_back {φ : Phi} {nv j : VV} {i' : Nat} (hφ : φ.ρ = swrho y s ff i) (hsz : act.tmps.size = Try.f4.ntmps) (hd : act.defers = []) (hq : ∀ q ∈ swT nv j, VR φ q.2 (act.tmps.getD q.1 undef)) (hn : ∀ v, VR φ nv v → v = n64 (y.g.m : Int)) (hj : ∀ v, VR φ j v → v = n64 (i' : Int)) : SwT y s i' act := by
  have a1 := hq (1, .sym 1) (by simp [swT])
  have a5 := hq (5, .ptr (some ⟨.sym 5, 0⟩)) (by simp [swT])
  have a6 := hq (6, .ptr (some ⟨.sym 6, 0⟩)) (by simp [swT])
  have a7 := hq (7, nv) (by simp [swT])
  have a8 := hq (8, j) (by simp [swT])
  simp only [VR, AR, hφ] at a1 a5 a6
  obtain ⟨_, _, ⟨rfl, rfl⟩, a5⟩ := a5
  obtain ⟨_, _, ⟨rfl, rfl⟩, a6⟩ := a6
  exact ⟨hsz, hd, a1, a5, a6, hn _ a7, hj _ a8⟩
theorem swC_len : ∀ {n k : Nat}, (swC n k).length = n
  | 0, k => rfl
  | n + 1, k => by simp [swC, swC_len]
theorem swC_get : ∀ {n k j : Nat}, j < n → (swC n k)[j]? = some (si (k + j))
  | 0, k, j, h => by omega
  | n + 1, k, 0, _ => by simp [swC]
  | n + 1, k, j + 1, h => by
    simp only [swC, List.getElem?_cons_succ]
    rw [swC_get (by omega), show k + 1 + j = k + (j + 1) by omega]
theorem swfin_of {n a b : Nat} {o : Option SegO} (h : swfin n a b o = true) : ∃ t H et, o = some (.cut 0 t H) ∧ keepL t (swT (i8 n) (si 9)) = true ∧ H.locs.get 0 = some (.cells (swnew n a b) none 0 et) := by
  unfold swfin at h
  split at h
  · split at h
    · rename_i h1 h2
      rw [vvsEq_eq _ _ h] at h2
      exact ⟨_, _, _, rfl, h1, h2⟩
    · cases h
  · cases h
/-- The two places. -/
def swA (s : PlIn) (m i : Nat) : Nat := (s.x i % 16 % (m : Int)).toNat
def swZ (s : PlIn) (m i : Nat) : Nat := (s.x i / 16 % (m : Int)).toNat
def swN (s : PlIn) (m i : Nat) (ff : List Int) : List Int := (ff.set (swA s m i) (ff.getD (swZ s m i) 0)).set (swZ s m i) (ff.getD (swA s m i) 0)
theorem swN_perm {m : Nat} (hl : ff.length = m) (ha : swA s m i < m) (hz : swZ s m i < m) : (swN s m i ff).Perm ff := by
  unfold swN
  have e1 : ff.getD (swZ s m i) 0 = ff[swZ s m i]'(by omega) := by rw [List.getD_eq_getElem?_getD, List.getElem?_eq_getElem (by omega)]; rfl
  have e2 : ff.getD (swA s m i) 0 = ff[swA s m i]'(by omega) := by rw [List.getD_eq_getElem?_getD, List.getElem?_eq_getElem (by omega)]; rfl
  rw [e1, e2]
  exact List.set_set_perm (by omega) (by omega)
/-- A swap. -/
theorem sw_round (hs : s.OK w0) (hM : SwM y w0 w3 w4 w5 w6 ff w) (h0 : 0 < y.g.m) (hi : i < s.L.length) (hi30 : i < 30) (ha : SwT y s i act) {c : Code} {K : List Fr1} (hc : ctx 0 orbody 0 [] = some (c, K)) (hat : At1 orbody (.loop c) 0 K) (hko : KOK orbody K)
    (hgo : ∀ act' w', SwT y s (i + 1) act' → SwM y w0 w3 w4 w5 w6 (swN s y.g.m i ff) w' → HD 0 act' w' ∧ ∀ c' K', ctx 0 orbody 0 [] = some (c', K') → (Code.loop c').wpIn (Fr none) 0 Try.prog (postK Try.prog HD Q K') act' w') :
    c.wpIn (Fr none) 0 Try.prog (postK Try.prog HD Q (.lp c 0 :: K)) act w := by
  letI : Ext := XK Try.prog [] (fun k => k = y.G2.fB)
  have hm := hM.p1.m10
  have hlen := hM.len
  obtain ⟨x0, x1⟩ := hs.x_fit i
  obtain ⟨c0, e0, fr0, f1, f2, f3, f4⟩ := hM.fld h0
  have hnF := hM.p1.newF h0
  have hsz := hM.sz
  have hn5 := hM.n5
  have hsw := hs.later hM.anc.wk.size hM.anc.old
  have hap : 0 ≤ s.x i % 16 % (y.g.m : Int) ∧ s.x i % 16 % (y.g.m : Int) < (y.g.m : Int) := ⟨Int.emod_nonneg _ (by omega), Int.emod_lt_of_pos _ (by omega)⟩
  have hzp : 0 ≤ s.x i / 16 % (y.g.m : Int) ∧ s.x i / 16 % (y.g.m : Int) < (y.g.m : Int) := ⟨Int.emod_nonneg _ (by omega), Int.emod_lt_of_pos _ (by omega)⟩
  have hA : swA s y.g.m i < y.g.m := by unfold swA; omega
  have hZ : swZ s y.g.m i < y.g.m := by unfold swZ; omega
  have hAi : ((swA s y.g.m i : Nat) : Int) = s.x i % 16 % (y.g.m : Int) := by unfold swA; omega
  have hZi : ((swZ s y.g.m i : Nat) : Int) = s.x i / 16 % (y.g.m : Int) := by unfold swZ; omega
  obtain ⟨a, H, et, hseg, hkeep, hloc⟩ := swfin_of (sw_chk h0 hm hA hZ)
  unfold swrun at hseg
  rw [hc] at hseg
  simp only at hseg
  let inf : Inf := ⟨y.G2.fB, y.G2.fO, 0⟩
  let ρ := swrho y s ff i
  have hff : ∀ n ∈ ff, I64 n := fun n hn => by
    obtain ⟨k, hk, rfl⟩ := hM.mem hn
    exact ⟨by omega, by omega⟩
  have ft := sw_fits (y := y) hs (i := i) (by omega) hm hff
  have hO : OR ⟨oneF inf, ρ⟩ inf (.cells (swC y.g.m 100) none 0 none) (.cells c0 e0 fr0) := by
    refine ⟨c0, e0, fr0, rfl, ?_, fun _ => rfl, fun j x hx => ?_, by show fr0.2 ≤ y.G2.fO + 0; omega, fun t ht => by cases ht⟩
    · show y.G2.fO + (swC y.g.m 100).length + 0 ≤ _
      rw [swC_len]
      omega
    · have hj : j < y.g.m := by
        have := (List.getElem?_eq_some_iff.1 hx).1
        rw [swC_len] at this
        exact this
      rw [swC_get hj] at hx
      cases hx
      refine ⟨_, f4 j _ (List.getElem?_eq_getElem (by omega)), ?_⟩
      simp only [si, VR]
      show n64 _ = Value.int .i64 (swint s ff y.g.m i (100 + j))
      unfold swint
      rw [if_neg (by omega), Nat.add_sub_cancel_left, List.getD_eq_getElem?_getD, List.getElem?_eq_getElem (show j < ff.length by omega)]
      rfl
  have hfsv : y.G2.fsV = .slice (some ⟨y.G2.fB, y.G2.fO, none⟩) y.g.m y.G2.fc := by
    have hi2 : 0 < y.G2.fs.length := by rw [hM.p1.fsl]; exact h0
    unfold StG.fsV
    rw [(hM.p1.ok.cf 0 _ (List.getElem?_eq_getElem hi2)).1, hM.p1.fsl]
  have v206 : sval ρ (.sym 206) = some (.slice (some ⟨y.G2.fB, y.G2.fO, none⟩) y.g.m y.G2.fc) := by
    show some ((swrho y s ff i).val (200 + 6)) = _
    rw [sw_w 6 (by omega), ← hfsv]
    rfl
  obtain ⟨z1, z2, z3⟩ := hsw.at hi
  have hE : EnvOK ⟨fun _ => none, ivAt swIv, swF y.g.m (swA s y.g.m i) (swZ s y.g.m i), swB⟩ ⟨oneF inf, ρ⟩ (less w y.G2.fB) := by
    refine EnvOK.mk (fun e he => by cases he) ?_ ?_ ?_
    · have F := ft
      refine iv_all (f := swint s ff y.g.m i) ?_ F
      exact ⟨F 0, F 1, F 2, ⟨show 0 ≤ (i : Int) by omega, show (i : Int) ≤ 29 by omega⟩, trivial⟩
    · intro f hf
      simp only [swF, List.mem_cons, List.not_mem_nil, or_false] at hf
      rcases hf with rfl | rfl | rfl | rfl | rfl | rfl | rfl | rfl | rfl | rfl | rfl
      · exact FactOK.w (fact_lenV (a := s.oa) (n := s.L.length) (c := s.ca) rfl rfl)
      · exact FactOK.w (fact_lssG rfl rfl (decide_eq_true (show (i : Int) < (s.L.length : Int) by omega)))
      · exact FactOK.w (fact_atG (B := s.B) (O := s.O) (l := s.L.length) (c := s.ca) (n := i) (o := s.oa) rfl z1 rfl hi rfl (by show s.O + i = s.O + i * 1; omega))
      · exact FactOK.w (fact_remN (by omega) x0 rfl)
      · refine FactOK.w (fact_rem (a := s.x i % 16) (b := (y.g.m : Int)) rfl rfl (by omega) ?_)
        show some (Value.int .i64 ((swA s y.g.m i : Nat) : Int)) = _
        rw [hAi, Int.tmod_eq_emod_of_nonneg (by omega)]
      · exact FactOK.w (fact_shr (c := 4) (m := 16) (by decide) (by decide) x0 rfl)
      · refine FactOK.w (fact_rem (a := s.x i / 16) (b := (y.g.m : Int)) rfl rfl (by omega) ?_)
        show some (Value.int .i64 ((swZ s y.g.m i : Nat) : Int)) = _
        rw [hZi, Int.tmod_eq_emod_of_nonneg (by omega)]
      · exact FactOK.w (fact_addG rfl rfl rfl)
      · exact FactOK.w ⟨_, y.g.m, v206, ⟨_, _, rfl⟩, rfl⟩
      · exact ⟨⟨y.G2.fB, y.G2.fO, none⟩, y.g.m, y.G2.fc, .i64, swA s y.g.m i, inf, v206, rfl, rfl, by omega, by omega, rfl, rfl, by show y.G2.fO + swA s y.g.m i = y.G2.fO + ((swA s y.g.m i : Nat) : Int).toNat * 1; omega⟩
      · exact ⟨⟨y.G2.fB, y.G2.fO, none⟩, y.g.m, y.G2.fc, .i64, swZ s y.g.m i, inf, v206, rfl, rfl, by omega, by omega, rfl, rfl, by show y.G2.fO + swZ s y.g.m i = y.G2.fO + ((swZ s y.g.m i : Nat) : Int).toNat * 1; omega⟩
    · intro k c hk
      simp only [swB] at hk
      have hfB : y.G2.fB < w6.heap.size := by
        have hi2 : 0 < y.G2.fs.length := by rw [hM.p1.fsl]; exact h0
        exact (hM.p1.ok.cf 0 _ (List.getElem?_eq_getElem hi2)).2.1
      split at hk
      · cases hk
        have := cells_blk hM.s6 (stW_cells (φ := ⟨oneF inf, ρ⟩) fun j hj => sw_w j hj)
        refine ⟨by rw [less_size]; exact this.1, fun j x hx => ?_⟩
        obtain ⟨v, v1, v2⟩ := this.2 j x hx
        exact ⟨v, cell_less v1 (by show y.b6 ≠ _; have := hM.g6; omega), v2⟩
      · cases hk
        have hsB : s.B < w0.heap.size := (hs.at hi).2.1
        have han := hM.anc.wk.size
        refine ⟨by rw [less_size]; exact z2, fun j x hx => ?_⟩
        match j with
        | 0 =>
          cases hx
          refine ⟨_, cell_less z3 ?_, by simp only [s8, VR]; rfl⟩
          show s.B ≠ _
          intro he
          have := hM.p1.newF h0
          have h45 := hM.n5
          have h04 := hM.a0.wk.size
          omega
        | j + 1 => simp at hx
      · cases hk
  have htr : TR ⟨oneF inf, ρ⟩ (mkT Try.f4.ntmps (swT (i8 y.g.m) (si 3))) act.tmps := by
    have h1 := sw_tmps (nv := i8 y.g.m) (φ := ⟨oneF inf, ρ⟩) (y := y) (s := s) (ff := ff) (i := i) rfl ha (i8_VR _)
    exact mkT_TR ha.sz nt4 h1
  refine own_part (X := XK Try.prog [] (fun k => k = y.G2.fB)) (inf := inf) (ρ := ρ) (hrcK (noNG_of noNG) mixed) nt4 hat.loop.2 hko hseg htr hE (fun r => rfl) f1 hO ha.sz ha.df (fun k => Iff.rfl) fun act' w' φ b => ?_
  have hpin := b.pin 0 inf rfl
  obtain ⟨inf', c', e', fr', q1, q2, q3⟩ := b.blk hloc
  rw [hpin] at q1
  cases q1
  have same : ∀ k, k < w.heap.size → k ≠ y.G2.fB → w'.heap[k]? = w.heap[k]? := fun k hk hne => b.same k hk hne
  have keepC : ∀ {B O : Nat} {us : List Value}, B ≠ y.G2.fB → CellsAt w B O us → CellsAt w' B O us := fun {B O us} hne h => ⟨Nat.lt_of_lt_of_le h.1 b.wk.size, fun j v hj => by
    rw [← h.2 j v hj]
    unfold World.cell?
    rw [same _ h.1 hne]⟩
  have hfB : y.G2.fB < w6.heap.size := by
    have hi2 : 0 < y.G2.fs.length := by rw [hM.p1.fsl]; exact h0
    exact (hM.p1.ok.cf 0 _ (List.getElem?_eq_getElem hi2)).2.1
  have h04 := hM.a0.wk.size
  have h4w := hM.a4.wk.size
  have g5 := hM.g5
  have g6 := hM.g6
  refine hgo act' w' (sw_back b.rho b.sz b.df (keepL_VR b.tr hkeep) (fun v hv => i8V hv) fun v hv => ?_) ⟨⟨hM.anc.wk.trans b.wk, fun k hk => ?_⟩, hM.a0, hM.pls, ⟨hM.a4.wk.trans b.wk, fun k hk => ?_⟩, hM.n5, hM.p1, Nat.le_trans hM.sz b.wk.size, fun k hk hne => ?_, keepC (by omega) hM.s5, keepC (by omega) hM.s6, g5, g6, fun _ => ⟨c', e', fr', q2, q3.low, ?_, fun k v hk => ?_⟩, (swN_perm hlen hA hZ).trans hM.perm⟩
  · simp only [si, VR, b.rho] at hv
    rw [hv]
    show Value.int .i64 (w64 ((i : Int) + 1)) = n64 ((i + 1 : Nat) : Int)
    rw [w64_same (by omega)]
    unfold n64
    congr 1
  · rw [same k (by have := hM.anc.wk.size; omega) (by omega), hM.anc.old k hk]
  · rw [same k (by omega) (by omega), hM.a4.old k hk]
  · rw [same k (by omega) hne, hM.same k hk hne]
  · have := q3.size
    unfold swnew at this
    rw [List.length_set, List.length_set, swC_len] at this
    have e : spare none (Inf.slack inf) = 0 := rfl
    rw [e] at this
    exact this
  · have cell : ∀ {j : Nat}, (swnew y.g.m (swA s y.g.m i) (swZ s y.g.m i))[k]? = some (si (100 + j)) → c'[y.G2.fO + k]? = some (n64 (ff.getD j 0)) := fun {j} hx => by
      obtain ⟨u, u1, u2⟩ := q3.cell k _ hx
      rw [u1]
      simp only [si, VR, b.rho] at u2
      rw [u2]
      show some (Value.int .i64 (swint s ff y.g.m i (100 + j))) = _
      unfold swint
      rw [if_neg (by omega), Nat.add_sub_cancel_left]
      rfl
    have hkl : k < y.g.m := by
      have := (List.getElem?_eq_some_iff.1 hk).1
      unfold swN at this
      rw [List.length_set, List.length_set, hlen] at this
      exact this
    unfold swN at hk
    unfold swnew at cell
    rw [List.getElem?_set, List.getElem?_set] at hk
    rw [List.getElem?_set, List.getElem?_set] at cell
    simp only [List.length_set, hlen, swC_len] at hk cell
    by_cases e1 : swZ s y.g.m i = k
    · rw [if_pos e1, if_pos hZ] at hk
      cases hk
      exact cell (j := swA s y.g.m i) (by rw [if_pos e1, if_pos hZ])
    · rw [if_neg e1] at hk
      by_cases e2 : swA s y.g.m i = k
      · rw [if_pos e2, if_pos hA] at hk
        cases hk
        exact cell (j := swZ s y.g.m i) (by rw [if_neg e1, if_pos e2, if_pos hA])
      · rw [if_neg e2] at hk
        have := cell (j := k) (by rw [if_neg e1, if_neg e2, swC_get hkl])
        rw [this, List.getD_eq_getElem?_getD, hk]
        rfl
end
end
end Go.Proofs.Ytgbhmkdldfhamaa.order
namespace Go.Proofs.Ytgbhmkdldfhamaa.order
open Go.Ev Go.RowKit
set_option linter.unusedVariables false
noncomputable section
theorem body4 : Try.f4.body = some orbody := rfl
section
variable {w0 w3 w4 w5 w6 w : World} {y : ApG} {s : PlIn} {ff : List Int} {i : Nat} {act : Act} {HD : Nat → Act → World → Prop} {Q : Exit → Act → World → Prop}
theorem swx_of {iv : Ivs} {fs : List Fact} (h : swx iv fs = true) : ∃ a H, orseg [] [] 0 (swT (si 14) (si 3)) ⟨fun _ => none, ivAt iv, .len false (.sym 1) (si 2) :: fs, fun _ => none⟩ = some (.cut 1 a H) ∧ keepL a [(5, .ptr (some ⟨.sym 5, 0⟩)), (6, .ptr (some ⟨.sym 6, 0⟩)), (7, si 14), (12, i8 1)] = true := by
  unfold swx at h
  split at h
  · rename_i a H h1
    exact ⟨a, H, h1, h⟩
  · cases h
/-- Behind the swaps, by a part that the kernel runs. -/
theorem sw_exit (hs : s.OK w0) (hM : SwM y w0 w3 w4 w5 w6 ff w) (hi : i ≤ 30) (ha : SwT y s i act) {iv : Ivs} {fs : List Fact} (hchk : swx iv fs = true) (hiv : IvOK iv (swrho y s ff i)) (hfs : FsOK fs (swrho y s ff i)) {c : Code} {K : List Fr1} (hc : ctx 0 orbody 0 [] = some (c, K)) (hat : At1 orbody (.loop c) 0 K) (hko : KOK orbody K)
    (hgo : ∀ act' w', OrT { y with G2 := setF y.G2 ff } ((0 : Nat) + 1 : Int) act' → ApM { y with G2 := setF y.G2 ff } w0 w3 w' → HD 1 act' w' ∧ ∀ c' K', ctx 1 orbody 0 [] = some (c', K') → (Code.loop c').wpIn (Fr none) 0 Try.prog (postK Try.prog HD Q K') act' w') :
    c.wpIn (Fr none) 0 Try.prog (postK Try.prog HD Q (.lp c 0 :: K)) act w := by
  letI : Ext := extKA Try.prog [] []
  obtain ⟨a, H, hseg, hkeep⟩ := swx_of hchk
  unfold orseg at hseg
  rw [hc] at hseg
  simp only at hseg
  have hE : EnvOK ⟨fun _ => none, ivAt iv, .len false (.sym 1) (si 2) :: fs, fun _ => none⟩ ⟨fun _ => none, swrho y s ff i⟩ w := by
    refine EnvOK.mk ⟨(fun e he => by cases he), (fun e he => by cases he)⟩ hiv ?_ (fun k c hk => by cases hk)
    have h1 : FsOK (.len false (.sym 1) (si 2) :: fs) (swrho y s ff i) := fs_cons (fact_lenV (a := s.oa) (n := s.L.length) (c := s.ca) rfl rfl) hfs
    exact fun x hx => FactOK.w (h1 x hx)
  have htr : TR ⟨fun _ => none, swrho y s ff i⟩ (mkT Try.f4.ntmps (swT (si 14) (si 3))) act.tmps := by
    have h1 := sw_tmps (nv := si 14) (φ := ⟨fun _ => none, swrho y s ff i⟩) (y := y) (s := s) (ff := ff) (i := i) rfl ha (by simp only [si, VR]; rfl)
    exact mkT_TR ha.sz nt4 h1
  refine plain_part (X := extKA Try.prog [] []) (ρ := swrho y s ff i) (hrcK2 (noNG_of noNG) mixed) nt4 hat.loop.2 hko hseg htr hE (fun r => rfl) ha.sz ha.df (fun k h => h) fun act' w' φ b => ?_
  have hq := keepL_VR b.tr hkeep
  have a5 := hq (5, .ptr (some ⟨.sym 5, 0⟩)) (by simp)
  have a6 := hq (6, .ptr (some ⟨.sym 6, 0⟩)) (by simp)
  have a7 := hq (7, si 14) (by simp)
  have a12 := hq (12, i8 1) (by simp)
  simp only [VR, AR, b.rho] at a5 a6
  simp only [si, VR, b.rho] at a7
  obtain ⟨_, _, ⟨rfl, rfl⟩, a5⟩ := a5
  obtain ⟨_, _, ⟨rfl, rfl⟩, a6⟩ := a6
  exact hgo act' w' ⟨b.sz, b.df, a5, a6, a7, i8V a12⟩ (hM.later b.wk fun k hk => b.same k hk (fun h => h)).done
/-- At the heads. -/
inductive OrI (g : PlIn) (s : PlIn) (w0 w3 w4 w5 w6 : World) : Nat → Nat → Act → World → Prop
  | sw {y : ApG} {i : Nat} {ff : List Int} {act : Act} {w : World} : y.g = g → i ≤ 30 → SwT y s i act → SwM y w0 w3 w4 w5 w6 ff w → OrI g s w0 w3 w4 w5 w6 (100 - i) 0 act w
  | id {y : ApG} {j : Nat} {act : Act} {w : World} : y.g = g → j ≤ g.m → OrT y ((j : Int) + 1) act → ApM y w0 w3 w → OrI g s w0 w3 w4 w5 w6 (g.m - j) 1 act w
theorem or_heads {g : PlIn} (hs : s.OK w0) (hg : ∀ k, 0 ≤ g.x k ∧ g.x k ≤ 255) : ∀ k t act w', OrI g s w0 w3 w4 w5 w6 k t act w' → ∀ c K, ctx t orbody 0 [] = some (c, K) → At1 orbody (.loop c) t K → KOK orbody K → ∀ HD : Nat → Act → World → Prop, (∀ t' act' w'', (∃ j, j < k ∧ OrI g s w0 w3 w4 w5 w6 j t' act' w'') → HD t' act' w'' ∧ ∀ c' K', ctx t' orbody 0 [] = some (c', K') → (Code.loop c').wpIn (Fr none) 0 Try.prog (postK Try.prog HD (orQ w0) K') act' w'') →
      c.wpIn (Fr none) 0 Try.prog (postK Try.prog HD (orQ w0) (.lp c t :: K)) act w' := by
  rintro k t act w' hI c K hc hat hko HD hHD
  cases hI with
  | @sw y i ff _ _ hy hi ha hM =>
    subst hy
    have hm := hM.p1.m10
    have hff : ∀ n ∈ ff, I64 n := fun n hn => by
      obtain ⟨k, hk, rfl⟩ := hM.mem hn
      exact ⟨by omega, by omega⟩
    have ft := sw_fits (y := y) hs (i := i) (by omega) hm hff
    have go : ∀ act' w'', OrT { y with G2 := setF y.G2 ff } ((0 : Nat) + 1 : Int) act' → ApM { y with G2 := setF y.G2 ff } w0 w3 w'' → HD 1 act' w'' ∧ ∀ c' K', ctx 1 orbody 0 [] = some (c', K') → (Code.loop c').wpIn (Fr none) 0 Try.prog (postK Try.prog HD (orQ w0) K') act' w'' := fun act' w'' h1 h2 =>
      hHD 1 act' w'' ⟨y.g.m - 0, by omega, .id (y := { y with G2 := setF y.G2 ff }) (j := 0) rfl (Nat.zero_le _) h1 h2⟩
    by_cases h1 : i < s.L.length
    · by_cases h2 : i < 30
      · by_cases h3 : 0 < y.g.m
        · exact sw_round hs hM h3 h1 h2 ha hc hat hko fun act' w'' ha' hM' => hHD 0 act' w'' ⟨100 - (i + 1), by omega, .sw rfl (by omega) ha' hM'⟩
        · have F := ft
          refine sw_exit hs hM hi ha (show swx3 = true from orall_at (by simp)) (iv_all (f := swint s ff y.g.m i) ⟨F 0, F 1, F 2, ⟨show 0 ≤ (i : Int) by omega, show (i : Int) ≤ 29 by omega⟩, trivial⟩ F) ?_ hc hat hko go
          exact fs_cons (fact_lssG rfl rfl (decide_eq_true (show (i : Int) < (s.L.length : Int) by omega))) (fs_cons (fact_gtrG rfl rfl (decide_eq_false (show ¬ (y.g.m : Int) > 0 by omega))) fs_nil)
      · have F := ft
        refine sw_exit hs hM hi ha (show swx2 = true from orall_at (by simp)) (iv_all (f := swint s ff y.g.m i) ⟨F 0, F 1, F 2, ⟨show 30 ≤ (i : Int) by omega, show (i : Int) ≤ 9223372036854775807 by omega⟩, trivial⟩ F) ?_ hc hat hko go
        exact fs_cons (fact_lssG rfl rfl (decide_eq_true (show (i : Int) < (s.L.length : Int) by omega))) fs_nil
    · refine sw_exit hs hM hi ha (show swx1 = true from orall_at (by simp)) (ivs_nil ft) ?_ hc hat hko go
      exact fs_cons (fact_lssG rfl rfl (decide_eq_false (show ¬ (i : Int) < (s.L.length : Int) by omega))) fs_nil
  | @id y j _ _ hy hj ha hM =>
    subst hy
    by_cases hlt : j < y.g.m
    · exact or_round hg hlt hM ha hc hat hko fun act' w'' ha' hM' => hHD 1 act' w'' ⟨y.g.m - (j + 1), by omega, .id rfl hlt ha' hM'⟩
    · obtain rfl : j = y.g.m := by omega
      exact or_end hM ha hc hat hko
theorem or4_at : At1 orbody or4 0 [] := by
  have hat : At1 orbody orbody 0 [] := fun t _ _ => rfl
  have h1 : At1 orbody (.seq or0 (.seq or1 (.seq or3 or4))) 0 [] := by rw [← orshape]; exact hat
  have h2 := h1.seq.2.seq.2.seq.2
  rw [show (0 + nl or0 + nl or1 + nl or3) = 0 by kernel_rfl] at h2
  exact h2
theorem oaq_of : ∃ a H a' H' r1 e1 r2 e2, oap = some (a, H) ∧ seg (rcK Try.prog []) Try.f4.ntmps [0, 1] 1000 or4 0 [] a H = some (.cut 0 a' H') ∧ keepL a' [(1, .sym 1), (5, .ptr (some ⟨.loc 0, 0⟩)), (6, .ptr (some ⟨.loc 1, 0⟩)), (7, si 14), (8, i8 0)] = true ∧ H'.locs.get 0 = some (.cells lySt none r1 e1) ∧ H'.locs.get 1 = some (.cells (symsV 25 200) none r2 e2) := by
  have h : oafin = true := orall_at (by simp)
  unfold oafin at h
  split at h
  · rename_i a' H' hq
    unfold oaq at hq
    split at hq
    · rename_i a H hp
      split at h
      · rename_i h1 h2 h3
        split at h
        · rename_i h4
          rw [vvsEq_eq _ _ h4] at h2
          rw [vvsEq_eq _ _ h] at h3
          exact ⟨a, H, a', H', _, _, _, _, hp, hq, h1, h2, h3⟩
        · cases h
      · cases h
    · cases hq
  · cases h
/-- Behind the second call. -/
theorem or_tail {G G1 : StG} {g : PlIn} {act6 : Act} (hs : s.OK w0) (hg : ∀ k, 0 ≤ g.x k ∧ g.x k ≤ 255) (hz : act6.tmps.size = Try.f4.ntmps) (hd : act6.defers = []) (t1 : act6.tmps.getD 1 undef = s.v) (t20 : act6.tmps.getD 20 undef = G.v) (t22 : act6.tmps.getD 22 undef = G1.v) (an : Anc w0 w4) (hP : PlS g w3 G w4) (a46 : Anc w4 w6) (h45 : w4.heap.size ≤ w5.heap.size) (hP1 : PlS g w5 G1 w6) :
    wpOpsIn (Fr none) 0 Try.prog ⟨oo3⟩ (Exit.then (or4.wpIn (Fr none) 0 Try.prog (orQ w0)) (orQ w0)) [4, 5, 6, 7] act6 w6 := by
  letI X : Ext := XK Try.prog [] (fun _ => False)
  have hng := noNG_of noNG
  have hm := hP1.m10
  let y0 : ApG := ⟨g, G, G1, 0, 0, 0, 0⟩
  let ρ := swrho y0 s G1.fs 0
  have hff : ∀ n ∈ G1.fs, I64 n := hP1.ok.ff
  obtain ⟨a, H, a', H', r1, e1, r2, e2, p1, p2, p3, p4, p5⟩ := oaq_of
  have hE : EnvOK ⟨fun _ => none, ivAt [], [.len false (.sym 206) (si 14)], fun _ => none⟩ ⟨fun _ => none, ρ⟩ w6 := by
    refine EnvOK.mk (fun e he => by cases he) (ivs_nil (sw_fits (y := y0) hs (Nat.zero_le _) hm hff)) ?_ (fun k c hk => by cases hk)
    have h1 : FsOK [.len false (.sym 206) (si 14)] ρ := by
      refine fs_cons (fact_lenV (a := G1.fa) (n := g.m) (c := G1.fc) ?_ rfl) fs_nil
      show (swrho y0 s G1.fs 0).val (200 + 6) = _
      rw [sw_w 6 (by omega)]
      show G1.fsV = _
      unfold StG.fsV
      rw [hP1.fsl]
    exact fun x hx => FactOK.w (h1 x hx)
  have hst : StRho G ρ := ⟨fun k hk => by
    show swval y0 s k = _
    unfold swval
    rw [if_neg (by omega), if_pos (by omega)]⟩
  have k6 : RSN w6 (· = ρ) Try.f4.ntmps (mkT Try.f4.ntmps [(1, .sym 1), (20, stV), (22, stW)]) ⟨⟨fun _ => none, ivAt [], [.len false (.sym 206) (si 14)], fun _ => none⟩, .lf, 0⟩ act6 w6 := by
    have hl : ∀ q ∈ [(1, VV.sym 1), (20, stV), (22, stW)], q.1 < top ∧ VR ⟨fun _ => none, ρ⟩ q.2 (act6.tmps.getD q.1 undef) := by
      intro q hq
      simp only [List.mem_cons, List.not_mem_nil, or_false] at hq
      rcases hq with rfl | rfl | rfl
      · exact ⟨show 1 < top by decide, by simp only [t1, VR]; rfl⟩
      · exact ⟨show 20 < top by decide, by simp only [t20]; exact stV_VR hst⟩
      · refine ⟨show 22 < top by decide, ?_⟩
        simp only [t22]
        unfold stW
        rw [VR]
        exact ⟨_, stW_cells (G := G1) (fun j hj => sw_w (y := y0) j hj), rfl⟩
    exact RSN.here hz nt4 hd hl hE (fun r => rfl) hno0
  rw [show ([4, 5, 6, 7] : List Nat) = List.range' (oo3.take 4).length (oo3.drop 4).length ++ [] by kernel_rfl]
  refine opsN_sound hng (feK_ok hng mixed) nt4 (Nat.le_refl _) (pre := oo3.take 4) (l := oo3.drop 4) (post := []) (by rw [List.append_nil]; exact (List.take_append_drop 4 oo3).symm) p1 k6 fun act7 w7 hb7 k7 => ?_
  show or4.wpIn (Fr none) 0 Try.prog (orQ w0) act7 w7
  refine segN_sound (HD := fun t act w => ∃ j, j ≤ 100 ∧ OrI g s w0 w3 w4 w5 w6 j t act w) (Rr := fun _ => True) trivial (hrcK hng mixed) nt4 (Nat.le_refl _) (K := []) or4_at trivial p2 k7 ?_
  intro act8 w8 hb8 k8
  have a68 : Anc w6 w8 := k8.anc hno0
  obtain ⟨φ8, hφ8, ht8, hs8, hw8, hz8, hd8⟩ := k8
  obtain ⟨i1, f1, g1, c1⟩ := hs8.cellsAt p4
  obtain ⟨i2, f2, g2, c2⟩ := hs8.cellsAt p5
  have n1 : w6.heap.size ≤ i1.blk := (hs8.own 0 i1 f1).elim id (fun h => h.elim)
  have n2 : w6.heap.size ≤ i2.blk := (hs8.own 1 i2 f2).elim id (fun h => h.elim)
  have hq := keepL_VR ht8 p3
  have b1 := hq (1, .sym 1) (by simp)
  have b5 := hq (5, .ptr (some ⟨.loc 0, 0⟩)) (by simp)
  have b6 := hq (6, .ptr (some ⟨.loc 1, 0⟩)) (by simp)
  have b7 := hq (7, si 14) (by simp)
  have b8 := hq (8, i8 0) (by simp)
  simp only [VR, AR, hφ8] at b1 b5 b6
  simp only [si, VR, hφ8] at b7
  obtain ⟨_, _, ⟨j1, x1, rfl, rfl⟩, b5⟩ := b5
  rw [f1] at x1
  cases x1
  obtain ⟨_, _, ⟨j2, x2, rfl, rfl⟩, b6⟩ := b6
  rw [f2] at x2
  cases x2
  let y : ApG := ⟨g, G, G1, i1.blk, i1.off, i2.blk, i2.off⟩
  have hM : SwM y w0 w3 w4 w5 w6 G1.fs w8 := by
    refine ⟨(an.trans a46).trans a68, an, hP, a46.trans a68, h45, hP1, a68.wk.size, fun k hk _ => a68.old k hk, ?_, ?_, n1, n2, fun h0 => ?_, List.Perm.refl _⟩
    · exact sym_cells lySt_sym (lySt_VR (y := ⟨g, G, ⟨0, 0, 0, fun _ => 0, fun _ => 0, fun _ => 0⟩, 0, 0, 0, 0⟩) (φ := φ8) (by rw [hφ8]; exact hst)) g1 c1
    · refine sym_cells (fun x hx => ?_) (stW_cells (φ := φ8) (G := G1) fun j hj => by rw [hφ8]; exact sw_w (y := y0) j hj) g2 c2
      obtain ⟨k, hk⟩ := List.getElem?_of_mem hx
      have hlt := (List.getElem?_eq_some_iff.1 hk).1
      rw [symsV_len] at hlt
      rw [symsV_get hlt] at hk
      exact ⟨_, (Option.some.inj hk).symm⟩
    · obtain ⟨c, e, fr, m1, m2, m3⟩ := hP1.roomF h0
      refine ⟨c, e, fr, by show w8.heap[G1.fB]? = _; rw [a68.old _ (get_lt m1)]; exact m1, m2, m3, fun k v hk => ?_⟩
      have := (hP1.ok.cf k v hk).2.2
      unfold World.cell? at this
      simp only [m1] at this
      show c[G1.fO + k]? = _
      revert this
      cases c[G1.fO + k]? with
      | none => intro h; cases h
      | some v => exact fun h => h
  have hI : OrI g s w0 w3 w4 w5 w6 100 0 act8 w8 := .sw (y := y) (i := 0) rfl (Nat.zero_le _) ⟨hz8, hd8, b1, b5, b6, b7, i8V b8⟩ hM
  refine ⟨⟨_, Nat.le_refl _, hI⟩, fun c' K' hc' => ?_⟩
  exact heads_ok (or_heads hs hg) 100 0 c' K' hc' 100 (Nat.le_refl _) act8 w8 ⟨_, Nat.le_refl _, hI⟩
end
theorem orp1_of : ∃ a1 H1 a2 H2 a3 H3, rcK Try.prog wkK Try.f4.ntmps or0 (listT [.sym 0, .sym 1] 0 .lf) ⟨E0, .lf, 0⟩ = some (.normal, a1, H1) ∧ rcK Try.prog wkK Try.f4.ntmps or1 a1 H1 = some (.normal, a2, H2) ∧ runOps Try.prog (feK Try.prog wkK) Try.f4.ntmps oo3 (oo3.take 1) a2 H2 = some (a3, H3) ∧ keepL a3 [(0, .sym 0), (1, .sym 1)] = true ∧ entB Try.prog (oo3[1]?) a3 H3 20 16 [.sym 0] = true := by
  have h := orq1T
  unfold orq1 at h
  split at h
  · rename_i a3 H3 hp
    split at h
    · rename_i hk
      unfold orp1 at hp
      split at hp
      · rename_i a1 H1 h1
        split at hp
        · rename_i a2 H2 h2
          exact ⟨a1, H1, a2, H2, a3, H3, h1, h2, hp, hk, h⟩
        · cases hp
      · cases hp
    · cases h
  · cases h
theorem orp2_of : ∃ a H, orp2 = some (a, H) ∧ keepL a [(1, .sym 1), (20, stV)] = true ∧ entB Try.prog (oo3[3]?) a H 22 16 [.sym 0] = true := by
  have h := orq2T
  unfold orq2 at h
  split at h
  · rename_i a H hp
    split at h
    · rename_i hk
      exact ⟨a, H, hp, hk, h⟩
    · cases h
  · cases h
def lrho (g s : PlIn) : Rho := ⟨fun _ => 0, fun k => if k = 0 then g.v else s.v, fun _ => 0, fun _ => 0, fun k => by show (if k = 0 then g.v else s.v).oneCell' = true; split <;> rfl, fun _ => [], fun _ _ h => by cases h⟩
def krho (g s : PlIn) (G : StG) : Rho := ⟨fun _ => 0, fun k => if k = 0 then g.v else if k = 1 then s.v else qval G k, fun _ => 0, fun _ => 0, fun k => by show (if k = 0 then g.v else if k = 1 then s.v else qval G k).oneCell' = true; split; rfl; split; rfl; exact qval_one _, fun _ => [], fun _ _ h => by cases h⟩
/-- Behind the first call. -/
theorem or_mid {w0 w3 w4 : World} {g s : PlIn} {G : StG} {act4 : Act} (h : g.OK w0) (hs : s.OK w0) (hz : act4.tmps.size = Try.f4.ntmps) (hd : act4.defers = []) (t0 : act4.tmps.getD 0 undef = g.v) (t1 : act4.tmps.getD 1 undef = s.v) (t20 : act4.tmps.getD 20 undef = G.v) (an : Anc w0 w4) (hP : PlS g w3 G w4) :
    wpOpsIn (Fr none) 0 Try.prog ⟨oo3⟩ (Exit.then (or4.wpIn (Fr none) 0 Try.prog (orQ w0)) (orQ w0)) [2, 3, 4, 5, 6, 7] act4 w4 := by
  letI X2 : Ext := XK Try.prog [] (fun _ => False)
  have hng := noNG_of noNG
  obtain ⟨a5, H5, s1, s2, s3⟩ := orp2_of
  obtain ⟨o2, po2, pg2, pd2, pe2⟩ := entB_of s3
  have hst : StRho G (krho g s G) := ⟨fun k hk => by
    show (if k = 0 then g.v else if k = 1 then s.v else qval G k) = _
    rw [if_neg (by omega), if_neg (by omega)]⟩
  have k4 : RSN w4 (· = krho g s G) Try.f4.ntmps (mkT Try.f4.ntmps [(0, .sym 0), (1, .sym 1), (20, stV)]) ⟨E0, .lf, 0⟩ act4 w4 := by
    have hl : ∀ q ∈ [(0, VV.sym 0), (1, VV.sym 1), (20, stV)], q.1 < top ∧ VR ⟨fun _ => none, krho g s G⟩ q.2 (act4.tmps.getD q.1 undef) := by
      intro q hq
      simp only [List.mem_cons, List.not_mem_nil, or_false] at hq
      rcases hq with rfl | rfl | rfl
      · exact ⟨show 0 < top by decide, by simp only [t0, VR]; rfl⟩
      · exact ⟨show 1 < top by decide, by simp only [t1, VR]; rfl⟩
      · exact ⟨show 20 < top by decide, by simp only [t20]; exact stV_VR hst⟩
    exact RSN.here hz nt4 hd hl (E0_ok (X := X2) (fun e he => by cases he) fun k => i64_0) (fun r => rfl) hno0
  rw [show ([2, 3, 4, 5, 6, 7] : List Nat) = List.range' (oo3.take 2).length ((oo3.drop 2).take 1).length ++ (3 :: [4, 5, 6, 7]) by kernel_rfl]
  refine opsN_sound hng (feK_ok hng mixed) nt4 (Nat.le_refl _) (pre := oo3.take 2) (l := (oo3.drop 2).take 1) (post := (oo3.drop 2).drop 1) (by rw [List.take_append_drop, List.take_append_drop]) s1 k4 fun act5 w5 hb5 k5 => ?_
  have an5 : Anc w4 w5 := k5.anc hno0
  have hg5 : g.OK w5 := h.later (an.trans an5).wk.size (an.trans an5).old
  have k5' := k5
  obtain ⟨φ5, hφ5, ht5, _, _, hz5, hd5⟩ := k5'
  have hq := keepL_VR ht5 s2
  have b1 := hq (1, .sym 1) (by simp)
  have b20 := hq (20, stV) (by simp)
  simp only [VR, hφ5] at b1
  have b20' := stV_inv (g := G) (by rw [hφ5]; exact hst) b20
  refine callN (Rf := fun en w' => ∃ G1 : StG, en = .returned G1.v ∧ PlS g w5 G1 w' ∧ Below w5.heap.size w5 w') hng po2 pg2 pe2 k5 (fun φ vs hφ hv => ?_) fun en w6 hR => ?_
  · have e : vs = [g.v] := by
      simp only [VRs, VR, hφ] at hv
      obtain ⟨_, _, rfl, rfl, rfl⟩ := hv
      rfl
    rw [e]
    exact placed_calls hg5
  obtain ⟨G1, rfl, hP1, hB6⟩ := hR
  refine ⟨_, rfl, ?_⟩
  rw [pd2]
  have a46 := an5.trans (anc_below hB6)
  have c0 : (act5.put (some 22) G1.v).tmps.size = Try.f4.ntmps := by rw [putN_size]; exact hz5
  have c1 : (act5.put (some 22) G1.v).defers = [] := by rw [putN_defers]; exact hd5
  have c2 : (act5.put (some 22) G1.v).tmps.getD 1 undef = s.v := by rw [putN_other (by decide)]; exact b1
  have c3 : (act5.put (some 22) G1.v).tmps.getD 20 undef = G.v := by rw [putN_other (by decide)]; exact b20'
  have c4 : (act5.put (some 22) G1.v).tmps.getD 22 undef = G1.v := putN_same (by rw [hz5]; exact Nat.le_of_ble_eq_true (by kernel_rfl))
  exact or_tail hs (fun k => h.x_fit k) c0 c1 c2 c3 c4 an hP a46 an5.wk.size hP1
set_option maxRecDepth 4000 in
/-- The law, over memory. -/
theorem order_calls {w0 : World} {g s : PlIn} (h : g.OK w0) (hs : s.OK w0) : Calls Try.prog 4 ⟨[g.v, s.v]⟩ w0 fun en w' => en = .returned (.bool true) ∧ Below w0.heap.size w0 w' := by
  letI X1 : Ext := XK Try.prog wkK (fun _ => False)
  have hng := noNG_of noNG
  obtain ⟨a1, H1, a2, H2, a3, H3, p1, p2, p3, pk, p4⟩ := orp1_of
  obtain ⟨o1, po1, pg1, pd1, pe1⟩ := entB_of p4
  refine calls_of_body (c := orbody) Try.func4 body4 ?_
  have hargs : VRs ⟨fun _ => none, lrho g s⟩ [.sym 0, .sym 1] [g.v, s.v] := by
    simp only [VRs, VR]
    exact ⟨_, _, rfl, rfl, _, _, rfl, rfl, rfl⟩
  generalize hact : ({ tmps := (⟨[g.v, s.v]⟩ : Array Value) ++ Array.replicate (Try.f4.ntmps - (⟨[g.v, s.v]⟩ : Array Value).size) undef, defers := [] } : Act) = act0
  have k0 : @RSN X1 w0 (· = lrho g s) Try.f4.ntmps (listT [.sym 0, .sym 1] 0 .lf) ⟨E0, .lf, 0⟩ act0 w0 := by
    subst hact
    exact ⟨⟨fun _ => none, lrho g s⟩, rfl, TR_args hargs (by decide) nt4, @HSim.startE X1 w0 (lrho g s) E0 (E0_ok (X := X1) wkK_ok fun k => i64_0) (fun r b h => by cases h) hno0, .refl w0, by simp, rfl⟩
  show orbody.wpIn (Fr none) 0 Try.prog (orQ w0) act0 w0
  rw [orshape]
  refine wpIn_seq (@codeN_sound X1 _ _ (hrcK hng mixed) _ _ _ _ nt4 (Nat.le_refl _) _ _ _ _ _ _ p1 _ _ k0 _ fun act1 w1 hb1 k1 => ?_)
  show (Code.seq or1 (.seq or3 or4)).wpIn (Fr none) 0 Try.prog (orQ w0) act1 w1
  refine wpIn_seq (@codeN_sound X1 _ _ (hrcK hng mixed) _ _ _ _ nt4 (Nat.le_refl _) _ _ _ _ _ _ p2 _ _ k1 _ fun act2 w2 hb2 k2 => ?_)
  show (Code.seq or3 or4).wpIn (Fr none) 0 Try.prog (orQ w0) act2 w2
  refine wpIn_seq ?_
  rw [or3_eq]
  refine wpIn_region ?_
  rw [show List.range (⟨oo3⟩ : Array Oper).size = List.range' ([] : List Oper).length (oo3.take 1).length ++ (1 :: [2, 3, 4, 5, 6, 7]) by kernel_rfl]
  refine @opsN_sound X1 _ hng _ (feK_ok hng mixed) _ _ _ _ nt4 (Nat.le_refl _) _ [] (oo3.take 1) (oo3.drop 1) (List.take_append_drop 1 oo3).symm _ _ _ _ p3 _ _ k2 _ _ fun act3 w3 hb3 k3 => ?_
  have an3 : Anc w0 w3 := @RSN.anc X1 _ _ _ _ _ _ _ k3 hno0
  have hg3 : g.OK w3 := h.later an3.wk.size an3.old
  have k3' := k3
  obtain ⟨φ3, hφ3, ht3, _, _, hz3, hd3⟩ := k3'
  have hq := keepL_VR ht3 pk
  have b0 := hq (0, .sym 0) (by simp)
  have b1 := hq (1, .sym 1) (by simp)
  simp only [VR, hφ3] at b0 b1
  refine callN (Rf := fun en w' => ∃ G : StG, en = .returned G.v ∧ PlS g w3 G w' ∧ Below w3.heap.size w3 w') hng po1 pg1 pe1 k3 (fun φ vs hφ hv => ?_) fun en w4 hR => ?_
  · have e : vs = [g.v] := by
      simp only [VRs, VR, hφ] at hv
      obtain ⟨_, _, rfl, rfl, rfl⟩ := hv
      rfl
    rw [e]
    exact placed_calls hg3
  obtain ⟨G, rfl, hP, hB4⟩ := hR
  refine ⟨_, rfl, ?_⟩
  rw [pd1]
  exact or_mid h hs (by rw [putN_size]; exact hz3) (by rw [putN_defers]; exact hd3) (by rw [putN_other (by decide)]; exact b0) (by rw [putN_other (by decide)]; exact b1) (putN_same (by rw [hz3]; exact Nat.le_of_ble_eq_true (by kernel_rfl))) (an3.trans (anc_below hB4)) hP
end
end Go.Proofs.Ytgbhmkdldfhamaa.order
