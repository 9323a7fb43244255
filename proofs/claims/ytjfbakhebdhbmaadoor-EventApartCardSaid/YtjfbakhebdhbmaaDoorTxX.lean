/-
  Events: both texts.
-/
import Derived.Test.YtjfbakhebdhbmaaDoorTxU
import Derived.Test.YtjfbakhebdhbmaaDoorTxB
namespace Go.Proofs.YtjfbakhebdhbmaaDoor.event
open Go.Ev Go.RowKit Go.Lib
set_option linter.unusedVariables false
noncomputable section
section
variable {w : World} {g : EvG}
def itKT : List KE := [⟨26, [.sint .i64 1], [], .sym 26⟩, ⟨26, [.sint .i64 2], [], .sym 28⟩, ⟨26, [.sint .i64 3], [], .sym 30⟩, ⟨26, [.sint .i64 4], [], .sym 32⟩, ⟨26, [.sint .i64 6], [], .sym 34⟩, ⟨26, [.sint .i64 7], [], .sym 36⟩, ⟨26, [.sint .i64 8], [], .sym 38⟩, ⟨26, [.sint .i64 9], [], .sym 40⟩, ⟨26, [.sint .i64 10], [], .sym 42⟩, ⟨26, [.sint .i64 20], [], .sym 44⟩, ⟨26, [.sint .i64 21], [], .sym 46⟩, ⟨26, [.sint .i64 22], [], .sym 48⟩, ⟨26, [.sint .i64 23], [], .sym 50⟩]
theorem ev_of {φ : Phi} {vs : List Value} {kv : VV} {c : Int} {s : List UInt8} {i : Nat} (hφ : φ.ρ = erho g c s i) (hk : ∀ u, VR φ kv u → u = .int .i64 g.k) (hv : VRs φ [evV kv] vs) : vs = [g.val] := by
  simp only [VRs, VR, evV, si, hφ] at hv
  obtain ⟨_, _, rfl, ⟨_, ⟨_, _, rfl, k0, _, _, rfl, rfl, _, _, rfl, rfl, _, _, rfl, rfl, _, _, rfl, rfl, _, _, rfl, rfl, _, _, rfl, rfl, _, _, rfl, rfl, _, _, rfl, rfl, _, _, rfl, rfl, _, _, rfl, rfl, _, _, rfl, rfl, _, _, rfl, rfl, rfl⟩, rfl⟩, rfl⟩ := hv
  rw [hk _ k0]
  rfl
theorem keChk {kv : VV} {s : List UInt8} {i : Nat} (h : g.OK w) (hk : ∀ φ : Phi, φ.ρ = erho g (chk g) s i → ∀ u, VR φ kv u → u = .int .i64 g.k) : KEok Tryd.prog (erho g (chk g) s i) w ⟨9, [evV kv], [], si 25⟩ := by
  intro φ vs w' hφ h1 h3 hv _
  rw [ev_of hφ (hk φ hφ) hv]
  refine (checks (h.later h1 h3)).1.mono ?_
  rintro en w'' ⟨rfl, hbl⟩
  exact ⟨_, rfl, by simp only [VR, si, hφ]; rfl, hbl⟩
theorem int_hk {k : Int} (hk : g.k = k) {s : List UInt8} {i : Nat} : ∀ φ : Phi, φ.ρ = erho g (chk g) s i → ∀ u, VR φ (.int .i64 k) u → u = .int .i64 g.k := fun φ _ u hu => by
  simp only [VR] at hu
  rw [hu, hk]
theorem sym_hk {s : List UInt8} {i : Nat} : ∀ φ : Phi, φ.ρ = erho g (chk g) s i → ∀ u, VR φ (si 24) u → u = .int .i64 g.k := fun φ hφ u hu => by
  simp only [VR, si, hφ] at hu
  exact hu
/-- A function of one number that tells a text. -/
theorem keNum {f : Nat} {ρ : Rho} {a b : Nat} {n : Int} {t : List UInt8} (ha : ρ.int a = n) (hb : ρ.val b = .string (bstr t)) (hc : ∀ w' : World, w.heap.size ≤ w'.heap.size → (∀ k, k < w.heap.size → w'.heap[k]? = w.heap[k]?) → Calls Tryd.prog f #[.int .i64 n] w' fun e w'' => e = .returned (.string (bstr t)) ∧ Below w'.heap.size w' w'') : KEok Tryd.prog ρ w ⟨f, [.sint .i64 a], [], .sym b⟩ := by
  intro φ vs w' hφ h1 h3 hv _
  obtain ⟨v, vl, rfl, hv1, rfl⟩ : ∃ v vl, vs = v :: vl ∧ VR φ (.sint .i64 a) v ∧ vl = [] := by
    simp only [VRs] at hv
    obtain ⟨v, vl, h1, h2, h3⟩ := hv
    exact ⟨v, vl, h1, h2, h3⟩
  simp only [VR, hφ, ha] at hv1
  subst hv1
  refine (hc w' h1 h3).mono ?_
  rintro en w'' ⟨rfl, hbl⟩
  exact ⟨_, rfl, by simp only [VR, hφ, hb], hbl⟩
theorem extI (hK : ItoaOK w) (h : g.OK w) {c : Int} {s : List UInt8} {i : Nat} : ∀ e ∈ itKT, KEok Tryd.prog (erho g c s i) w e := by
  intro e he
  simp only [itKT, List.mem_cons, List.not_mem_nil, or_false] at he
  rcases he with rfl | rfl | rfl | rfl | rfl | rfl | rfl | rfl | rfl | rfl | rfl | rfl | rfl
  · exact keNum rfl rfl (hK _ h.fa)
  · exact keNum rfl rfl (hK _ h.fb)
  · exact keNum rfl rfl (hK _ h.fn)
  · exact keNum rfl rfl (hK _ h.fm)
  · exact keNum rfl rfl (hK _ h.f6)
  · exact keNum rfl rfl (hK _ h.f7)
  · exact keNum rfl rfl (hK _ h.f8)
  · exact keNum rfl rfl (hK _ h.f9)
  · exact keNum rfl rfl (hK _ h.f10)
  · exact keNum rfl rfl (hK _ (h.ft 0).1)
  · exact keNum rfl rfl (hK _ (h.ft 0).2)
  · exact keNum rfl rfl (hK _ (h.ft 1).1)
  · exact keNum rfl rfl (hK _ (h.ft 1).2)
/-! ### what a text is -/
def isPc : VV → Bool
  | .string _ => true
  | .sym k => lowMem k [26, 28, 30, 32, 34, 36, 38, 40, 42, 44, 46, 48, 50, 52]
  | _ => false
where lowMem (k : Nat) : List Nat → Bool
  | [] => false
  | x :: l => match Nat.beq x k with
    | true => true
    | false => lowMem k l
def arePc : List VV → Bool
  | [] => true
  | p :: l => match isPc p with
    | true => arePc l
    | false => false
theorem lowMem_ok {k : Nat} : ∀ {l : List Nat}, isPc.lowMem k l = true → k ∈ l
  | [], h => by cases h
  | x :: l, h => by
    simp only [isPc.lowMem] at h
    split at h
    · rename_i e
      rw [Nat.eq_of_beq_eq_true e]
      exact List.mem_cons_self
    · exact List.mem_cons_of_mem _ (lowMem_ok h)
theorem pc_ok {c : Int} {s : List UInt8} {i : Nat} : ∀ {p : VV}, isPc p = true → ∃ b, pieceS (erho g c s i) p = some b := by
  intro p hp
  unfold isPc at hp
  split at hp
  · exact ⟨_, rfl⟩
  · rename_i k
    have := lowMem_ok hp
    simp only [List.mem_cons, List.not_mem_nil, or_false] at this
    rcases this with rfl | rfl | rfl | rfl | rfl | rfl | rfl | rfl | rfl | rfl | rfl | rfl | rfl | rfl <;> exact ⟨_, rfl⟩
  · cases hp
theorem pcs_ok {c : Int} {s : List UInt8} {i : Nat} : ∀ {l : List VV}, arePc l = true → ∃ b, textS (erho g c s i) l = some b
  | [], _ => ⟨_, rfl⟩
  | p :: l, h => by
    simp only [arePc] at h
    split at h
    · rename_i h1
      obtain ⟨b1, e1⟩ := pc_ok (g := g) (c := c) (s := s) (i := i) h1
      obtain ⟨b2, e2⟩ := pcs_ok (c := c) (s := s) (i := i) h
      exact ⟨_, textS_cons e1 e2⟩
    · cases h
def isTxt : Leaf → Bool
  | .ret (.cat ps) => arePc ps
  | _ => false
def bytesOf (ρ : Rho) : Leaf → ByteArray
  | .ret (.cat ps) => match textS ρ ps with
    | some b => b
    | none => ⟨#[]⟩
  | _ => ⟨#[]⟩
theorem txt_ok {c : Int} {s : List UInt8} {i : Nat} {o : Leaf} (h : isTxt o = true) : ∃ ps, o = .ret (.cat ps) ∧ textS (erho g c s i) ps = some (bytesOf (erho g c s i) o) := by
  unfold isTxt at h
  split at h
  · rename_i ps
    obtain ⟨b, hb⟩ := pcs_ok (g := g) (c := c) (s := s) (i := i) h
    refine ⟨ps, rfl, ?_⟩
    simp only [bytesOf, hb]
  · cases h
def tT : Int → TrX Leaf
  | 1 => xt1xt0
  | 2 => xt2xt0
  | 3 => xt3xt0
  | 4 => xt4xt0
  | 5 => xt5xt0
  | 6 => xt6xt0
  | 7 => xt7xt0
  | 8 => xt8xt0
  | 9 => xt9xt0
  | 10 => xt10xt0
  | 11 => xt11xt0
  | 12 => xt12xt0
  | 13 => xt13xt0
  | 14 => xt14xt0
  | 15 => xt15xt0
  | 16 => xt16xt0
  | 17 => xt17xt0
  | 18 => xt18xt0
  | 19 => xt19xt0
  | 20 => xt20xt0
  | 21 => xt21xt0
  | 22 => xt22xt0
  | 23 => xt23xt0
  | 24 => xt24xt0
  | 25 => xt25xt0
  | 26 => xt26xt0
  | 27 => xt27xt0
  | 28 => xt28xt0
  | 29 => xt29xt0
  | _ => .leaf (.ret (.cat []))
abbrev BT (g : EvG) (t : TrX Leaf) : ByteArray := bytesOf (erho g 0 [] 0) (valX t (eint g 0 [] 0))
def txtB (g : EvG) : ByteArray := if chk g = 0 then bytesOf (erho g 0 [] 0) (valX (tT g.k) (eint g 0 [] 0)) else ⟨#[63]⟩
abbrev TellsT (w : World) (g : EvG) (f : Nat) (t : ByteArray) : Prop := Calls Tryd.prog f #[g.val] w fun e w' => e = .returned (.string t) ∧ Below w.heap.size w w'
theorem text_of {KT : List KE} {K2 : List KE2} {C : List CutP} {fn : Func} {body : Code} {f : FuncId} {k : Int} {c : CutP} {t : TrX Leaf} (A : @Auto (extKA Tryd.prog KT K2) Tryd.prog (rcKA Tryd.prog KT K2 20000) fn body [] 1000 C (fun _ => none)) (hf : Tryd.prog.funcs[f]? = some fn) (hbody : fn.body = some body) (hnt : Nat.ble 1 fn.ntmps = true) (h : g.OK w)
    (ext : (∀ e ∈ KT, KEok Tryd.prog (erho g 0 [] 0) w e) ∧ ∀ e ∈ K2, KE2ok Tryd.prog (erho g 0 [] 0) w e) (hc : lget C 0 = some c) (e1 : c.lab = none) (e2 : c.a0 = listT [evV (.int .i64 k)] 0 .lf) (e3 : c.l = .lf) (e4 : c.nH = 0) (e5 : c.E = Tev) (hiv : IvOK c.iv (erho g 0 [] 0)) (hk : g.k = k) (e6 : c.tr = t) (hT : allL isTxt t = true) :
    TellsT w g f (bytesOf (erho g 0 [] 0) (valX t (eint g 0 [] 0))) := by
  letI : Ext := extKA Tryd.prog KT K2
  obtain ⟨ps, k1, k2⟩ := txt_ok (g := g) (c := 0) (s := []) (i := 0) (allL_ok (v := eint g 0 [] 0) hT)
  obtain ⟨n, hn⟩ := run_ret (C := C) (w0 := w) (p := 0) (ρ := erho g 0 [] 0) (res := .string (bytesOf (erho g 0 [] 0) (valX t (eint g 0 [] 0)))) (c := c) (r := .cat ps) hc (CutP.ok_of ext hiv fun iv fs h1 h2 φ hφ => by rw [e5]; exact tev_ok h h1 h2 φ hφ) (by rw [e6]; exact k1) (by simp only [sval, k2])
  exact auto_callsP A hf hbody (args := [evV (.int .i64 k)]) hnt hc e1 e2 e3 e4 (fun r b h => by cases h) (ev_args (int_kv hk)) hn
theorem ext_e (hK : ItoaOK w) (h : g.OK w) (hz : chk g = 0) {k : Int} (hk : g.k = k) : ∀ e ∈ (⟨9, [evV (.int .i64 k)], [], si 25⟩ :: itKT : List KE), KEok Tryd.prog (erho g 0 [] 0) w e := by
  intro e he
  rcases List.mem_cons.1 he with rfl | he
  · have := keChk (s := []) (i := 0) h (int_hk hk)
    rw [hz] at this
    exact this
  · exact extI hK h e he
theorem bad_keChk (h : g.OK w) : ∀ e ∈ xyKT, KEok Tryd.prog (erho g (chk g) [] 0) w e := by
  intro e he
  rcases List.mem_cons.1 he with rfl | he
  · exact keChk h sym_hk
  · cases he
theorem txt_bad (h : g.OK w) (hz : chk g ≠ 0) : TellsT w g 11 ⟨#[63]⟩ := by
  have hb := (checks h).2
  have hiv : IvOK xyiv0 (erho g (chk g) [] 0) := iv_xyiv0 h hb (by decide) (by omega) hz
  letI : Ext := extKA Tryd.prog xyKT xyK2
  obtain ⟨n, hn⟩ := run_ret (C := xyC) (w0 := w) (p := 0) (ρ := erho g (chk g) [] 0) (res := .string ⟨#[63]⟩) (c := xyc0) (r := .string ⟨#[63]⟩) rfl (CutP.ok_of ⟨bad_keChk h, (fun e he => by cases he)⟩ hiv fun iv fs h1 h2 φ hφ => tev_ok h h1 h2 φ hφ) rfl rfl
  exact auto_callsP xyauto Tryd.func11 (by kernel_rfl) (args := [evV (si 24)]) (by kernel_rfl) (c := xyc0) rfl rfl rfl rfl rfl (fun r b h => by cases h) (ev_args sym_kv) hn
theorem iv_pl (h : g.OK w) (G : Good g) (h1 : g.k ≠ 26) (h2 : isItem g.k = false) : IvOK xt1xiv0 (erho g 0 [] 0) := iv_xt1xiv0 h (by decide) (by decide) (by omega) (G.l26 h1) (G.tit h2) rfl
theorem txt_e1 (hK : ItoaOK w) (h : g.OK w) (hz : chk g = 0) (hk : g.k = 1) : TellsT w g 11 (BT g xt1xt0) := by
  have G := good_of h hz
  exact text_of (k := 1) xt1xauto Tryd.func11 (by kernel_rfl) (by kernel_rfl) h ⟨ext_e hK h hz hk, fun e he => findOK _ _ e he⟩ (c := xt1xc0) rfl rfl rfl rfl rfl rfl (iv_pl h G (by rw [hk]; decide) (by rw [hk]; rfl)) hk rfl (by kernel_rfl)
theorem txt_e2 (hK : ItoaOK w) (h : g.OK w) (hz : chk g = 0) (hk : g.k = 2) : TellsT w g 11 (BT g xt2xt0) := by
  have G := good_of h hz
  exact text_of (k := 2) xt2xauto Tryd.func11 (by kernel_rfl) (by kernel_rfl) h ⟨ext_e hK h hz hk, fun e he => findOK _ _ e he⟩ (c := xt2xc0) rfl rfl rfl rfl rfl rfl (iv_pl h G (by rw [hk]; decide) (by rw [hk]; rfl)) hk rfl (by kernel_rfl)
theorem txt_e3 (hK : ItoaOK w) (h : g.OK w) (hz : chk g = 0) (hk : g.k = 3) : TellsT w g 11 (BT g xt3xt0) := by
  have G := good_of h hz
  exact text_of (k := 3) xt3xauto Tryd.func11 (by kernel_rfl) (by kernel_rfl) h ⟨ext_e hK h hz hk, fun e he => findOK _ _ e he⟩ (c := xt3xc0) rfl rfl rfl rfl rfl rfl (iv_pl h G (by rw [hk]; decide) (by rw [hk]; rfl)) hk rfl (by kernel_rfl)
theorem txt_e4 (hK : ItoaOK w) (h : g.OK w) (hz : chk g = 0) (hk : g.k = 4) : TellsT w g 11 (BT g xt4xt0) := by
  have G := good_of h hz
  exact text_of (k := 4) xt4xauto Tryd.func11 (by kernel_rfl) (by kernel_rfl) h ⟨ext_e hK h hz hk, fun e he => findOK _ _ e he⟩ (c := xt4xc0) rfl rfl rfl rfl rfl rfl (iv_pl h G (by rw [hk]; decide) (by rw [hk]; rfl)) hk rfl (by kernel_rfl)
theorem txt_e5 (hK : ItoaOK w) (h : g.OK w) (hz : chk g = 0) (hk : g.k = 5) : TellsT w g 11 (BT g xt5xt0) := by
  have G := good_of h hz
  exact text_of (k := 5) xt5xauto Tryd.func11 (by kernel_rfl) (by kernel_rfl) h ⟨ext_e hK h hz hk, fun e he => findOK _ _ e he⟩ (c := xt5xc0) rfl rfl rfl rfl rfl rfl (iv_pl h G (by rw [hk]; decide) (by rw [hk]; rfl)) hk rfl (by kernel_rfl)
theorem txt_e6 (hK : ItoaOK w) (h : g.OK w) (hz : chk g = 0) (hk : g.k = 6) : TellsT w g 11 (BT g xt6xt0) := by
  have G := good_of h hz
  exact text_of (k := 6) xt6xauto Tryd.func11 (by kernel_rfl) (by kernel_rfl) h ⟨ext_e hK h hz hk, fun e he => findOK _ _ e he⟩ (c := xt6xc0) rfl rfl rfl rfl rfl rfl (iv_pl h G (by rw [hk]; decide) (by rw [hk]; rfl)) hk rfl (by kernel_rfl)
theorem txt_e7 (hK : ItoaOK w) (h : g.OK w) (hz : chk g = 0) (hk : g.k = 7) : TellsT w g 11 (BT g xt7xt0) := by
  have G := good_of h hz
  exact text_of (k := 7) xt7xauto Tryd.func11 (by kernel_rfl) (by kernel_rfl) h ⟨ext_e hK h hz hk, fun e he => findOK _ _ e he⟩ (c := xt7xc0) rfl rfl rfl rfl rfl rfl (iv_pl h G (by rw [hk]; decide) (by rw [hk]; rfl)) hk rfl (by kernel_rfl)
theorem txt_e8 (hK : ItoaOK w) (h : g.OK w) (hz : chk g = 0) (hk : g.k = 8) : TellsT w g 11 (BT g xt8xt0) := by
  have G := good_of h hz
  exact text_of (k := 8) xt8xauto Tryd.func11 (by kernel_rfl) (by kernel_rfl) h ⟨ext_e hK h hz hk, fun e he => findOK _ _ e he⟩ (c := xt8xc0) rfl rfl rfl rfl rfl rfl (iv_pl h G (by rw [hk]; decide) (by rw [hk]; rfl)) hk rfl (by kernel_rfl)
theorem txt_e9 (hK : ItoaOK w) (h : g.OK w) (hz : chk g = 0) (hk : g.k = 9) : TellsT w g 11 (BT g xt9xt0) := by
  have G := good_of h hz
  exact text_of (k := 9) xt9xauto Tryd.func11 (by kernel_rfl) (by kernel_rfl) h ⟨ext_e hK h hz hk, fun e he => findOK _ _ e he⟩ (c := xt9xc0) rfl rfl rfl rfl rfl rfl (iv_pl h G (by rw [hk]; decide) (by rw [hk]; rfl)) hk rfl (by kernel_rfl)
theorem txt_e10 (hK : ItoaOK w) (h : g.OK w) (hz : chk g = 0) (hk : g.k = 10) : TellsT w g 11 (BT g xt10xt0) := by
  have G := good_of h hz
  exact text_of (k := 10) xt10xauto Tryd.func11 (by kernel_rfl) (by kernel_rfl) h ⟨ext_e hK h hz hk, fun e he => findOK _ _ e he⟩ (c := xt10xc0) rfl rfl rfl rfl rfl rfl (iv_pl h G (by rw [hk]; decide) (by rw [hk]; rfl)) hk rfl (by kernel_rfl)
theorem txt_e11 (hK : ItoaOK w) (h : g.OK w) (hz : chk g = 0) (hk : g.k = 11) : TellsT w g 11 (BT g xt11xt0) := by
  have G := good_of h hz
  exact text_of (k := 11) xt11xauto Tryd.func11 (by kernel_rfl) (by kernel_rfl) h ⟨ext_e hK h hz hk, fun e he => findOK _ _ e he⟩ (c := xt11xc0) rfl rfl rfl rfl rfl rfl (iv_pl h G (by rw [hk]; decide) (by rw [hk]; rfl)) hk rfl (by kernel_rfl)
theorem txt_e12 (hK : ItoaOK w) (h : g.OK w) (hz : chk g = 0) (hk : g.k = 12) : TellsT w g 11 (BT g xt12xt0) := by
  have G := good_of h hz
  exact text_of (k := 12) xt12xauto Tryd.func11 (by kernel_rfl) (by kernel_rfl) h ⟨ext_e hK h hz hk, fun e he => findOK _ _ e he⟩ (c := xt12xc0) rfl rfl rfl rfl rfl rfl (iv_pl h G (by rw [hk]; decide) (by rw [hk]; rfl)) hk rfl (by kernel_rfl)
theorem txt_e13 (hK : ItoaOK w) (h : g.OK w) (hz : chk g = 0) (hk : g.k = 13) : TellsT w g 11 (BT g xt13xt0) := by
  have G := good_of h hz
  exact text_of (k := 13) xt13xauto Tryd.func11 (by kernel_rfl) (by kernel_rfl) h ⟨ext_e hK h hz hk, fun e he => findOK _ _ e he⟩ (c := xt13xc0) rfl rfl rfl rfl rfl rfl (iv_pl h G (by rw [hk]; decide) (by rw [hk]; rfl)) hk rfl (by kernel_rfl)
theorem txt_e14 (hK : ItoaOK w) (h : g.OK w) (hz : chk g = 0) (hk : g.k = 14) : TellsT w g 11 (BT g xt14xt0) := by
  have G := good_of h hz
  exact text_of (k := 14) xt14xauto Tryd.func11 (by kernel_rfl) (by kernel_rfl) h ⟨ext_e hK h hz hk, fun e he => findOK _ _ e he⟩ (c := xt14xc0) rfl rfl rfl rfl rfl rfl (iv_pl h G (by rw [hk]; decide) (by rw [hk]; rfl)) hk rfl (by kernel_rfl)
theorem txt_e15 (hK : ItoaOK w) (h : g.OK w) (hz : chk g = 0) (hk : g.k = 15) : TellsT w g 11 (BT g xt15xt0) := by
  have G := good_of h hz
  exact text_of (k := 15) xt15xauto Tryd.func11 (by kernel_rfl) (by kernel_rfl) h ⟨ext_e hK h hz hk, fun e he => findOK _ _ e he⟩ (c := xt15xc0) rfl rfl rfl rfl rfl rfl (iv_xt15xiv0 h (by decide) (by decide) (by omega) (G.l26 (by rw [hk]; decide)) G.t2 rfl) hk rfl (by kernel_rfl)
theorem txt_e16 (hK : ItoaOK w) (h : g.OK w) (hz : chk g = 0) (hk : g.k = 16) : TellsT w g 11 (BT g xt16xt0) := by
  have G := good_of h hz
  exact text_of (k := 16) xt16xauto Tryd.func11 (by kernel_rfl) (by kernel_rfl) h ⟨ext_e hK h hz hk, fun e he => findOK _ _ e he⟩ (c := xt16xc0) rfl rfl rfl rfl rfl rfl (iv_pl h G (by rw [hk]; decide) (by rw [hk]; rfl)) hk rfl (by kernel_rfl)
theorem txt_e17 (hK : ItoaOK w) (h : g.OK w) (hz : chk g = 0) (hk : g.k = 17) : TellsT w g 11 (BT g xt17xt0) := by
  have G := good_of h hz
  exact text_of (k := 17) xt17xauto Tryd.func11 (by kernel_rfl) (by kernel_rfl) h ⟨ext_e hK h hz hk, fun e he => findOK _ _ e he⟩ (c := xt17xc0) rfl rfl rfl rfl rfl rfl (iv_xt15xiv0 h (by decide) (by decide) (by omega) (G.l26 (by rw [hk]; decide)) G.t2 rfl) hk rfl (by kernel_rfl)
theorem txt_e18 (hK : ItoaOK w) (h : g.OK w) (hz : chk g = 0) (hk : g.k = 18) : TellsT w g 11 (BT g xt18xt0) := by
  have G := good_of h hz
  exact text_of (k := 18) xt18xauto Tryd.func11 (by kernel_rfl) (by kernel_rfl) h ⟨ext_e hK h hz hk, fun e he => findOK _ _ e he⟩ (c := xt18xc0) rfl rfl rfl rfl rfl rfl (iv_pl h G (by rw [hk]; decide) (by rw [hk]; rfl)) hk rfl (by kernel_rfl)
theorem txt_e19 (hK : ItoaOK w) (h : g.OK w) (hz : chk g = 0) (hk : g.k = 19) : TellsT w g 11 (BT g xt19xt0) := by
  have G := good_of h hz
  exact text_of (k := 19) xt19xauto Tryd.func11 (by kernel_rfl) (by kernel_rfl) h ⟨ext_e hK h hz hk, fun e he => findOK _ _ e he⟩ (c := xt19xc0) rfl rfl rfl rfl rfl rfl (iv_pl h G (by rw [hk]; decide) (by rw [hk]; rfl)) hk rfl (by kernel_rfl)
theorem txt_e20 (hK : ItoaOK w) (h : g.OK w) (hz : chk g = 0) (hk : g.k = 20) : TellsT w g 11 (BT g xt20xt0) := by
  have G := good_of h hz
  exact text_of (k := 20) xt20xauto Tryd.func11 (by kernel_rfl) (by kernel_rfl) h ⟨ext_e hK h hz hk, fun e he => findOK _ _ e he⟩ (c := xt20xc0) rfl rfl rfl rfl rfl rfl (iv_pl h G (by rw [hk]; decide) (by rw [hk]; rfl)) hk rfl (by kernel_rfl)
theorem txt_e21 (hK : ItoaOK w) (h : g.OK w) (hz : chk g = 0) (hk : g.k = 21) : TellsT w g 11 (BT g xt21xt0) := by
  have G := good_of h hz
  exact text_of (k := 21) xt21xauto Tryd.func11 (by kernel_rfl) (by kernel_rfl) h ⟨ext_e hK h hz hk, fun e he => findOK _ _ e he⟩ (c := xt21xc0) rfl rfl rfl rfl rfl rfl (iv_pl h G (by rw [hk]; decide) (by rw [hk]; rfl)) hk rfl (by kernel_rfl)
theorem txt_e22 (hK : ItoaOK w) (h : g.OK w) (hz : chk g = 0) (hk : g.k = 22) : TellsT w g 11 (BT g xt22xt0) := by
  have G := good_of h hz
  exact text_of (k := 22) xt22xauto Tryd.func11 (by kernel_rfl) (by kernel_rfl) h ⟨ext_e hK h hz hk, fun e he => findOK _ _ e he⟩ (c := xt22xc0) rfl rfl rfl rfl rfl rfl (iv_pl h G (by rw [hk]; decide) (by rw [hk]; rfl)) hk rfl (by kernel_rfl)
theorem txt_e23 (hK : ItoaOK w) (h : g.OK w) (hz : chk g = 0) (hk : g.k = 23) : TellsT w g 11 (BT g xt23xt0) := by
  have G := good_of h hz
  exact text_of (k := 23) xt23xauto Tryd.func11 (by kernel_rfl) (by kernel_rfl) h ⟨ext_e hK h hz hk, fun e he => findOK _ _ e he⟩ (c := xt23xc0) rfl rfl rfl rfl rfl rfl (iv_pl h G (by rw [hk]; decide) (by rw [hk]; rfl)) hk rfl (by kernel_rfl)
theorem txt_e24 (hK : ItoaOK w) (h : g.OK w) (hz : chk g = 0) (hk : g.k = 24) : TellsT w g 11 (BT g xt24xt0) := by
  have G := good_of h hz
  exact text_of (k := 24) xt24xauto Tryd.func11 (by kernel_rfl) (by kernel_rfl) h ⟨ext_e hK h hz hk, fun e he => findOK _ _ e he⟩ (c := xt24xc0) rfl rfl rfl rfl rfl rfl (iv_pl h G (by rw [hk]; decide) (by rw [hk]; rfl)) hk rfl (by kernel_rfl)
theorem txt_e25 (hK : ItoaOK w) (h : g.OK w) (hz : chk g = 0) (hk : g.k = 25) : TellsT w g 11 (BT g xt25xt0) := by
  have G := good_of h hz
  exact text_of (k := 25) xt25xauto Tryd.func11 (by kernel_rfl) (by kernel_rfl) h ⟨ext_e hK h hz hk, fun e he => findOK _ _ e he⟩ (c := xt25xc0) rfl rfl rfl rfl rfl rfl (iv_pl h G (by rw [hk]; decide) (by rw [hk]; rfl)) hk rfl (by kernel_rfl)
theorem txt_e26 (hK : ItoaOK w) (h : g.OK w) (hz : chk g = 0) (hk : g.k = 26) : TellsT w g 11 (BT g xt26xt0) := by
  have G := good_of h hz
  exact text_of (k := 26) xt26xauto Tryd.func11 (by kernel_rfl) (by kernel_rfl) h ⟨ext_e hK h hz hk, fun e he => by
      rcases List.mem_append.1 he with he | he
      · exact findOK _ _ e he
      · exact putOK hK h e he⟩ (c := xt26xc0) rfl rfl rfl rfl rfl rfl (iv_xt26xiv0 h (by decide) (by decide) (by omega) G.l250 (G.tit (by rw [hk]; rfl)) rfl) hk rfl (by kernel_rfl)
theorem txt_e27 (hK : ItoaOK w) (h : g.OK w) (hz : chk g = 0) (hk : g.k = 27) : TellsT w g 11 (BT g xt27xt0) := by
  have G := good_of h hz
  exact text_of (k := 27) xt27xauto Tryd.func11 (by kernel_rfl) (by kernel_rfl) h ⟨ext_e hK h hz hk, fun e he => findOK _ _ e he⟩ (c := xt27xc0) rfl rfl rfl rfl rfl rfl (iv_pl h G (by rw [hk]; decide) (by rw [hk]; rfl)) hk rfl (by kernel_rfl)
theorem txt_e28 (hK : ItoaOK w) (h : g.OK w) (hz : chk g = 0) (hk : g.k = 28) : TellsT w g 11 (BT g xt28xt0) := by
  have G := good_of h hz
  exact text_of (k := 28) xt28xauto Tryd.func11 (by kernel_rfl) (by kernel_rfl) h ⟨ext_e hK h hz hk, fun e he => findOK _ _ e he⟩ (c := xt28xc0) rfl rfl rfl rfl rfl rfl (iv_xt15xiv0 h (by decide) (by decide) (by omega) (G.l26 (by rw [hk]; decide)) G.t2 rfl) hk rfl (by kernel_rfl)
theorem txt_e29 (hK : ItoaOK w) (h : g.OK w) (hz : chk g = 0) (hk : g.k = 29) : TellsT w g 11 (BT g xt29xt0) := by
  have G := good_of h hz
  exact text_of (k := 29) xt29xauto Tryd.func11 (by kernel_rfl) (by kernel_rfl) h ⟨ext_e hK h hz hk, fun e he => findOK _ _ e he⟩ (c := xt29xc0) rfl rfl rfl rfl rfl rfl (iv_pl h G (by rw [hk]; decide) (by rw [hk]; rfl)) hk rfl (by kernel_rfl)
theorem texts (hK : ItoaOK w) (h : g.OK w) : TellsT w g 11 (txtB g) := by
  unfold txtB
  by_cases hz : chk g = 0
  · rw [if_pos hz]
    have G := good_of h hz
    have h1 := G.k1
    have h2 := G.k2
    rcases (show g.k = 1 ∨ g.k = 2 ∨ g.k = 3 ∨ g.k = 4 ∨ g.k = 5 ∨ g.k = 6 ∨ g.k = 7 ∨ g.k = 8 ∨ g.k = 9 ∨ g.k = 10 ∨ g.k = 11 ∨ g.k = 12 ∨ g.k = 13 ∨ g.k = 14 ∨ g.k = 15 ∨ g.k = 16 ∨ g.k = 17 ∨ g.k = 18 ∨ g.k = 19 ∨ g.k = 20 ∨ g.k = 21 ∨ g.k = 22 ∨ g.k = 23 ∨ g.k = 24 ∨ g.k = 25 ∨ g.k = 26 ∨ g.k = 27 ∨ g.k = 28 ∨ g.k = 29 by omega) with hk | hk | hk | hk | hk | hk | hk | hk | hk | hk | hk | hk | hk | hk | hk | hk | hk | hk | hk | hk | hk | hk | hk | hk | hk | hk | hk | hk | hk
    · rw [show tT g.k = xt1xt0 by rw [hk]; rfl]; exact txt_e1 hK h hz hk
    · rw [show tT g.k = xt2xt0 by rw [hk]; rfl]; exact txt_e2 hK h hz hk
    · rw [show tT g.k = xt3xt0 by rw [hk]; rfl]; exact txt_e3 hK h hz hk
    · rw [show tT g.k = xt4xt0 by rw [hk]; rfl]; exact txt_e4 hK h hz hk
    · rw [show tT g.k = xt5xt0 by rw [hk]; rfl]; exact txt_e5 hK h hz hk
    · rw [show tT g.k = xt6xt0 by rw [hk]; rfl]; exact txt_e6 hK h hz hk
    · rw [show tT g.k = xt7xt0 by rw [hk]; rfl]; exact txt_e7 hK h hz hk
    · rw [show tT g.k = xt8xt0 by rw [hk]; rfl]; exact txt_e8 hK h hz hk
    · rw [show tT g.k = xt9xt0 by rw [hk]; rfl]; exact txt_e9 hK h hz hk
    · rw [show tT g.k = xt10xt0 by rw [hk]; rfl]; exact txt_e10 hK h hz hk
    · rw [show tT g.k = xt11xt0 by rw [hk]; rfl]; exact txt_e11 hK h hz hk
    · rw [show tT g.k = xt12xt0 by rw [hk]; rfl]; exact txt_e12 hK h hz hk
    · rw [show tT g.k = xt13xt0 by rw [hk]; rfl]; exact txt_e13 hK h hz hk
    · rw [show tT g.k = xt14xt0 by rw [hk]; rfl]; exact txt_e14 hK h hz hk
    · rw [show tT g.k = xt15xt0 by rw [hk]; rfl]; exact txt_e15 hK h hz hk
    · rw [show tT g.k = xt16xt0 by rw [hk]; rfl]; exact txt_e16 hK h hz hk
    · rw [show tT g.k = xt17xt0 by rw [hk]; rfl]; exact txt_e17 hK h hz hk
    · rw [show tT g.k = xt18xt0 by rw [hk]; rfl]; exact txt_e18 hK h hz hk
    · rw [show tT g.k = xt19xt0 by rw [hk]; rfl]; exact txt_e19 hK h hz hk
    · rw [show tT g.k = xt20xt0 by rw [hk]; rfl]; exact txt_e20 hK h hz hk
    · rw [show tT g.k = xt21xt0 by rw [hk]; rfl]; exact txt_e21 hK h hz hk
    · rw [show tT g.k = xt22xt0 by rw [hk]; rfl]; exact txt_e22 hK h hz hk
    · rw [show tT g.k = xt23xt0 by rw [hk]; rfl]; exact txt_e23 hK h hz hk
    · rw [show tT g.k = xt24xt0 by rw [hk]; rfl]; exact txt_e24 hK h hz hk
    · rw [show tT g.k = xt25xt0 by rw [hk]; rfl]; exact txt_e25 hK h hz hk
    · rw [show tT g.k = xt26xt0 by rw [hk]; rfl]; exact txt_e26 hK h hz hk
    · rw [show tT g.k = xt27xt0 by rw [hk]; rfl]; exact txt_e27 hK h hz hk
    · rw [show tT g.k = xt28xt0 by rw [hk]; rfl]; exact txt_e28 hK h hz hk
    · rw [show tT g.k = xt29xt0 by rw [hk]; rfl]; exact txt_e29 hK h hz hk
  · rw [if_neg hz]
    exact txt_bad h hz
end
end
end Go.Proofs.YtjfbakhebdhbmaaDoor.event
