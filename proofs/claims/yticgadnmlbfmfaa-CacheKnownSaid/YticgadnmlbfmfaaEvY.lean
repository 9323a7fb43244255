/- Engine, part Y: calls by states; parts of code by states. -/
import Derived.Test.YticgadnmlbfmfaaEvX
namespace Go.Ev
noncomputable section
open Go.RowKit
theorem leaves_marksW [Ext] {P : Program} {fn : Func} {tmps : Array Value} {Rr : Ending → World → Prop} {b : Nat} {w0 : World} {φ : Phi} {H : VH} (hfin : ∀ w, HSim w0 φ H w → WK w0 w → ∃ v, (results fn tmps).run P w = .ok v w ∧ Rr (.returned v) w) : ∀ (rs : List Nat) (w : World), rs.Nodup → HSim w0 φ H w → WK w0 w →
    (∀ r ∈ rs, b ≤ r ∧ w.heap[r]? = some (.deferred (some [])) ∧ (∀ i inf, φ i = some inf → inf.blk ≠ r) ∧ w0.heap.size ≤ r ∧ H.base.blk r = none) → LeavesInM Fence.wide 0 P fn tmps Rr (rs.map markOf) .returning w
  | [], w, _, hs, st, _ => hfin w hs st
  | r :: rs, w, hnd, hs, st, hr => by
    obtain ⟨k1, k2, k3, k4, k5⟩ := hr r (by simp)
    obtain ⟨g1, g2⟩ := run_setObj (P := P) (o₁ := .deferred none) k2 (by simp)
    refine ⟨by simp, .inl ⟨r, _, rfl, ?_, leaves_marksW (b := b) hfin rs _ (List.nodup_cons.1 hnd).2 (hs.apart g2 k3 k4 k5) (st.trans g2.wk) fun x hx => ?_⟩⟩
    · have hge : (getObj r).run P w = .ok (.deferred (some [])) w := by simp [getObj, Sem.run, k2]
      simp [Instr.takeDeferred, hge, g1]
    · obtain ⟨j1, j2, j3, j4, j5⟩ := hr x (List.mem_cons_of_mem _ hx)
      have hxr : x ≠ r := fun e => (List.nodup_cons.1 hnd).1 (e ▸ hx)
      exact ⟨j1, by rw [g2.there x hxr]; exact j2, j3, j4, j5⟩
theorem TR_args {φ : Phi} {args : List VV} {args' : List Value} {nt : Nat} (ha : VRs φ args args') (h1 : args.length ≤ nt) (h2 : nt ≤ top) : TR φ (listT args 0 .lf) ((⟨args'⟩ : Array Value) ++ Array.replicate (nt - (⟨args'⟩ : Array Value).size) undef) := by
  have hl := VRs_length _ _ ha
  intro t
  rw [listT_get args 0 .lf t (by omega)]
  simp only [Array.getD_eq_getD_getElem?, Array.getElem?_append, List.size_toArray]
  by_cases hk : 0 ≤ t ∧ t < 0 + args.length
  · rw [if_pos hk, if_pos (by omega)]
    obtain ⟨x, hx⟩ : ∃ x, args[t - 0]? = some x := ⟨args[t]'(by omega), by simp [show t < args.length by omega]⟩
    obtain ⟨y, hy1, hy2⟩ := VRs_get _ _ ha _ x hx
    rw [hx]
    simp only [Option.getD_some]
    rw [show ((⟨args'⟩ : Array Value)[t]?) = some y by simpa using hy1]
    exact hy2
  · rw [if_neg hk, if_neg (by omega)]
    have : (Array.replicate (nt - args'.length) undef)[t - args'.length]?.getD undef = undef := by
      rw [Array.getElem?_replicate]
      split <;> rfl
    rw [this]
    exact VR_undef φ
/-- Where a function ends: a state, and what it tells there. -/
def Ends [Ext] (P : Program) (fn : Func) (w0 : World) (res : Value) (e : Exit) (act : Act) (w : World) : Prop :=
  e = .ret ∧ ∃ (R : Rho → Prop) (a : VT) (H : VH) (r : VV), RS w0 R fn.ntmps a H act w ∧ resL P a H fn.results.toList = some [r] ∧ ∀ (φ : Phi) (v : Value), R φ.ρ → VR φ r v → v = res
theorem rs_calls [Ext] {P : Program} {f : FuncId} {fn : Func} {c : Code} {args : List VV} {args' : List Value} {w0 : World} {ρ : Rho} {E : Env} {res : Value} (hf : P.funcs[f]? = some fn) (hc : fn.body = some c) (h1 : Nat.ble args.length fn.ntmps = true) (h2 : Nat.ble fn.ntmps top = true)
    (hE : EnvOK E ⟨fun _ => none, ρ⟩ w0) (hb : ∀ r b, E.blk r = some b → ∃ o, w0.heap[r]? = some o ∧ BOR b o) (ha : VRs ⟨fun _ => none, ρ⟩ args args')
    (h : ∀ act, RS w0 (· = ρ) fn.ntmps (listT args 0 .lf) ⟨E, .lf, 0⟩ act w0 → c.wpIn (Fr none) 0 P (Ends P fn w0 res) act w0) : Calls P f ⟨args'⟩ w0 fun e w' => e = .returned res ∧ Below w0.heap.size w0 w' := by
  have h1' : args.length ≤ fn.ntmps := Nat.le_of_ble_eq_true h1
  have h2' : fn.ntmps ≤ top := Nat.le_of_ble_eq_true h2
  have hl := VRs_length _ _ ha
  have ht := TR_args ha h1' h2'
  have k := h { tmps := (⟨args'⟩ : Array Value) ++ Array.replicate (fn.ntmps - (⟨args'⟩ : Array Value).size) undef, defers := [] } ⟨⟨fun _ => none, ρ⟩, rfl, ht, HSim.startE hE hb, .refl w0, by simp; omega, .nil⟩
  refine (callsIn_wide (n := 0)).1 (callsIn_of_wp_marks hf hc trivial (wpIn_mono k ?_))
  rintro e act' w' ⟨rfl, R, a, H, r, ⟨φ, k1, k2, k3, k4, k5, rs, m1, m2, m3⟩, hr, hv⟩
  show LeavesInM Fence.wide 0 P fn act'.tmps _ act'.defers .returning w'
  rw [m1]
  refine leaves_marksW (b := w0.heap.size) (w0 := w0) (φ := φ) (H := H) (fun w'' hs'' st'' => ?_) rs w' m2 k3 k4 m3
  obtain ⟨v', r1, r2⟩ := results_sound (P := P) k2 hs'' hr
  exact ⟨v', r1, by rw [hv φ v' k1 r2], st''.os, st''.tape, st''.output, st''.size, hs''.old⟩
section
variable {P : Program} {nt : Nat}
theorem CS.of_run [Ext] (hng : NoNG P) (hm : P.follows .mixedOrders = true) {kn : KN} (hK : KnOK P kn) {n : Nat} {c : Code} {a a₁ : VT} {H H₁ : VH} {x : VX} (h : (evN P (drawRun P) kn n).1.1 nt c a H = some (x, a₁, H₁)) : CS P nt c a H x a₁ H₁ :=
  fun hnt w0 φ act w ht hs hn b hbs hd => (evN_sound hng (fun _ h => drawRun_sound hng hm h) hK n).1.2 w0 nt c a H x a₁ H₁ h hnt none rfl φ act w ht hs hn b hbs hd
/-- The first parts of a code, by states. -/
theorem RS.spine [Ext] {rc : CE} (hrc : CEok P (· = none) rc) {w0 : World} {R : Rho → Prop} {sz : Nat} (hnt : nt ≤ top) (hsz : nt ≤ sz) {Q : Exit → Act → World → Prop} : ∀ {k : Nat} {c : Code} {a : VT} {H : VH} {a₁ : VT} {H₁ : VH}, spineE rc nt k c a H = some (a₁, H₁) →
    ∀ {act : Act} {w : World}, RS w0 R sz a H act w → (∀ act' w', H₁.base = H.base → RS w0 R sz a₁ H₁ act' w' → (dropSeq k c).wpIn (Fr none) 0 P Q act' w') → c.wpIn (Fr none) 0 P Q act w
  | 0, c, a, H, a₁, H₁, h, act, w, k1, k2 => by
    simp only [spineE, Option.some.injEq, Prod.mk.injEq] at h
    obtain ⟨rfl, rfl⟩ := h
    exact k2 act w rfl k1
  | k + 1, c, a, H, a₁, H₁, h, act, w, k1, k2 => by
    cases c with
    | seq y z =>
      simp only [spineE] at h
      split at h
      · rename_i a' H' hy
        refine wpIn_seq ?_
        refine wpIn_mono (RS.cs (fun hnt w0 φ act w ht hs hn b hbs hd => hrc w0 nt y a H .normal a' H' hy hnt none rfl φ act w ht hs hn b hbs hd) hnt hsz k1) ?_
        rintro e' act' w' ⟨rfl, q1, q2⟩
        exact RS.spine hrc hnt hsz h q2 fun act'' w'' e q => k2 act'' w'' (e.trans q1) q
      · cases h
    | _ => simp [spineE] at h
/-- A block that is left. -/
theorem wp_blockAt {c : Code} {id : Nat} (h : isBlock id c = true) {Q : Exit → Act → World → Prop} {act : Act} {w : World} (k : (blockC c).wpIn (Fr none) 0 P (Exit.inBlock id Q) act w) : c.wpIn (Fr none) 0 P Q act w := by
  cases c <;> simp [isBlock] at h
  subst h
  exact wpIn_block k
theorem wp_seqAt {c : Code} (h : isSeq c = true) {Q : Exit → Act → World → Prop} {act : Act} {w : World} (k : (seqL c).wpIn (Fr none) 0 P (Exit.then ((dropSeq 1 c).wpIn (Fr none) 0 P Q) Q) act w) : c.wpIn (Fr none) 0 P Q act w := by
  cases c <;> simp [isSeq] at h
  exact wpIn_seq k
theorem wp_loopAt {c : Code} (h : isLoop c = true) {Q : Exit → Act → World → Prop} {act : Act} {w : World} (k : (Code.loop (loopC c)).wpIn (Fr none) 0 P Q act w) : c.wpIn (Fr none) 0 P Q act w := by
  cases c <;> simp [isLoop] at h
  exact k
end
end
end Go.Ev
