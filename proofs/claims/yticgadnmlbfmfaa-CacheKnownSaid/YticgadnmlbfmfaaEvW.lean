/- Engine, part W: tables that are laid ahead; closed laws over them. -/
import Derived.Test.YticgadnmlbfmfaaEvV
import Derived.Lib.LaidU8
namespace Go.Ev
noncomputable section
open Go.RowKit
/-- Blocks, and what cells they have. -/
abbrev Tabs := List (Nat × List Value)
def tabsAt : Tabs → Nat → Option BO
  | [], _ => none
  | (g, c) :: l, r => match Nat.beq g r with
    | true => some (.cells c)
    | false => tabsAt l r
def tabEnv (l : Tabs) : Env := ⟨tabsAt l, fun _ => (0, 0), [], fun _ => none⟩
def TabsOK (l : Tabs) (w : World) : Prop := ∀ g c, tabsAt l g = some (.cells c) → ∃ c' e fr, w.heap[g]? = some (.cells c' e fr) ∧ c'.toList = c
theorem tabsAt_cells : ∀ {l : Tabs} {r : Nat} {b : BO}, tabsAt l r = some b → ∃ c, b = .cells c
  | [], _, _, h => by cases h
  | (g, c) :: l, r, b, h => by
    simp only [tabsAt] at h
    split at h
    · cases h; exact ⟨c, rfl⟩
    · exact tabsAt_cells h
theorem TabsOK.lt {l : Tabs} {w : World} (h : TabsOK l w) {g : Nat} {c : List Value} (k : tabsAt l g = some (.cells c)) : g < w.heap.size := by
  obtain ⟨c', e, fr, h1, _⟩ := h g c k
  exact (Array.getElem?_eq_some_iff.1 h1).1
theorem TabsOK.of_old {l : Tabs} {w0 w : World} (h : TabsOK l w0) (ho : ∀ k, k < w0.heap.size → w.heap[k]? = w0.heap[k]?) : TabsOK l w := by
  intro g c k
  rw [ho g (h.lt k)]
  exact h g c k
theorem TabsOK.base {l : Tabs} {w : World} (h : TabsOK l w) : ∀ r b, (tabEnv l).blk r = some b → ∃ o, w.heap[r]? = some o ∧ BOR b o := by
  intro r b hb
  obtain ⟨c, rfl⟩ := tabsAt_cells hb
  obtain ⟨c', e, fr, h1, h2⟩ := h r c hb
  exact ⟨_, h1, c', e, fr, rfl, h2⟩
theorem tabsOK_cons {g : Nat} {c : List Value} {l : Tabs} {w : World} (h : ∃ c' e fr, w.heap[g]? = some (.cells c' e fr) ∧ c'.toList = c) (k : TabsOK l w) : TabsOK ((g, c) :: l) w := by
  intro r d hr
  simp only [tabsAt] at hr
  split at hr
  · rename_i he
    cases hr
    rw [← Nat.eq_of_beq_eq_true he]
    exact h
  · exact k r d hr
theorem tabsOK_nil (w : World) : TabsOK [] w := fun g c h => by cases h
/-- A listed array of integers, as a block. -/
theorem tab_of_reads {P : Program} {w : World} {n : String} {k : IntKind} {zs : List Int} (h : Go.Lib.VarReads P w n (Go.Lib.tabData k zs)) {g t e m : Nat} (hg : P.globalNamed n = some g) (ht : (P.globals[g]?).map (·.type) = some t)
    (hu : P.underlying t = some (.array m e)) (he : P.underlying e = some (.int k)) (hce : P.cellsOf e = 1) (hct : P.cellsOf t = m) : ∃ c' e fr, w.heap[g]? = some (.cells c' e fr) ∧ c'.toList = zs.map fun z => Value.int k z := by
  obtain ⟨g', t', cs, fuel, p, h1, h2, h3, h4⟩ := h
  obtain rfl := Option.some.inj (hg.symm.trans h1)
  obtain rfl := Option.some.inj (ht.symm.trans h2)
  have := Go.Lib.cells_of_tab hu he hce hct h4
  simp only [World.var?, hg, Option.bind_some] at h3
  split at h3
  · rename_i cs' t'' fr hh
    simp only [Option.some.injEq] at h3
    subst h3
    exact ⟨_, _, _, hh, this⟩
  · cases h3
theorem tabStart [Ext] {l : Tabs} {w : World} (hx : Ext.ok rho0 w) (h : TabsOK l w) : HSim w phi0 ⟨tabEnv l, .lf, 0⟩ w :=
  HSim.startE ⟨hx, fun _ => ⟨Int.le_refl _, Int.le_refl _⟩, (fun f h => by cases h), (fun i c h => by cases h)⟩ h.base
/-- Functions without arguments that tell true wherever the tables lie. -/
def knTabs (K : List FuncId) : KN := knL (K.map fun f => ⟨f, [], [], .bool true⟩)
theorem knTabs_ok [Ext] {P : Program} {l : Tabs} {K : List FuncId} (hx : ∀ ρ w, Ext.ok ρ w → TabsOK l w) (hK : ∀ f ∈ K, ∀ w : World, TabsOK l w → Calls P f #[] w fun e w' => e = .returned (.bool true) ∧ Below w.heap.size w w') : KnOK P (knTabs K) := by
  refine knL_ok fun ρ w0 h e he => ?_
  obtain ⟨f, hf, rfl⟩ := List.mem_map.1 he
  intro φ vs w _ _ ho hv _
  simp only [VRs] at hv
  subst hv
  refine (hK f hf w ((hx ρ w0 h).of_old ho)).mono ?_
  rintro en w' ⟨rfl, hb⟩
  exact ⟨_, rfl, by simp [VR], hb⟩
/-- A closed law over tables, of its body. -/
theorem cs_callsT [Ext] {P : Program} {l : Tabs} {f : FuncId} {fn : Func} {c : Code} {x : VX} {a₁ : VT} {H₁ : VH} (hf : P.funcs[f]? = some fn) (hc : fn.body = some c) (h2 : Nat.ble fn.ntmps top = true) (h : CS P fn.ntmps c .lf ⟨tabEnv l, .lf, 0⟩ x a₁ H₁) (hx : ∀ id, x ≠ .exit id) (hr : resL P a₁ H₁ fn.results.toList = some [.bool true]) (w : World) (he : Ext.ok rho0 w) (ht : TabsOK l w) :
    Calls P f #[] w fun e w' => e = .returned (.bool true) ∧ Below w.heap.size w w' := by
  have hc' := h.call hf hc (args := []) rfl h2 hx hr w phi0 w [] (by simp [VRs]) (tabStart he ht)
  refine hc'.mono ?_
  rintro e w' ⟨u, v', φ', H'', rfl, k1, k2, k3, _, rfl, rfl⟩
  simp only [oneV, VR] at k2
  subst k2
  exact ⟨rfl, below_of k1 k3⟩
/-- .. run in one piece. -/
def runT (P : Program) (l : Tabs) (K : List FuncId) (n : Nat) (f : FuncId) : Bool := match runE P (knTabs K) n f [] (tabEnv l) with
  | some (.bool b, _) => b
  | _ => false
theorem runT_calls [Ext] {P : Program} (hng : NoNG P) (hm : P.follows .mixedOrders = true) {l : Tabs} {K : List FuncId} (hx : ∀ ρ w, Ext.ok ρ w → TabsOK l w) (hK : ∀ f ∈ K, ∀ w : World, TabsOK l w → Calls P f #[] w fun e w' => e = .returned (.bool true) ∧ Below w.heap.size w w')
    {n : Nat} {f : FuncId} (h : runT P l K n f = true) (w : World) (he : Ext.ok rho0 w) (ht : TabsOK l w) : Calls P f #[] w fun e w' => e = .returned (.bool true) ∧ Below w.heap.size w w' := by
  unfold runT at h
  split at h
  · rename_i b H' hr
    subst h
    refine (runE_calls hng hm (knTabs_ok hx hK) hr (ρ := rho0) ⟨he, fun _ => ⟨Int.le_refl _, Int.le_refl _⟩, (fun f h => by cases h), (fun i c h => by cases h)⟩ ht.base (args := []) (by simp [VRs])).mono ?_
    rintro e w' ⟨v', φ', rfl, _, hv, hb⟩
    simp only [VR] at hv
    subst hv
    exact ⟨rfl, hb⟩
  · cases h
end
end Go.Ev
