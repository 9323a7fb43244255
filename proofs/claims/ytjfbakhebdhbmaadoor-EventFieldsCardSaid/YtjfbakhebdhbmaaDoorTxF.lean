/-
  'EventFields' over known calls.
-/
import Derived.Test.YtjfbakhebdhbmaaDoorTxY
namespace Go.Proofs.YtjfbakhebdhbmaaDoor.event
open Go.Ev Go.RowKit
set_option linter.unusedVariables false
noncomputable section
def itS : List VV := [si 5, si 6, si 7, si 8, si 9, si 10, .sym 11]
def itZ : List VV := [.int .i64 0, .int .i64 0, .int .i64 0, .int .i64 0, .int .i64 0, .int .i64 0, .slice none 0 0]
def lsN : VV := .slice none 0 0
def lsO : VV := .slice (some ⟨.loc 3, 0⟩) 1 1
def preO : List (Nat × VO) := [(3, .cells [.sint .i64 82] none 0 none)]
def fV (ls : VV) (it : List VV) : VV := .agg (.sint .i64 81 :: si 1 :: si 2 :: si 3 :: si 4 :: ls :: it)
def fKT (V : VV) (pre : List (Nat × VO)) : List KE := [⟨9, [V], pre, si 25⟩, ⟨10, [V], pre, si 25⟩, ⟨11, [V], pre, .sym 54⟩, ⟨12, [V], pre, .sym 54⟩, ⟨13, [], [], .bool true⟩]
def mm : Int × Int := (mn, mx)
def fIv (k1 k2 n1 n2 : Int) : Ivs := [mm, mm, mm, mm, mm, mm, mm, mm, mm, mm, mm, mm, mm, (0, 4), mm, mm, mm, mm, mm, mm, mm, mm, mm, mm, mm, mm, mm, mm, mm, mm, mm, mm, mm, mm, mm, mm, mm, mm, mm, mm, mm, mm, mm, mm, mm, mm, mm, mm, mm, mm, mm, mm, mm, mm, mm, mm, mm, mm, mm, mm, mm, mm, mm, mm, mm, mm, mm, mm, mm, mm, mm, mm, mm, mm, mm, mm, mm, mm, mm, mm, (k1, k2), (0, 31), (n1, n2)]
def fF : List Fact := [.bin .rem (.sint .u8 80) (.int .u8 32) (.sint .u8 81), .len false (.sym 72) (si 73), .fn .min [si 73, .int .i64 4] (si 13), .cut 2 (.sym 72) none (some (si 13)) (.sym 11), .len true (.sym 54) (si 55)]
def fE (k1 k2 n1 n2 : Int) : Env := ⟨fun _ => none, ivAt (fIv k1 k2 n1 n2), fF, fun _ => none⟩
def fArgs : List VV := [.sint .u8 80, .agg [si 1, si 2, si 3, si 4, si 82], .agg [si 5, si 6, si 7, si 8, si 9, si 10, .sym 72]]
def runF (k1 k2 n1 n2 : Int) (V : VV) (pre : List (Nat × VO)) : Bool := match runE Tryd.prog (knL (fKT V pre)) 2000 4 fArgs (fE k1 k2 n1 n2) with
  | some (.bool true, _) => true
  | _ => false
theorem runF_ok {k1 k2 n1 n2 : Int} {V : VV} {pre : List (Nat × VO)} (h : runF k1 k2 n1 n2 V pre = true) : ∃ H, runE Tryd.prog (knL (fKT V pre)) 2000 4 fArgs (fE k1 k2 n1 n2) = some (.bool true, H) := by
  unfold runF at h
  split at h
  · rename_i H hr
    exact ⟨H, hr⟩
  · cases h
theorem ran1 : runF 0 127 0 mx (fV lsO itZ) preO = true := by kernel_rfl
theorem ran2 : runF 0 127 mn (-1) (fV lsN itZ) [] = true := by kernel_rfl
theorem ran3 : runF 128 255 0 mx (fV lsO itS) preO = true := by kernel_rfl
theorem ran4 : runF 128 255 mn (-1) (fV lsN itS) [] = true := by kernel_rfl
/-! ### the same event, its list elsewhere -/
section
variable {w : World} {g : EvG} {oa : Option Addr} {ca Ba Oa : Nat}
def EvG.at (g : EvG) (oa : Option Addr) (ca Ba Oa : Nat) : EvG := { g with oa := oa, ca := ca, Ba := Ba, Oa := Oa }
theorem eint_at : eint (g.at oa ca Ba Oa) = eint g := rfl
theorem mayB_at : mayB (g.at oa ca Ba Oa) = mayB g := by
  unfold mayB
  rw [eint_at]
theorem tellG_at {C : List CutP} {p : Nat} : tellG C p (g.at oa ca Ba Oa) = tellG C p g := by
  unfold tellG
  rw [eint_at]
  rfl
theorem chk_at : chk (g.at oa ca Ba Oa) = chk g := by
  unfold chk
  rw [mayB_at]
  simp only [tellG_at]
  rfl
theorem pc_at {p : VV} (hp : isPc p = true) : pieceS (erho (g.at oa ca Ba Oa) 0 [] 0) p = pieceS (erho g 0 [] 0) p := by
  unfold isPc at hp
  split at hp
  · rfl
  · rename_i k
    have := lowMem_ok hp
    simp only [List.mem_cons, List.not_mem_nil, or_false] at this
    rcases this with rfl | rfl | rfl | rfl | rfl | rfl | rfl | rfl | rfl | rfl | rfl | rfl | rfl | rfl <;> rfl
  · cases hp
theorem pcs_at : ∀ {l : List VV}, arePc l = true → textS (erho (g.at oa ca Ba Oa) 0 [] 0) l = textS (erho g 0 [] 0) l
  | [], _ => rfl
  | p :: l, h => by
    simp only [arePc] at h
    split at h
    · rename_i h1
      simp only [textS, pc_at h1, pcs_at h]
    · cases h
theorem txt_at (h : (g.at oa ca Ba Oa).OK w) : txtB (g.at oa ca Ba Oa) = txtB g := by
  unfold txtB
  rw [chk_at, eint_at]
  by_cases hz : chk g = 0
  · rw [if_pos hz, if_pos hz]
    have G := good_of h (chk_at.trans hz)
    have h1 : 0 < g.k := G.k1
    have h2 : g.k < 30 := G.k2
    have hs := allP_ok sz_all g.k.toNat (by omega)
    have e : ((g.k.toNat : Nat) : Int) = g.k := by omega
    rw [e] at hs
    have ho := allL_ok (v := eint g 0 [] 0) hs
    show bytesOf _ (valX (tT g.k) (eint g 0 [] 0)) = _
    generalize valX (tT g.k) (eint g 0 [] 0) = o at ho
    unfold szOK at ho
    split at ho
    · rename_i ps
      split at ho
      · rename_i h3
        simp only [bytesOf, pcs_at h3]
      · cases ho
    · cases ho
  · rw [if_neg hz, if_neg hz]
end
end
end Go.Proofs.YtjfbakhebdhbmaaDoor.event
