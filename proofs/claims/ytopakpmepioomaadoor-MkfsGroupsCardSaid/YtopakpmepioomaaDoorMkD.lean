/- The empty image, block by block, plainly. -/
import Derived.Test.YtopakpmepioomaaDoorMkC
import Derived.Test.YtopakpmepioomaaDoorJb2
import Derived.Test.YtopakpmepioomaaDoorInoPutY
namespace Go.Proofs.YtopakpmepioomaaDoor
open Go.RowKit
set_option linter.unusedVariables false

/-- the root's inode, in its block -/
def rootI : Ino := ⟨2, 1, 1, 0, fun _ => 0, 0⟩
def rootZ : Nat → Int := over (fun _ => 0) 0 64 rootI.byte
/-- the descriptors' numbers -/
def dkB (G S I J : Int) : Nat → Int := fun _ => nDa G S I J
def dkI (I : Int) : Nat → Int := fun i => if i = 0 then I - 1 else I
def dkD : Nat → Int := fun i => if i = 0 then 1 else 0
/-- block b of the image, but for the root's inode -/
def mk0 (g s i j : Nat) (b : Nat) : Nat → Int :=
  if b = 0 then supZ g s i j 0 else if b = 1 then descZ g s i j g (dkB g s i j) (dkI i) dkD else if b = 2 then headZ 1 0
  else if b < 2 + j then fun _ => 0
  else if (b - (2 + j)) % s = 0 then bZ (mapB (2 + i / 4) s)
  else if (b - (2 + j)) % s = 1 then bZ (mapB (if (b - (2 + j)) / s = 0 then 1 else 0) i)
  else fun _ => 0
def mkB (g s i j : Nat) (b : Nat) : Nat → Int := if b = 2 + j + 2 then rootZ else mk0 g s i j b
/-- the image so far -/
def mkU (g s i j : Nat) (n : Nat) (b : Nat) : Nat → Int := if b < n then mk0 g s i j b else fun _ => 0

theorem mayN {g s i j : Nat} (hm : mayG g s i j = true) : 1 ≤ g ∧ g ≤ 4 ∧ 16 ≤ s ∧ s ≤ 512 ∧ 4 ≤ i ∧ i ≤ 64 ∧ i % 4 = 0 ∧ 40 ≤ j ∧ j ≤ 256 ∧ 3 + i / 4 ≤ s ∧ 2 + j + g * s ≤ 2048 := by
  obtain ⟨h1, h2, h3, h4, h5, h6, h7, h8, h9, h10, h11⟩ := (mayG_iff g s i j).1 hm
  have e : ((g * s : Nat) : Int) = (g : Int) * (s : Int) := Int.natCast_mul _ _
  rw [← e] at h11
  omega
theorem supOk0 {G S I J : Int} (hm : mayG G S I J = true) : supOk G S I J 0 = true := by
  have := nIn_bd G S I J
  unfold supOk; rw [hm]; simp; omega
theorem supE0 {G S I J : Int} (hm : mayG G S I J = true) : supE G S I J 0 = 0 := by
  have := nIn_bd G S I J
  unfold supE; rw [hm, if_pos rfl, if_pos (by omega)]
theorem mkMayD {g s i j : Nat} (hm : mayG g s i j = true) : mayD g s i j g (dkB g s i j) (dkI i) dkD = true := by
  obtain ⟨h1, h2, h3, h4, h5, h6, h7, h8, h9, h10, h11⟩ := mayN hm
  have := nDa_bd g s i j
  unfold mayD
  rw [Bool.and_eq_true, decide_eq_true_eq, allB_iff]
  refine ⟨rfl, fun k hk => (okD_iff _ _ _ _ _).2 ?_⟩
  unfold dkB dkI dkD
  by_cases e : k = 0
  · rw [if_pos e, if_pos e]; omega
  · rw [if_neg e, if_neg e]; omega
theorem descOk0 {g s i j : Nat} (hm : mayG g s i j = true) : descOk g s i j g (dkB g s i j) (dkI i) dkD = true := by
  unfold descOk; rw [hm, mkMayD hm]; rfl
theorem descE0 {g s i j : Nat} (hm : mayG g s i j = true) : descE g s i j g (dkB g s i j) (dkI i) dkD = 0 := by
  unfold descE; rw [hm, mkMayD hm]; rfl
theorem rootOk : putOk 0 rootI = true := by decide
theorem rootIsOk : rootI.Ok := ⟨by decide, by decide, by decide, by decide, fun i => ⟨Int.le_refl 0, (by decide : (0 : Int) < 4294967296)⟩, by decide⟩
/-- what a round adds -/
theorem mkU_round {g s i j k : Nat} (hs : 16 ≤ s) (hj : 40 ≤ j) (b : Nat) :
    (if b = 2 + j + k * s + 1 then bZ (mapB (if k = 0 then 1 else 0) i) else if b = 2 + j + k * s then bZ (mapB (2 + i / 4) s) else mkU g s i j (2 + j + k * s) b) = mkU g s i j (2 + j + (k + 1) * s) b := by
  have hk : (k + 1) * s = k * s + s := Nat.succ_mul k s
  unfold mkU
  by_cases e1 : b = 2 + j + k * s + 1
  · have hsub : b - (2 + j) = s * k + 1 := by rw [Nat.mul_comm]; omega
    have hmod : (b - (2 + j)) % s = 1 := by rw [hsub, Nat.mul_add_mod, Nat.mod_eq_of_lt (by omega)]
    have hdiv : (b - (2 + j)) / s = k := by rw [hsub, Nat.mul_add_div (by omega), Nat.div_eq_of_lt (by omega)]; rfl
    rw [if_pos e1, if_pos (show b < 2 + j + (k + 1) * s by omega)]
    unfold mk0
    rw [if_neg (show ¬ b = 0 by omega), if_neg (show ¬ b = 1 by omega), if_neg (show ¬ b = 2 by omega), if_neg (show ¬ b < 2 + j by omega), if_neg (show ¬ (b - (2 + j)) % s = 0 by omega), if_pos hmod, hdiv]
  rw [if_neg e1]
  by_cases e0 : b = 2 + j + k * s
  · have hsub : b - (2 + j) = s * k + 0 := by rw [Nat.mul_comm]; omega
    have hmod : (b - (2 + j)) % s = 0 := by rw [hsub, Nat.mul_add_mod, Nat.mod_eq_of_lt (by omega)]
    rw [if_pos e0, if_pos (by omega)]
    unfold mk0
    rw [if_neg (by omega), if_neg (by omega), if_neg (by omega), if_neg (by omega), if_pos hmod]
  rw [if_neg e0]
  by_cases h : b < 2 + j + k * s
  · rw [if_pos h, if_pos (by omega)]
  rw [if_neg h]
  by_cases h2 : b < 2 + j + (k + 1) * s
  · obtain ⟨d, hd⟩ : ∃ d, b = 2 + j + k * s + d := ⟨b - (2 + j + k * s), by omega⟩
    have hsub : b - (2 + j) = s * k + d := by rw [Nat.mul_comm]; omega
    have hmod : (b - (2 + j)) % s = d := by rw [hsub, Nat.mul_add_mod, Nat.mod_eq_of_lt (by omega)]
    rw [if_pos h2]
    unfold mk0
    rw [if_neg (by omega), if_neg (by omega), if_neg (by omega), if_neg (by omega), hmod, if_neg (by omega), if_neg (by omega)]
  · rw [if_neg h2]
/-- what stands ahead of the groups -/
theorem mkU_start {g s i j : Nat} (hj : 40 ≤ j) (b : Nat) :
    (if b = 2 then headZ 1 0 else if b = 1 then descZ g s i j g (dkB g s i j) (dkI i) dkD else if b = 0 then supZ g s i j 0 else fun _ => 0) = mkU g s i j (2 + j) b := by
  unfold mkU mk0
  by_cases e2 : b = 2
  · rw [if_pos e2, if_pos (by omega), if_neg (by omega), if_neg (by omega), if_pos e2]
  rw [if_neg e2]
  by_cases e1 : b = 1
  · rw [if_pos e1, if_pos (by omega), if_neg (by omega), if_pos e1]
  rw [if_neg e1]
  by_cases e0 : b = 0
  · rw [if_pos e0, if_pos (by omega), if_pos e0]
  rw [if_neg e0]
  by_cases h : b < 2 + j
  · rw [if_pos h, if_neg e0, if_neg e1, if_neg e2, if_pos h]
  · rw [if_neg h]
/-- the whole -/
theorem mkB_end {g s i j b : Nat} (hb : b < 2 + j + g * s) : (if b = 2 + j + 2 then rootZ else mkU g s i j (2 + j + g * s) b) = mkB g s i j b := by
  unfold mkB mkU
  by_cases e : b = 2 + j + 2
  · rw [if_pos e, if_pos e]
  · rw [if_neg e, if_neg e, if_pos hb]
end Go.Proofs.YtopakpmepioomaaDoor
