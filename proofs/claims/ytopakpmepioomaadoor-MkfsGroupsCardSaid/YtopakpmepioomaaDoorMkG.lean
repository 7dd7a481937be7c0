/- quernlaw21.awake. -/
import Derived.Test.YtopakpmepioomaaDoorMkE
import Derived.Test.YtopakpmepioomaaDoorMkF
namespace Go.Proofs.YtopakpmepioomaaDoor
open Go.RowKit
set_option linter.unusedVariables false

theorem MkImg.cell {w : World} {g s i j q : Nat} {w' : World} (h : MkImg w g s i j q w') {b k : Nat} (hb : b < 2 + j + g * s) (hk : k < 256) : w'.cell? ⟨q, b * 256 + k, none⟩ = some (.int .u8 (mkB g s i j b k)) := by
  have := h.a.seg b hb k _ (Ks_get .u8 256 _ k hk)
  rwa [Nat.zero_add] at this
theorem make_ex (w : World) (hT : Tab w) :
    Calls Tryd.prog 9 #[gval 2 16 8 40] w fun e w' => ∃ q, e = .returned (.tuple #[.slice (some ⟨q, 0, none⟩) 74 74, .int .i64 0]) ∧ MkImg w 2 16 8 40 q w' :=
  make_yes 2 16 8 40 (by decide) w hT
theorem ex_1 : mkB 2 16 8 40 1 2 = 7 ∧ mkB 2 16 8 40 1 10 = 8 := by
  have h : descOk ((2 : Nat) : Int) ((16 : Nat) : Int) ((8 : Nat) : Int) ((40 : Nat) : Int) 2 (dkB ((2 : Nat) : Int) ((16 : Nat) : Int) ((8 : Nat) : Int) ((40 : Nat) : Int)) (dkI ((8 : Nat) : Int)) dkD = true := descOk0 (by decide)
  rw [mkB_1 (by decide), descZ_low h _ (by omega), descZ_low h _ (by omega)]
  decide
theorem ex_2 : mkB 2 16 8 40 2 8 = 1 := by rw [mkB_2 (by decide)]; decide
theorem ex_42 : mkB 2 16 8 40 42 0 = 15 ∧ mkB 2 16 8 40 42 2 = 255 := by decide
theorem ex_43 : mkB 2 16 8 40 43 0 = 1 ∧ mkB 2 16 8 40 43 1 = 255 := by decide
theorem ex_44 : mkB 2 16 8 40 44 0 = 2 ∧ mkB 2 16 8 40 44 4 = 1 := by decide
theorem ex_59 : mkB 2 16 8 40 59 0 = 0 := by decide
set_option maxRecDepth 100000 in
set_option maxHeartbeats 4000000 in
theorem awake21 (w : World) (hT : Tab w) : Calls Tryd.prog 11 #[] w fun e w' => e = .returned (.bool true) ∧ Below w.heap.size w w' := by
  have halg := zero_geo
  have hs0 := At.new w 23 (gcells 2 16 8 40)
  have HL0 : Hid (Below w.heap.size w (w.alloc (.cells (gcells 2 16 8 40) 23))) := (Below.refl _ _).alloc (Nat.le_refl _) _
  have HT0 := Lib.hid (hT.alloc (.cells (gcells 2 16 8 40) 23))
  clear hT
  go_enter Tryd.func11, Tryd.ntmps11
  go_wp2_with (first | (refine wp_loadAtG rfl 23 (.tmp 1) rfl _ _ _ rfl hs0 Tryd.underlying23 rfl (by kernel_rfl) ?_))
  refine (make_ex _ HT0.out).mono ?_
  rintro e w1 ⟨q, rfl, hi1⟩
  have HI1 := Lib.hid hi1
  have HL1 := Lib.hid (HL0.out.trans (hi1.bel.mono HL0.out.size))
  clear hs0 HL0 HT0 hi1
  go_wp2_with fail
  refine (make_no 0 0 0 0 (by decide) _).mono ?_
  rintro e w2 ⟨rfl, hb2⟩
  have HL2 := Lib.hid (HL1.out.trans (hb2.mono HL1.out.size))
  have key : ∀ b k v, b < 74 → k < 256 → mkB 2 16 8 40 b k = v → w2.cell? ⟨q, b * 256 + k, none⟩ = some (.int .u8 v) := fun b k v hb hk hv => by
    have := HI1.out.cell hb hk
    rw [hv] at this
    exact (hb2.cell (p := ⟨q, b * 256 + k, none⟩) HI1.out.a.lt).trans this
  have k1 := key 1 2 7 (by decide) (by decide) ex_1.1
  have k2 := key 1 10 8 (by decide) (by decide) ex_1.2
  have k3 := key 2 8 1 (by decide) (by decide) ex_2
  have k4 := key 42 0 15 (by decide) (by decide) ex_42.1
  have k5 := key 42 2 255 (by decide) (by decide) ex_42.2
  have k6 := key 43 0 1 (by decide) (by decide) ex_43.1
  have k7 := key 43 1 255 (by decide) (by decide) ex_43.2
  have k8 := key 44 0 2 (by decide) (by decide) ex_44.1
  have k9 := key 44 4 1 (by decide) (by decide) ex_44.2
  have k10 := key 59 0 0 (by decide) (by decide) ex_59
  clear key HI1 HL1 hb2
  simp only [Nat.reduceMul, Nat.reduceAdd] at k1 k2 k3 k4 k5 k6 k7 k8 k9 k10
  go_wp2_with fail
  go_ret
  exact ⟨rfl, HL2.out⟩
end Go.Proofs.YtopakpmepioomaaDoor
