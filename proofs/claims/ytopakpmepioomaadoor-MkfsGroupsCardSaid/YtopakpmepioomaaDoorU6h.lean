/- quernlaw06.awake. -/
import Derived.Test.YtopakpmepioomaaDoorU6g
namespace Go.Proofs.YtopakpmepioomaaDoor
open Go.RowKit
set_option linter.unusedVariables false

def sz : Nat → Int := supZ 2 16 8 40 7
def a6b : Nat → Int := fun _ => 12
def a6i : Nat → Int := fun i => if i = 0 then 7 else 8
def a6d : Nat → Int := fun i => if i = 0 then 1 else 0
def dz : Nat → Int := descZ 2 16 8 40 2 a6b a6i a6d
theorem supZ_byt (G S I J O : Int) : Byt (supZ G S I J O) := by
  unfold supZ; split
  · exact sealZ_byt (hz_byt _)
  · intro i; show (0 : Int) ≤ 0 ∧ (0 : Int) < 256; decide
theorem descZ_byt (G S I J : Int) (n : Nat) (b i d : Nat → Int) : Byt (descZ G S I J n b i d) := by
  unfold descZ; split
  · exact sealZ_byt (hz_byt _)
  · intro i; show (0 : Int) ≤ 0 ∧ (0 : Int) < 256; decide
theorem supZ_low {G S I J O : Int} (h : supOk G S I J O = true) (i : Nat) (hi : i < 252) : supZ G S I J O i = hz (supH G S I J O) i := by
  unfold supZ; rw [if_pos h, sealZ_low _ _ hi]
theorem descZ_low {G S I J : Int} {n : Nat} {b i d : Nat → Int} (h : descOk G S I J n b i d = true) (k : Nat) (hk : k < 252) : descZ G S I J n b i d k = hz (dH b i d n) k := by
  unfold descZ; rw [if_pos h, sealZ_low _ _ hk]
theorem sz_at : sz 0 = 81 ∧ sz 3 = 49 ∧ sz 7 = 1 ∧ sz 10 = 16 ∧ sz 16 = 7 := by
  have h : supOk 2 16 8 40 7 = true := by decide
  unfold sz
  rw [supZ_low h _ (by omega), supZ_low h _ (by omega), supZ_low h _ (by omega), supZ_low h _ (by omega), supZ_low h _ (by omega)]
  decide
theorem dz_at : dz 2 = 7 ∧ dz 8 = 12 := by
  have h : descOk 2 16 8 40 2 a6b a6i a6d = true := by decide
  unfold dz
  rw [descZ_low h _ (by omega), descZ_low h _ (by omega)]
  decide
theorem sz_sum : g32 sz 252 = crcZ sz 252 := by
  have h : supOk 2 16 8 40 7 = true := by decide
  have := sumB_seal (hz (supH 2 16 8 40 7))
  unfold sumB at this
  rw [beq_iff_eq] at this
  have e : sz = sealZ (hz (supH 2 16 8 40 7)) := by unfold sz supZ; rw [if_pos h]
  rw [e]; exact this
theorem run_desc2 (a b c d e f : Int) (w : World) : (Instr.buildSlice 45 2 #[(0, dval a b c), (1, dval d e f)]).run Tryd.prog w = .ok (.slice (some ⟨w.heap.size, 0, none⟩) 2 2) (w.alloc (.cells #[.int .i64 a, .int .i64 b, .int .i64 c, .int .i64 d, .int .i64 e, .int .i64 f] 50)) := by kernel_rfl
theorem desc2_row (w : World) (b i d : Nat → Int) : RRow (w.alloc (.cells #[.int .i64 (b 0), .int .i64 (i 0), .int .i64 (d 0), .int .i64 (b 1), .int .i64 (i 1), .int .i64 (d 1)] 50)) (some ⟨w.heap.size, 0, none⟩) 3 2 (df b i d) :=
  .inr ⟨_, _, rfl, fun k hk j v hj => by
    refine cell_of_heap (heap_alloc_new w _) ?_
    have hj3 : j < 3 := (List.getElem?_eq_some_iff.1 hj).1
    rw [← hj]
    obtain rfl | rfl : k = 0 ∨ k = 1 := by omega
    all_goals (obtain rfl | rfl | rfl : j = 0 ∨ j = 1 ∨ j = 2 := by omega)
    all_goals rfl⟩
theorem read_zero : readE (fun _ => 0) = 60 := by
  have : readA (fun _ => 0) = false := by unfold readA; rw [show (g32 (fun _ => 0) 0 == 827216465) = false by decide]; rfl
  unfold readE; rw [this]; rfl
theorem readV_zero : readV (fun _ => 0) = sval 0 0 0 0 0 := readV_no (.inl read_zero)

structure A6 (w : World) (g0 g1 : Nat) (W : World) : Prop where
  s : At W g0 23 (gcells 2 16 8 40)
  b : Blk W g1 32 256 sz
  t : Tab W
  bel : Below w.heap.size w W
theorem A6.below {w : World} {g0 g1 : Nat} {W W' : World} (h : A6 w g0 g1 W) (hb : Below W.heap.size W W') : A6 w g0 g1 W' := ⟨h.s.below hb h.s.lt, h.b.below hb h.b.lt, h.t.below hb (Nat.le_refl _), h.bel.trans (hb.mono h.bel.size)⟩
theorem A6.only {w : World} {g0 g1 : Nat} {W W' : World} {g : Nat} (h : A6 w g0 g1 W) (hb : Only g W W') (h1 : w.heap.size ≤ g) (hg0 : g0 ≠ g) (hg1 : g1 ≠ g) (hT : 0 < w.heap.size) : A6 w g0 g1 W' :=
  ⟨h.s.only hb hg0, h.b.only hb hg1, h.t.only hb (by omega), h.bel.trans (hb.below h1)⟩

end Go.Proofs.YtopakpmepioomaaDoor
