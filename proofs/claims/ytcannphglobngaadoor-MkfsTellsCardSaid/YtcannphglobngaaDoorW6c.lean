/- SuperUnlike. -/
import Derived.Test.YtcannphglobngaaDoorW6b
import Derived.Test.YtcannphglobngaaDoorU6i
namespace Go.Proofs.YtcannphglobngaaDoor
open Go.RowKit
set_option linter.unusedVariables false

theorem supH_at (G S I J O : Int) : supH G S I J O 4 = G ∧ supH G S I J O 5 = S ∧ supH G S I J O 6 = I ∧ supH G S I J O 7 = J ∧ supH G S I J O 8 = O % 65536 ∧ supH G S I J O 9 = O / 65536 := by
  simp [supH, geoH, upd2, upd]
/-- two superblocks that may be have one block just if they are the same -/
theorem unlike {G S I J O G' S' I' J' O' : Int} (h : supOk G S I J O = true) (h' : supOk G' S' I' J' O' = true) (hO : 0 ≤ O ∧ O < 4294967296) (hO' : 0 ≤ O' ∧ O' < 4294967296) :
    eqB (supZ G S I J O) (supZ G' S' I' J' O') 256 = eqS G S I J O G' S' I' J' O' := by
  rw [Bool.eq_iff_iff, eqS_iff]
  constructor
  · intro he
    rw [eqB_iff] at he
    have hh : ∀ k, k < 126 → supH G S I J O k = supH G' S' I' J' O' k := fun k hk => by
      rw [← hd_seal (supH_hvs (supOk_iff.1 h).1 hO) hk, ← hd_seal (supH_hvs (supOk_iff.1 h').1 hO') hk, ← supZ_yes h, ← supZ_yes h']
      unfold hd g16
      rw [he _ (by omega), he _ (by omega)]
    obtain ⟨a4, a5, a6, a7, a8, a9⟩ := supH_at G S I J O
    obtain ⟨b4, b5, b6, b7, b8, b9⟩ := supH_at G' S' I' J' O'
    have e4 := hh 4 (by omega); have e5 := hh 5 (by omega); have e6 := hh 6 (by omega); have e7 := hh 7 (by omega); have e8 := hh 8 (by omega); have e9 := hh 9 (by omega)
    rw [a4, b4] at e4; rw [a5, b5] at e5; rw [a6, b6] at e6; rw [a7, b7] at e7; rw [a8, b8] at e8; rw [a9, b9] at e9
    exact ⟨e4, e5, e6, e7, by omega⟩
  · rintro ⟨rfl, rfl, rfl, rfl, rfl⟩
    exact eqB_refl _ _

structure L6 (w : World) (G S I J O G' S' I' J' O' : Int) (W : World) : Prop where
  s : At W w.heap.size 42 (scells G S I J O)
  q : At W (w.heap.size + 1) 42 (scells G' S' I' J' O')
  t : Tab W
  bel : Below w.heap.size w W
theorem L6.below {w : World} {G S I J O G' S' I' J' O' : Int} {W W' : World} (h : L6 w G S I J O G' S' I' J' O' W) (hb : Below W.heap.size W W') : L6 w G S I J O G' S' I' J' O' W' := ⟨h.s.below hb h.s.lt, h.q.below hb h.q.lt, h.t.below hb (Nat.le_refl _), h.bel.trans (hb.mono h.bel.size)⟩
theorem L6.only {w : World} {G S I J O G' S' I' J' O' : Int} {W W' : World} {g : Nat} (h : L6 w G S I J O G' S' I' J' O' W) (hb : Only g W W') (hg : w.heap.size + 2 ≤ g) (hT : 0 < w.heap.size) : L6 w G S I J O G' S' I' J' O' W' :=
  ⟨h.s.only hb (by omega), h.q.only hb (by omega), h.t.only hb (by omega), h.bel.trans (hb.below (by omega))⟩
structure L6r (w : World) (x1 x2 : List Value) (g1 g2 : Nat) (z1 z2 : Nat → Int) (W : World) : Prop where
  s : W.rangeAt w.heap.size 0 x1
  q : W.rangeAt (w.heap.size + 1) 0 x2
  b1 : Blk W g1 32 256 z1
  b2 : Blk W g2 32 256 z2
  bel : Below w.heap.size w W

end Go.Proofs.YtcannphglobngaaDoor
