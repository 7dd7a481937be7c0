/- Contracts of jblock.writeRows over tags, and of WriteDesc. -/
import Derived.Test.YthkalmdpbhjafaaDoorJb3
import Derived.Test.YthkalmdpbhjafaaDoorMg0
import Derived.Test.YthkalmdpbhjafaaDoorMg1
import Derived.Test.YthkalmdpbhjafaaDoorMg0
namespace Go.Proofs.YthkalmdpbhjafaaDoor
open Go.RowKit
set_option linter.unusedVariables false

/-- n tags stand at a place -/
def TagSeg (w : World) (b off n : Nat) (tb : Nat → Int) (te : Nat → Bool) : Prop := ∀ i, i < n → w.cell? ⟨b, off + i * 2, none⟩ = some (.int .u32 (tb i)) ∧ w.cell? ⟨b, off + i * 2 + 1, none⟩ = some (.bool (te i))
/-- a slice of n tags -/
def TagRow (w : World) (a : Option Addr) (n : Nat) (tb : Nat → Int) (te : Nat → Bool) : Prop := n = 0 ∨ ∃ b off, a = some ⟨b, off, none⟩ ∧ TagSeg w b off n tb te
theorem TagSeg.below {w w' : World} {b off n : Nat} {tb : Nat → Int} {te : Nat → Bool} (h : TagSeg w b off n tb te) {B : Nat} (hb : Below B w w') (hB : b < B) : TagSeg w' b off n tb te :=
  fun i hi => ⟨(hb.cell (p := ⟨b, off + i * 2, none⟩) hB).trans (h i hi).1, (hb.cell (p := ⟨b, off + i * 2 + 1, none⟩) hB).trans (h i hi).2⟩
theorem TagSeg.lt {w : World} {b off n : Nat} {tb : Nat → Int} {te : Nat → Bool} (h : TagSeg w b off n tb te) (hn : 0 < n) : b < w.heap.size := World.block_lt_of_cell? w _ (h 0 hn).1
theorem TagRow.below {w w' : World} {a : Option Addr} {n : Nat} {tb : Nat → Int} {te : Nat → Bool} (h : TagRow w a n tb te) (hb : Below w.heap.size w w') : TagRow w' a n tb te := by
  rcases h with h | ⟨b, off, rfl, h⟩
  · exact .inl h
  · by_cases h0 : n = 0
    · exact .inl h0
    · exact .inr ⟨b, off, rfl, h.below hb (h.lt (by omega))⟩

def bit (b : Bool) : Int := if b then 1 else 0
/-- the rows of the first k tags -/
def tagR (tb : Nat → Int) (te : Nat → Bool) (k : Nat) (j : Nat) : Int := if j < 2 * k then (if j % 2 = 0 then tb (j / 2) else bit (te (j / 2))) else 0
def descOk (s : Int) (n : Nat) (tb : Nat → Int) : Bool := seqB s && (decide (1 ≤ n ∧ n ≤ 30) && riseB tb n)
def descZ (s : Int) (n : Nat) (tb : Nat → Int) (te : Nat → Bool) : Nat → Int := if descOk s n tb then wz (jw 1 s n (tagR tb te n)) else fun _ => 0
theorem tagR_next (s n : Int) (tb : Nat → Int) (te : Nat → Bool) (k j : Nat) : upd (upd (jw 1 s n (tagR tb te k)) (4 + 2 * k) (tb k)) (5 + 2 * k) (bit (te k)) j = jw 1 s n (tagR tb te (k + 1)) j := by
  unfold upd
  by_cases h5 : j = 5 + 2 * k
  · rw [if_pos h5]
    unfold jw tagR
    rw [if_neg (by omega), if_neg (by omega), if_neg (by omega), if_neg (by omega), if_pos (by omega), if_neg (by omega), show (j - 4) / 2 = k by omega]
  rw [if_neg h5]
  by_cases h4 : j = 4 + 2 * k
  · rw [if_pos h4]
    unfold jw tagR
    rw [if_neg (by omega), if_neg (by omega), if_neg (by omega), if_neg (by omega), if_pos (by omega), if_pos (by omega), show (j - 4) / 2 = k by omega]
  rw [if_neg h4]
  unfold jw
  split
  · rfl
  · split
    · rfl
    · split
      · rfl
      · split
        · rfl
        · unfold tagR
          by_cases c : j - 4 < 2 * k
          · have c' : j - 4 < 2 * (k + 1) := by omega
            simp only [c, c', if_true]
          · have c' : ¬ j - 4 < 2 * (k + 1) := by omega
            simp only [c, c', if_false]
theorem tagR_zero (s n : Int) (tb : Nat → Int) (te : Nat → Bool) (j : Nat) : jw 1 s n nz j = jw 1 s n (tagR tb te 0) j := by
  unfold jw tagR nz
  simp

theorem tagKey_any (b : Int) (x : Bool) (w : World) : Calls Tryd.prog 64 #[.agg #[.int .u32 b, .bool x]] w fun e w' => e = .returned (.int .u32 b) ∧ Below w.heap.size w w' := by
  go_enter Tryd.func64, Tryd.ntmps64
  go_wp2
  go_ret
  exact ⟨rfl, (Below.refl _ _).alloc (Nat.le_refl _) _⟩

/-- a word put into part of a block of words -/
theorem putWs (g : Nat) {T : TypeId} (l : Nat → Int) (o len cap : Nat) (K v : Int) (k : Nat) (hK : (o : Int) + K = 4 * (k : Int)) (h0 : 0 ≤ K) (h1 : K + 4 ≤ len) (hl : o + len ≤ 256) (hv : 0 ≤ v) (w : World) (hB : Blk w g T 256 (wz l)) :
    Calls Tryd.prog 74 #[.slice (some ⟨g, o, none⟩) len cap, .int .i64 K, .int .u32 v] w fun e w' => e = .returned (.bool true) ∧ Blk w' g T 256 (wz (upd l k v)) ∧ Only g w w' := by
  have hs : Seg w g o len (fun j => wz l (o + j)) := by have := hB.seg.sub o len hl; rwa [Nat.zero_add] at this
  refine (put32_yes g o len cap K v _ w (by omega) h0 h1 hv hs (hB.soft o len)).mono fun e w' ⟨he, hp⟩ => ⟨he, ?_, hp.only⟩
  rw [show o + K.toNat = 4 * k by omega] at hp
  exact (hB.puts hp).congr fun i _ => wz_put l k v i
theorem upd_same (l : Nat → Int) (k : Nat) (v : Int) (h : l k = v) (j : Nat) : upd l k v j = l j := by
  unfold upd; split
  · subst_vars; rfl
  · rfl

theorem tagPut_any (g : Nat) {T : TypeId} (l : Nat → Int) (k o cap : Nat) (b : Int) (x : Bool) (hb : 0 ≤ b) (ho : o = 4 * (4 + 2 * k)) (hk : k < 30) (h0 : l (5 + 2 * k) = 0) (w : World) (hB : Blk w g T 256 (wz l)) :
    Calls Tryd.prog 76 #[.slice (some ⟨g, o, none⟩) 8 cap, .agg #[.int .u32 b, .bool x]] w fun e w' => e = .returned (.tuple #[]) ∧ Blk w' g T 256 (wz (upd (upd l (4 + 2 * k) b) (5 + 2 * k) (bit x))) ∧ w.grownBy w' (some g) := by
  have hB0 : Hid (Blk (w.alloc (.cells #[.int .u32 b, .bool x] 67)) g T 256 (wz l)) := hB.alloc _
  have hA : Hid (At (w.alloc (.cells #[.int .u32 b, .bool x] 67)) w.heap.size 67 #[.int .u32 b, .bool x]) := At.new _ _ _
  have hg := hB.lt
  clear hB
  have H0 := Lib.hid h0
  clear h0
  have HO := Lib.hid ho
  clear ho
  go_enter Tryd.func76, Tryd.ntmps76
  go_wp2_with fail
  refine (putWs g l o 8 cap 0 b (4 + 2 * k) (by rw [HO.out]; omega) (by decide) (by decide) (by rw [HO.out]; omega) hb _ hB0.out).mono ?_
  rintro e w1 ⟨rfl, hB1, ho1⟩
  have hA1 := hA.out.only ho1 (by omega)
  have hg1 : w.grownBy w1 (some g) := grown_trans (World.grownBy_alloc w _ _) (grown_only ho1)
  have c1 := hA1.cell (i := 1) rfl
  clear hB0 hA ho1 hA1
  cases x with
  | false =>
    go_wp2_with fail
    go_end0
    refine ⟨rfl, hB1.congr fun i hi => wz_congr 64 (fun j _ => (upd_same _ _ _ ?_ j).symm) i hi, hg1⟩
    unfold upd
    rw [if_neg (by omega)]
    exact H0.out
  | true =>
    go_wp2_with fail
    refine (putWs g _ o 8 cap 4 1 (5 + 2 * k) (by rw [HO.out]; omega) (by decide) (by decide) (by rw [HO.out]; omega) (by decide) _ hB1).mono ?_
    rintro e w2 ⟨rfl, hB2, ho2⟩
    have hg2 : w.grownBy w2 (some g) := grown_trans hg1 (grown_only ho2)
    go_wp2_with fail
    go_end0
    exact ⟨rfl, hB2, hg2⟩
end Go.Proofs.YthkalmdpbhjafaaDoor
