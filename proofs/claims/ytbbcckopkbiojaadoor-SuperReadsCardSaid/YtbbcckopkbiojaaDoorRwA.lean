/- Rows of structs made at once and stored element by element. No program in sight. -/
import Derived.Test.YtbbcckopkbiojaaDoorRw
import Derived.Test.YtbbcckopkbiojaaDoorClear
import Derived.Deep.OwnRows
import Derived.Deep.MidRow
namespace Go.Proofs.YtbbcckopkbiojaaDoor
open Go.RowKit
set_option linter.unusedVariables false

/-- heap block g is a row of n elements of m cells each -/
structure RArr (W : World) (g : Nat) (T : TypeId) (m n : Nat) (f : Nat → List Value) : Prop where
  blk : ∃ cs, W.heap[g]? = some (.cells cs T (0, 0)) ∧ cs.size = n * m
  seg : RSeg W g 0 m n f
section
variable {W W' : World} {g : Nat} {T : TypeId} {m n : Nat} {f : Nat → List Value}
theorem RArr.lt (h : RArr W g T m n f) : g < W.heap.size := by obtain ⟨cs, h, _⟩ := h.blk; exact (Array.getElem?_eq_some_iff.1 h).1
theorem RArr.of_block (h : RArr W g T m n f) (e : W'.heap[g]? = W.heap[g]?) : RArr W' g T m n f :=
  ⟨by obtain ⟨cs, h1, h2⟩ := h.blk; exact ⟨cs, e.trans h1, h2⟩, fun i hi j v hv => (World.cell?_of_block (w := W) e).trans (h.seg i hi j v hv)⟩
theorem RArr.below (h : RArr W g T m n f) (hb : Below W.heap.size W W') : RArr W' g T m n f := h.of_block (hb.block g h.lt)
theorem RArr.grown (h : RArr W g T m n f) {row : Option Nat} (hb : W.grownBy W' row) (hg : some g ≠ row) : RArr W' g T m n f := h.of_block (hb.block g h.lt hg)
theorem RArr.only (h : RArr W g T m n f) {b : Nat} (hb : Only b W W') (hg : g ≠ b) : RArr W' g T m n f := h.of_block (hb.block g hg)
theorem RArr.alloc (h : RArr W g T m n f) (o : Obj) : RArr (W.alloc o) g T m n f := h.below ((Below.refl _ _).alloc (Nat.le_refl _) o)
theorem RArr.congr {f' : Nat → List Value} (h : RArr W g T m n f) (e : ∀ i, i < n → f i = f' i) : RArr W g T m n f' := ⟨h.blk, fun i hi j v hv => h.seg i hi j v (by rw [e i hi]; exact hv)⟩
theorem RArr.there (h : RArr W g T m n f) {k : Nat} (hk : k < n) : W.there g (k * m) m := fun j hj => by
  obtain ⟨cs, h1, h2⟩ := h.blk
  have hlt : k * m + j < cs.size := by
    rw [h2]
    have : (k + 1) * m ≤ n * m := Nat.mul_le_mul_right m hk
    rw [Nat.succ_mul] at this
    omega
  exact ⟨by rw [cell_of_heap h1 (Array.getElem?_eq_getElem hlt)]; rfl, soft_of_heap h1 _⟩
/-- an element is stored -/
theorem RArr.set (h : RArr W g T m n f) {k : Nat} (hk : k < n) {vs : List Value} (hv : vs.length = m) (hf : ∀ i, (f i).length = m) : RArr (W.setCells g (k * m) vs) g T m n (fun j => if j = k then vs else f j) ∧ Only g W (W.setCells g (k * m) vs) := by
  have ho := only_setCells g vs (k * m) W
  have hth := h.there hk
  obtain ⟨cs, h1, h2⟩ := h.blk
  obtain ⟨c', hc1, hc2⟩ := ho.shape _ _ _ h1
  refine ⟨⟨⟨c', hc2, by rw [hc1, h2]⟩, fun i hi j v hj => ?_⟩, ho⟩
  rw [Nat.zero_add]
  by_cases e : i = k
  · subst e
    rw [if_pos rfl] at hj
    exact World.rangeAt_setCells_same W g (i * m) vs (by rw [hv]; exact hth) j v hj
  · rw [if_neg e] at hj
    have hr : W.rangeAt g (i * m) (f i) := by have := h.seg.range i hi; rwa [Nat.zero_add] at this
    refine World.rangeAt_setCells_apart hr g (k * m) vs ?_ j v hj
    rw [hf, hv]
    rcases Nat.lt_or_gt_of_ne e with h' | h'
    · have : (i + 1) * m ≤ k * m := Nat.mul_le_mul_right m h'
      rw [Nat.succ_mul] at this; omega
    · have : (k + 1) * m ≤ i * m := Nat.mul_le_mul_right m h'
      rw [Nat.succ_mul] at this; omega
/-- it is a slice of one's own -/
theorem RArr.mine (h : RArr W g T m n f) (hf : ∀ i, (f i).length = m) {base : Nat} (hb : base ≤ g) (hn : n ≤ maxLen) : RMine W base T m (.slice (some ⟨g, 0, none⟩) n n) n f := by
  obtain ⟨cs, h1, h2⟩ := h.blk
  refine ⟨Cs_length hf n, .inr ⟨g, n, cs, rfl, hb, h1, Nat.le_refl _, hn, h2, ?_⟩⟩
  rw [List.take_of_length_le (by rw [Array.length_toList, h2]; exact Nat.le_refl _)]
  apply List.ext_getElem?
  intro p
  by_cases hp : p < n * m
  · have hm : 0 < m := by
      rcases Nat.eq_zero_or_pos m with e | e
      · rw [e, Nat.mul_zero] at hp; omega
      · exact e
    have hq : p / m < n := (Nat.div_lt_iff_lt_mul hm).2 hp
    have hr : p % m < m := Nat.mod_lt _ hm
    have he : p / m * m + p % m = p := by rw [Nat.mul_comm]; exact Nat.div_add_mod p m
    obtain ⟨v, hv⟩ : ∃ v, (f (p / m))[p % m]? = some v := ⟨_, List.getElem?_eq_getElem (by rw [hf]; exact hr)⟩
    have h3 := h.seg (p / m) hq (p % m) v hv
    rw [Nat.zero_add, he] at h3
    have h4 := Cs_get hf hq hr
    rw [he] at h4
    rw [h4, hv, Array.getElem?_toList, Array.getElem?_eq_getElem (by rw [h2]; exact hp)]
    have h5 := cell_of_heap h1 (Array.getElem?_eq_getElem (show p < cs.size by rw [h2]; exact hp))
    rw [h3] at h5
    exact h5.symm
  · rw [List.getElem?_eq_none (by rw [Array.length_toList, h2]; omega), List.getElem?_eq_none (by rw [Cs_length hf]; omega)]
/-- what make lays -/
theorem RArr.made (w : World) (z : Array Value) (hz : z.size = m) (hm : 0 < m) (n : Nat) (T : TypeId) : RArr (w.alloc (.cells (madeCells z (n * m)) T)) w.heap.size T m n (fun _ => z.toList) :=
  ⟨⟨_, heap_alloc_new w _, size_madeCells _ _⟩, fun i hi j v hj => by
    rw [Nat.zero_add]
    have hj' : j < m := by have := (List.getElem?_eq_some_iff.1 hj).1; rw [Array.length_toList, hz] at this; exact this
    have hlt : i * m + j < n * m := by
      have : (i + 1) * m ≤ n * m := Nat.mul_le_mul_right m hi
      rw [Nat.succ_mul] at this; omega
    refine cell_of_heap (heap_alloc_new w _) ?_
    have hmod : (i * m + j) % m = j := by rw [Nat.mul_comm, Nat.mul_add_mod, Nat.mod_eq_of_lt hj']
    have hz' : z[j]? = some v := by rw [← hj, Array.getElem?_toList]
    simp only [madeCells, Array.getElem?_map, Array.getElem?_range, hlt, if_true, Option.map_some, hz, hmod]
    rw [getElem!_def, hz']⟩
theorem run_mkrow {P : Program} (t e : TypeId) (z : Value) (m bytes : Nat) (ht : P.underlying t = some (.slice e)) (hinfo : (P.info? e).map (fun i => (i.zero, i.size, i.bytes)) = some (some z, m, bytes))
    (kl kc : IntKind) (n : Nat) (hbytes : bytes * n ≤ 281474976710656) (h63 : n ≤ 9223372036854775807) (w : World) :
    (Instr.makeSlice t (.int kl (n : Int)) (.int kc (n : Int))).run P w = .ok (.slice (some ⟨w.heap.size, 0, none⟩) n n) (w.alloc (.cells (madeCells z.cells (n * m)) e)) := by
  obtain ⟨i, hi, hzz⟩ := Option.map_eq_some_iff.1 hinfo
  simp only [Prod.mk.injEq] at hzz
  obtain ⟨hz, hs, hb⟩ := hzz
  have hb' : (i.bytes : Int) * (n : Int) ≤ 281474976710656 := by
    have h : ((i.bytes * n : Nat) : Int) ≤ 281474976710656 := by rw [hb]; omega
    rwa [Int.natCast_mul] at h
  have hr := run_make (P := P) w t e i z ht hi hz kl kc n n (by omega) (Int.le_refl _) hb' (by omega)
  simp only [Int.toNat_natCast, hs] at hr
  exact hr
end
end Go.Proofs.YtbbcckopkbiojaaDoor
