/- Rows of bytes that a call has made itself: append onto them, read and write them. No program in sight. -/
import Derived.Test.YtbbcckopkbiojaaMem
import Derived.WalkKit
import Derived.OwnWalk
import Derived.OpenShut
import Derived.Laws.AppendOwnNone
namespace Go.Proofs.Ytbbcckopkbiojaa
open Go.RowKit
set_option linter.unusedVariables false

/-- n bytes as values -/
def Bs (n : Nat) (z : Nat → Int) : List Value := (List.range n).map fun i => .int .u8 (z i)
theorem Bs_length (n : Nat) (z : Nat → Int) : (Bs n z).length = n := by simp [Bs]
theorem Bs_get (n : Nat) (z : Nat → Int) (i : Nat) (h : i < n) : (Bs n z)[i]? = some (.int .u8 (z i)) := by simp [Bs, h]
/-- y behind the first n of z -/
def cat (z : Nat → Int) (n : Nat) (y : Nat → Int) : Nat → Int := fun i => if i < n then z i else y (i - n)
theorem Bs_cat (n m : Nat) (z y : Nat → Int) : Bs n z ++ Bs m y = Bs (n + m) (cat z n y) := by
  apply List.ext_getElem?
  intro i
  by_cases h : i < n
  · rw [List.getElem?_append_left (by rw [Bs_length]; exact h), Bs_get _ _ _ h, Bs_get _ _ _ (by omega)]; simp [cat, h]
  · rw [List.getElem?_append_right (by rw [Bs_length]; omega), Bs_length]
    by_cases h2 : i - n < m
    · rw [Bs_get _ _ _ h2, Bs_get _ _ _ (by omega)]; simp [cat, h]
    · rw [List.getElem?_eq_none (by rw [Bs_length]; omega), List.getElem?_eq_none (by rw [Bs_length]; omega)]
theorem Bs_congr {n : Nat} {z y : Nat → Int} (h : ∀ i, i < n → z i = y i) : Bs n z = Bs n y := by
  unfold Bs; apply List.map_congr_left; intro i hi; rw [h i (by simpa using hi)]
theorem byt_cat {z y : Nat → Int} (hz : Byt z) (hy : Byt y) (n : Nat) : Byt (cat z n y) := by
  intro i; unfold cat; split
  · exact hz _
  · exact hy _

/-- a slice of n bytes z in memory of one's own (from the block base on) -/
def Mine (w : World) (base : Nat) (e : TypeId) (sa : Option Addr) (n cap : Nat) (z : Nat → Int) : Prop := w.ownsRow base e 1 (.slice sa n cap) n (Bs n z)

theorem Mine.parts {w : World} {base : Nat} {e : TypeId} {sa : Option Addr} {n cap : Nat} {z : Nat → Int} (h : Mine w base e sa n cap z) :
    (sa = none ∧ n = 0 ∧ cap = 0) ∨ ∃ g, sa = some ⟨g, 0, none⟩ ∧ base ≤ g ∧ g < w.heap.size ∧ n ≤ cap ∧ Seg w g 0 n z ∧ Soft w g 0 cap := by
  rcases h.2 with ⟨hv, h0⟩ | ⟨g, cap', cur, hv, hb, hg, hn, hc, hs, ht⟩
  · injection hv with h1 h2 h3; exact .inl ⟨h1, h0, h3⟩
  · injection hv with h1 h2 h3
    subst h1 h3
    have hlt := (Array.getElem?_eq_some_iff.1 hg).1
    refine .inr ⟨g, rfl, hb, hlt, hn, ?_, ?_⟩
    · intro i hi
      have := Bs_get n z i hi
      rw [← ht, List.getElem?_take_of_lt (by omega)] at this
      simp [World.cell?, hg]; simpa using this
    · intro i hi; simp [World.frozen?, hg]
theorem Mine.row {w : World} {base : Nat} {e : TypeId} {sa : Option Addr} {n cap : Nat} {z : Nat → Int} (h : Mine w base e sa n cap z) : Row w sa n z := by
  rcases h.parts with ⟨_, h0, _⟩ | ⟨g, rfl, _, _, _, hs, _⟩
  · exact .inl h0
  · exact .inr ⟨g, 0, rfl, hs⟩
theorem Mine.le {w : World} {base : Nat} {e : TypeId} {sa : Option Addr} {n cap : Nat} {z : Nat → Int} (h : Mine w base e sa n cap z) : ∀ x, sa = some x → base ≤ x.block ∧ x.block < w.heap.size := by
  intro x hx
  rcases h.parts with ⟨h0, _⟩ | ⟨g, h1, hb, hl, _⟩
  · rw [h0] at hx; cases hx
  · rw [h1] at hx; cases hx; exact ⟨hb, hl⟩
theorem Mine.drewN {w : World} {base : Nat} {e : TypeId} {sa : Option Addr} {n cap : Nat} {z : Nat → Int} (h : Mine w base e sa n cap z) (m : Nat) : Mine (w.drewN m) base e sa n cap z := h
theorem Mine.congr {w : World} {base : Nat} {e : TypeId} {sa : Option Addr} {n cap : Nat} {z y : Nat → Int} (h : Mine w base e sa n cap z) (hy : ∀ i, i < n → z i = y i) : Mine w base e sa n cap y := by
  unfold Mine; rw [← Bs_congr hy]; exact h
theorem Mine.nil (w : World) (base : Nat) (e : TypeId) (z : Nat → Int) : Mine w base e none 0 0 z := World.ownsRow_nil w base e 1
theorem Mine.bound {w : World} {base : Nat} {e : TypeId} {sa : Option Addr} {n cap : Nat} {z : Nat → Int} (h : Mine w base e sa n cap z) : n ≤ cap ∧ cap ≤ maxLen := by
  rcases h.2 with ⟨hv, h0⟩ | ⟨g, cap', cur, hv, hb, hg, hn, hc, hs, ht⟩
  · injection hv with h1 h2 h3; subst h3; simp [h0]
  · injection hv with h1 h2 h3; subst h3; exact ⟨hn, hc⟩

theorem Mine.made (w : World) (base : Nat) (e : TypeId) (z : Nat → Int) (hb : base ≤ w.heap.size) : Mine (w.alloc (.cells #[] e)) base e (some ⟨w.heap.size, 0, none⟩) 0 0 z :=
  World.ownsRow_made (cur := #[]) (cap := 0) w (base := base) (e := e) (size := 1) hb (by unfold maxLen; omega) (by simp)
theorem Mine.alloc {w : World} {base : Nat} {e : TypeId} {sa : Option Addr} {n cap : Nat} {z : Nat → Int} (h : Mine w base e sa n cap z) (o : Obj) : Mine (w.alloc o) base e sa n cap z := World.ownsRow.alloc h o
theorem Mine.grown {w w' : World} {base : Nat} {e : TypeId} {sa : Option Addr} {n cap : Nat} {z : Nat → Int} {row : Option Nat} (h : Mine w base e sa n cap z) (hg : w.grownBy w' row) (hr : ∀ x, sa = some x → some x.block ≠ row) : Mine w' base e sa n cap z := by
  refine World.ownsRow.kept h hg ?_
  cases sa with
  | none => exact .inl rfl
  | some x => exact .inr (hr x rfl)
/-- a literal row of bytes in a new block -/
theorem seg_new (w : World) (e : TypeId) (n : Nat) (y : Nat → Int) (vs : List Value) (h : vs = Bs n y) : Seg (w.alloc (.cells vs.toArray e)) w.heap.size 0 n y := by
  intro i hi
  have := Bs_get n y i hi
  rw [← h] at this
  simp only [World.cell?, heap_alloc_new, Nat.zero_add]
  simpa using this
theorem soft_new (w : World) (e : TypeId) (n : Nat) (vs : Array Value) : Soft (w.alloc (.cells vs e)) w.heap.size 0 n := by
  intro i hi
  simp only [World.frozen?, heap_alloc_new]
  simp
theorem row_new (w : World) (e : TypeId) (n : Nat) (y : Nat → Int) (vs : List Value) (h : vs = Bs n y) : Row (w.alloc (.cells vs.toArray e)) (some ⟨w.heap.size, 0, none⟩) n y :=
  .inr ⟨_, _, rfl, seg_new w e n y vs h⟩

/-- append of a row of bytes onto a row of one's own -/
theorem wpList_append_bytes {P : Program} {w : World} {ops : Array Oper} {rest : List Oper} {o : Oper} {a : Act} {Q : Exit → Act → World → Prop} (hgd : o.guard = none) (s x : Operand) (t : TypeId)
    (ho : o.op = .call { callee := .builtin .append, args := #[s, x], argTypes := #[t, t] })
    (base : Nat) (e : TypeId) (i : TypeInfo) (ht : P.underlying t = some (.slice e)) (hi : P.info? e = some i) (hz : i.zero = some (.int .u8 0)) (hsize : i.size = 1) (hby : i.bytes = 1)
    (sa : Option Addr) (n cap : Nat) (z : Nat → Int) (hs : a.eval s = .slice sa n cap) (hown : Mine w base e sa n cap z)
    (xa : Option Addr) (m c : Nat) (y : Nat → Int) (hx : a.eval x = .slice xa m c) (hc : xa = none → c = 0) (hr : Row w xa m y)
    (hm : n + m ≤ 140737488355328) (hbase : base ≤ w.heap.size)
    (h : ∀ sa' cap' w', Mine w' base e sa' (n + m) cap' (cat z n y) → w.grownBy w' (Value.slice sa n cap).ownBlock → (sa' = none → n + m = 0) → wpList P ops Q rest (a.put o.dst (.slice sa' (n + m) cap')) w') :
    wpList P ops Q (o :: rest) a w := by
  have fin : ∀ v' w', w'.ownsRow base e 1 v' (n + m) (Bs n z ++ Bs m y) → w.grownBy w' (Value.slice sa n cap).ownBlock → wpList P ops Q rest (a.put o.dst v') w' := by
    intro v' w' hown' hg
    rw [Bs_cat] at hown'
    rcases hown'.2 with ⟨rfl, h0⟩ | ⟨g, cap', cur, rfl, _⟩
    · have hM : Mine w' base e none (n + m) 0 (cat z n y) := by unfold Mine; rw [h0] at hown' ⊢; exact hown'
      have := h none 0 w' hM hg (fun _ => h0)
      rw [h0] at this; exact this
    · exact h _ cap' w' hown' hg (fun h => by cases h)
  have hml : n + m ≤ maxLen := by unfold maxLen; omega
  cases xa with
  | some ad =>
    refine wpList_append_own w hgd s x t ho base e i (.int .u8 0) 1 1 ht hi hz hsize hby rfl (by decide) _ n (Bs n z) hs hown ad m c (Bs m y) hx (by simp [Bs_length]) ?_ ?_ hml (by omega) hbase (fun v' w' h1 h2 _ => fin v' w' h1 h2)
    · intro j u hj
      have hjm : j < m := by have := (List.getElem?_eq_some_iff.1 hj).1; rwa [Bs_length] at this
      rw [Bs_get _ _ _ hjm] at hj
      rcases hr with h0 | ⟨b, off, he, hseg⟩
      · omega
      · injection he with he; subst he
        have := hseg j hjm
        rw [← hj, ← this]
        unfold Addr.add; split
        · next h => subst h; rfl
        · rfl
    · intro u hu
      obtain ⟨k, _, rfl⟩ := List.mem_map.1 hu
      rfl
  | none =>
    have h0 : m = 0 := by
      rcases hr with h0 | ⟨b, off, he, _⟩
      · exact h0
      · cases he
    have hc0 := hc rfl
    subst h0 hc0
    refine wpList_append_own_none hgd s x t ho base e i 1 ht hi _ n (Bs n z) hs hown hx (fin _ _ ?_ ?_)
    · rw [show Bs 0 y = [] from rfl, List.append_nil]; exact hown
    · exact ⟨rfl, rfl, rfl, Nat.le_refl _, fun _ _ _ => rfl⟩

/-- the bytes of a list -/
def lz (l : List Int) : Nat → Int := fun i => l.getD i 0
theorem byt_lz (l : List Int) (h : l.all (fun x => decide (0 ≤ x ∧ x < 256)) = true) : Byt (lz l) := by
  intro i
  unfold lz
  by_cases hi : i < l.length
  · rw [List.getD_eq_getElem?_getD, List.getElem?_eq_getElem hi]
    have := List.all_eq_true.1 h _ (List.getElem_mem hi)
    simpa using this
  · rw [List.getD_eq_getElem?_getD, List.getElem?_eq_none (by omega)]
    exact ⟨by simp, by simp⟩

/-- what a slice of bytes that came in is -/
theorem row_of {w : World} {a : Option Addr} {len cap : Nat} {zs : List Int}
    (h : (a = none ∧ len = 0 ∧ cap = 0 ∧ zs = []) ∨ ∃ x, a = some x ∧ len ≤ cap ∧ cap ≤ maxLen ∧ zs.length = cap ∧ (∀ i, i < zs.length → w.cell? (x.add i) = some (.int .u8 (zs.getD i 0))) ∧ ∀ n ∈ zs, (Lit.int .u8 n).wf = true) :
    ∃ z, Row w a len z ∧ Byt z ∧ (len : Int) ≤ 9223372036854775807 ∧ (a = none → cap = 0) ∧ ∀ x, a = some x → 0 < len → x.block < w.heap.size := by
  rcases h with ⟨rfl, rfl, rfl, rfl⟩ | ⟨x, rfl, hl, hm, hz, hcell, hwz⟩
  · exact ⟨fun _ => 0, .inl rfl, fun _ => ⟨by simp, by simp⟩, by omega, fun _ => rfl, fun x hx => by cases hx⟩
  · refine ⟨fun i => zs.getD i 0, ?_, ?_, ?_, (fun h => by cases h), ?_⟩
    · by_cases h0 : len = 0
      · exact .inl h0
      · obtain ⟨b, off, spot⟩ := x
        have hc := hcell 0 (by omega)
        have hspot : spot = none := by simpa [Addr.add] using World.cell?_spot hc
        subst hspot
        refine .inr ⟨b, off, rfl, fun i hi => ?_⟩
        have := hcell i (by omega)
        rw [← this]; unfold Addr.add; split
        · next h => subst h; rfl
        · rfl
    · intro i
      show 0 ≤ zs.getD i 0 ∧ zs.getD i 0 < 256
      by_cases hi : i < zs.length
      · have := hwz (zs.getD i 0) (by rw [List.getD_eq_getElem?_getD, List.getElem?_eq_getElem hi]; exact List.getElem_mem _)
        have := bounds_u8 this
        omega
      · have : zs.getD i 0 = 0 := by rw [List.getD_eq_getElem?_getD, List.getElem?_eq_none (by omega)]; rfl
        rw [this]; omega
    · have : maxLen = 9223372036854775807 := rfl
      omega
    · intro y hy h0
      injection hy with hy; subst hy
      have hc := hcell 0 (by omega)
      have := World.block_lt_of_cell? w _ hc
      simpa [Addr.add] using this
end Go.Proofs.Ytbbcckopkbiojaa
