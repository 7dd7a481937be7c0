/- Texts of this claim, merged by a program (a claim may have 60 files): Own, Ref1, NumsAny, Crc. -/
import Derived.Test.YtnbmmhoofilmfaaDoorK01
import Derived.WalkKit
import Derived.OwnWalk
import Derived.OpenShut
import Derived.Laws.AppendOwnNone
/- Rows of bytes that a call has made itself: append onto them, read and write them. No program in sight. -/
namespace Go.Proofs.YtnbmmhoofilmfaaDoor
open Go.RowKit
set_option linter.unusedVariables false

/-- n bytes as values -/
def Bs (n : Nat) (z : Nat → Int) : List Value := (List.range n).map fun i => .int .u8 (z i)
theorem Bs_length (n : Nat) (z : Nat → Int) : (Bs n z).length = n := by simp [Bs]
theorem Bs_get (n : Nat) (z : Nat → Int) (i : Nat) (h : i < n) : (Bs n z)[i]? = some (.int .u8 (z i)) := by simp [Bs, h]
/-- y behind the first n of z -/
def cat (z : Nat → Int) (n : Nat) (y : Nat → Int) : Nat → Int := fun i => if i < n then z i else y (i - n)
theorem Bs_cat (n m : Nat) (z y : Nat → Int) : Bs n z ++ Bs m y = Bs (n + m) (cat z n y) := by
  apply List.ext_getElem?
  intro i
  by_cases h : i < n
  · rw [List.getElem?_append_left (by rw [Bs_length]; exact h), Bs_get _ _ _ h, Bs_get _ _ _ (by omega)]; simp [cat, h]
  · rw [List.getElem?_append_right (by rw [Bs_length]; omega), Bs_length]
    by_cases h2 : i - n < m
    · rw [Bs_get _ _ _ h2, Bs_get _ _ _ (by omega)]; simp [cat, h]
    · rw [List.getElem?_eq_none (by rw [Bs_length]; omega), List.getElem?_eq_none (by rw [Bs_length]; omega)]
theorem Bs_congr {n : Nat} {z y : Nat → Int} (h : ∀ i, i < n → z i = y i) : Bs n z = Bs n y := by
  unfold Bs; apply List.map_congr_left; intro i hi; rw [h i (by simpa using hi)]
/-- a slice of n bytes z in memory of one's own (from the block base on) -/
def Mine (w : World) (base : Nat) (e : TypeId) (sa : Option Addr) (n cap : Nat) (z : Nat → Int) : Prop := w.ownsRow base e 1 (.slice sa n cap) n (Bs n z)

theorem Mine.parts {w : World} {base : Nat} {e : TypeId} {sa : Option Addr} {n cap : Nat} {z : Nat → Int} (h : Mine w base e sa n cap z) :
    (sa = none ∧ n = 0 ∧ cap = 0) ∨ ∃ g, sa = some ⟨g, 0, none⟩ ∧ base ≤ g ∧ g < w.heap.size ∧ n ≤ cap ∧ Seg w g 0 n z ∧ Soft w g 0 cap := by
  rcases h.2 with ⟨hv, h0⟩ | ⟨g, cap', cur, hv, hb, hg, hn, hc, hs, ht⟩
  · injection hv with h1 h2 h3; exact .inl ⟨h1, h0, h3⟩
  · injection hv with h1 h2 h3
    subst h1 h3
    have hlt := (Array.getElem?_eq_some_iff.1 hg).1
    refine .inr ⟨g, rfl, hb, hlt, hn, ?_, ?_⟩
    · intro i hi
      have := Bs_get n z i hi
      rw [← ht, List.getElem?_take_of_lt (by omega)] at this
      simp [World.cell?, hg]; simpa using this
    · intro i hi; simp [World.frozen?, hg]
theorem Mine.row {w : World} {base : Nat} {e : TypeId} {sa : Option Addr} {n cap : Nat} {z : Nat → Int} (h : Mine w base e sa n cap z) : Row w sa n z := by
  rcases h.parts with ⟨_, h0, _⟩ | ⟨g, rfl, _, _, _, hs, _⟩
  · exact .inl h0
  · exact .inr ⟨g, 0, rfl, hs⟩
theorem Mine.le {w : World} {base : Nat} {e : TypeId} {sa : Option Addr} {n cap : Nat} {z : Nat → Int} (h : Mine w base e sa n cap z) : ∀ x, sa = some x → base ≤ x.block ∧ x.block < w.heap.size := by
  intro x hx
  rcases h.parts with ⟨h0, _⟩ | ⟨g, h1, hb, hl, _⟩
  · rw [h0] at hx; cases hx
  · rw [h1] at hx; cases hx; exact ⟨hb, hl⟩
theorem Mine.drewN {w : World} {base : Nat} {e : TypeId} {sa : Option Addr} {n cap : Nat} {z : Nat → Int} (h : Mine w base e sa n cap z) (m : Nat) : Mine (w.drewN m) base e sa n cap z := h
theorem Mine.congr {w : World} {base : Nat} {e : TypeId} {sa : Option Addr} {n cap : Nat} {z y : Nat → Int} (h : Mine w base e sa n cap z) (hy : ∀ i, i < n → z i = y i) : Mine w base e sa n cap y := by
  unfold Mine; rw [← Bs_congr hy]; exact h
theorem Mine.nil (w : World) (base : Nat) (e : TypeId) (z : Nat → Int) : Mine w base e none 0 0 z := World.ownsRow_nil w base e 1
theorem Mine.bound {w : World} {base : Nat} {e : TypeId} {sa : Option Addr} {n cap : Nat} {z : Nat → Int} (h : Mine w base e sa n cap z) : n ≤ cap ∧ cap ≤ maxLen := by
  rcases h.2 with ⟨hv, h0⟩ | ⟨g, cap', cur, hv, hb, hg, hn, hc, hs, ht⟩
  · injection hv with h1 h2 h3; subst h3; simp [h0]
  · injection hv with h1 h2 h3; subst h3; exact ⟨hn, hc⟩

theorem Mine.made (w : World) (base : Nat) (e : TypeId) (z : Nat → Int) (hb : base ≤ w.heap.size) : Mine (w.alloc (.cells #[] e)) base e (some ⟨w.heap.size, 0, none⟩) 0 0 z :=
  World.ownsRow_made (cur := #[]) (cap := 0) w (base := base) (e := e) (size := 1) hb (by unfold maxLen; omega) (by simp)
theorem Mine.alloc {w : World} {base : Nat} {e : TypeId} {sa : Option Addr} {n cap : Nat} {z : Nat → Int} (h : Mine w base e sa n cap z) (o : Obj) : Mine (w.alloc o) base e sa n cap z := World.ownsRow.alloc h o
theorem Mine.grown {w w' : World} {base : Nat} {e : TypeId} {sa : Option Addr} {n cap : Nat} {z : Nat → Int} {row : Option Nat} (h : Mine w base e sa n cap z) (hg : w.grownBy w' row) (hr : ∀ x, sa = some x → some x.block ≠ row) : Mine w' base e sa n cap z := by
  refine World.ownsRow.kept h hg ?_
  cases sa with
  | none => exact .inl rfl
  | some x => exact .inr (hr x rfl)
/-- append of a row of bytes onto a row of one's own -/
theorem wpList_append_bytes {P : Program} {w : World} {ops : Array Oper} {rest : List Oper} {o : Oper} {a : Act} {Q : Exit → Act → World → Prop} (hgd : o.guard = none) (s x : Operand) (t : TypeId)
    (ho : o.op = .call { callee := .builtin .append, args := #[s, x], argTypes := #[t, t] })
    (base : Nat) (e : TypeId) (i : TypeInfo) (ht : P.underlying t = some (.slice e)) (hi : P.info? e = some i) (hz : i.zero = some (.int .u8 0)) (hsize : i.size = 1) (hby : i.bytes = 1)
    (sa : Option Addr) (n cap : Nat) (z : Nat → Int) (hs : a.eval s = .slice sa n cap) (hown : Mine w base e sa n cap z)
    (xa : Option Addr) (m c : Nat) (y : Nat → Int) (hx : a.eval x = .slice xa m c) (hc : xa = none → c = 0) (hr : Row w xa m y)
    (hm : n + m ≤ 140737488355328) (hbase : base ≤ w.heap.size)
    (h : ∀ sa' cap' w', Mine w' base e sa' (n + m) cap' (cat z n y) → w.grownBy w' (Value.slice sa n cap).ownBlock → (sa' = none → n + m = 0) → wpList P ops Q rest (a.put o.dst (.slice sa' (n + m) cap')) w') :
    wpList P ops Q (o :: rest) a w := by
  have fin : ∀ v' w', w'.ownsRow base e 1 v' (n + m) (Bs n z ++ Bs m y) → w.grownBy w' (Value.slice sa n cap).ownBlock → wpList P ops Q rest (a.put o.dst v') w' := by
    intro v' w' hown' hg
    rw [Bs_cat] at hown'
    rcases hown'.2 with ⟨rfl, h0⟩ | ⟨g, cap', cur, rfl, _⟩
    · have hM : Mine w' base e none (n + m) 0 (cat z n y) := by unfold Mine; rw [h0] at hown' ⊢; exact hown'
      have := h none 0 w' hM hg (fun _ => h0)
      rw [h0] at this; exact this
    · exact h _ cap' w' hown' hg (fun h => by cases h)
  have hml : n + m ≤ maxLen := by unfold maxLen; omega
  cases xa with
  | some ad =>
    refine wpList_append_own w hgd s x t ho base e i (.int .u8 0) 1 1 ht hi hz hsize hby rfl (by decide) _ n (Bs n z) hs hown ad m c (Bs m y) hx (by simp [Bs_length]) ?_ ?_ hml (by omega) hbase (fun v' w' h1 h2 _ => fin v' w' h1 h2)
    · intro j u hj
      have hjm : j < m := by have := (List.getElem?_eq_some_iff.1 hj).1; rwa [Bs_length] at this
      rw [Bs_get _ _ _ hjm] at hj
      rcases hr with h0 | ⟨b, off, he, hseg⟩
      · omega
      · injection he with he; subst he
        have := hseg j hjm
        rw [← hj, ← this]
        unfold Addr.add; split
        · next h => subst h; rfl
        · rfl
    · intro u hu
      obtain ⟨k, _, rfl⟩ := List.mem_map.1 hu
      rfl
  | none =>
    have h0 : m = 0 := by
      rcases hr with h0 | ⟨b, off, he, _⟩
      · exact h0
      · cases he
    have hc0 := hc rfl
    subst h0 hc0
    refine wpList_append_own_none hgd s x t ho base e i 1 ht hi _ n (Bs n z) hs hown hx (fin _ _ ?_ ?_)
    · rw [show Bs 0 y = [] from rfl, List.append_nil]; exact hown
    · exact ⟨rfl, rfl, rfl, Nat.le_refl _, fun _ _ _ => rfl⟩

/-- the bytes of a list -/
def lz (l : List Int) : Nat → Int := fun i => l.getD i 0
end Go.Proofs.YtnbmmhoofilmfaaDoor

/- Contracts of quernref01: what each function returns, and what it leaves in memory. -/
namespace Go.Proofs.YtnbmmhoofilmfaaDoor
open Go.RowKit
set_option linter.unusedVariables false

end Go.Proofs.YtnbmmhoofilmfaaDoor

/- The contracts of nums and quernref01 at any slice of bytes and any place. -/
namespace Go.Proofs.YtnbmmhoofilmfaaDoor
open Go.RowKit
set_option linter.unusedVariables false

/-- do n bytes lie at a place of len? -/
def fits (n len : Nat) (at' : Int) : Bool := decide (0 ≤ at' ∧ at' + n ≤ len)
def o16 (z : Nat → Int) (len : Nat) (at' : Int) : Int := if fits 2 len at' then g16 z at'.toNat else 0
def o32 (z : Nat → Int) (len : Nat) (at' : Int) : Int := if fits 4 len at' then g32 z at'.toNat else 0
theorem fits_yes {n len : Nat} {at' : Int} (h : 0 ≤ at' ∧ at' + n ≤ len) : fits n len at' = true := by simp [fits, h]
theorem fits_no {n len : Nat} {at' : Int} (h : ¬ (0 ≤ at' ∧ at' + n ≤ len)) : fits n len at' = false := by simp [fits]; omega
theorem Row.at {w : World} {a : Option Addr} {n : Nat} {z : Nat → Int} (h : Row w a n z) (h0 : 0 < n) : ∃ b off, a = some ⟨b, off, none⟩ ∧ Seg w b off n z := by
  rcases h with h | h
  · omega
  · exact h
theorem Row.below {w w' : World} {a : Option Addr} {n : Nat} {z : Nat → Int} (h : Row w a n z) {B : Nat} (hb : Below B w w') (hB : w.heap.size ≤ B) : Row w' a n z := by
  rcases h with h | ⟨b, off, rfl, hs⟩
  · exact .inl h
  · refine .inr ⟨b, off, rfl, fun i hi => ?_⟩
    have := World.block_lt_of_cell? w _ (hs i hi)
    rw [hb.cell (p := ⟨b, off + i, none⟩) (by simp at this ⊢; omega)]; exact hs i hi
theorem Row.drewN {w : World} {a : Option Addr} {n : Nat} {z : Nat → Int} (h : Row w a n z) (m : Nat) : Row (w.drewN m) a n z := h
theorem Row.grown {w w' : World} {a : Option Addr} {n : Nat} {z : Nat → Int} {row : Option Nat} (h : Row w a n z) (hb : w.grownBy w' row) (hr : ∀ x, a = some x → some x.block ≠ row) : Row w' a n z := by
  rcases h with h | ⟨b, off, rfl, hs⟩
  · exact .inl h
  · exact .inr ⟨b, off, rfl, fun i hi => hb.cell (hs i hi) (hr ⟨b, off, none⟩ rfl)⟩

theorem get32_any (a : Option Addr) (len cap : Nat) (at' : Int) (z : Nat → Int) (w : World) (hl : (len : Int) ≤ 9223372036854775807) (hs : Row w a len z) (hz : Byt z) :
    Calls Tryd.prog 135 #[.slice a len cap, .int .i64 at'] w fun e w' => e = .returned (.tuple #[.int .u32 (o32 z len at'), .bool (fits 4 len at')]) ∧ w = w' := by
  by_cases h : 0 ≤ at' ∧ at' + 4 ≤ len
  · obtain ⟨b, off, rfl, hs2⟩ := hs.at (by omega); clear hs; have hs := hs2; clear hs2
    rw [o32, fits_yes h, if_pos rfl]
    exact get32_yes b off len cap at' z w hl h.1 h.2 hs hz
  · rw [o32, fits_no h]
    exact get32_no a len cap at' w hl h
/-- what a put leaves: the bytes, if they fit -/
def PutsIf (c : Bool) (a : Option Addr) (at' : Int) (n : Nat) (f : Nat → Int) (w w' : World) : Prop :=
  if c then ∃ b off, a = some ⟨b, off, none⟩ ∧ Puts b (off + at'.toNat) n f w w' else ∃ m, w' = w.drewN m
def SoftRow (w : World) (a : Option Addr) (n : Nat) : Prop := ∀ b off, a = some ⟨b, off, none⟩ → Soft w b off n

theorem PutsIf.only {c : Bool} {b off : Nat} {at' : Int} {n : Nat} {f : Nat → Int} {w w' : World} (h : PutsIf c (some ⟨b, off, none⟩) at' n f w w') : Only b w w' := by
  cases c with
  | true => obtain ⟨b', off', he, hp⟩ := h; cases he; exact hp.only
  | false => obtain ⟨m, rfl⟩ := h; exact (Only.refl b w).drewN m
theorem PutsIf.seg {c : Bool} {b off : Nat} {at' : Int} {n : Nat} {f : Nat → Int} {w w' : World} (h : PutsIf c (some ⟨b, off, none⟩) at' n f w w') {m : Nat} {z : Nat → Int} (hs : Seg w b off m z) :
    Seg w' b off m (if c then over z at'.toNat n f else z) := by
  cases c with
  | true => obtain ⟨b', off', he, hp⟩ := h; cases he; exact hp.seg hs rfl
  | false => obtain ⟨m', rfl⟩ := h; exact hs

end Go.Proofs.YtnbmmhoofilmfaaDoor

/- Contracts of crc.Sum and of quernref02.Sum. -/
namespace Go.Proofs.YtnbmmhoofilmfaaDoor
open Go.RowKit
set_option linter.unusedVariables false

/-- the table of four shifts lies in its variable -/
def Tab (w : World) : Prop := ∀ i, i < 16 → w.cell? ⟨0, i, none⟩ = some (.int .u32 ((tabN.getD i 0 : Nat) : Int))
theorem Tab.lt {w : World} (h : Tab w) : 0 < w.heap.size := World.block_lt_of_cell? w _ (h 0 (by omega))
theorem Tab.below {w w' : World} (h : Tab w) {B : Nat} (hb : Below B w w') (hB : w.heap.size ≤ B) : Tab w' := fun i hi => (hb.cell (p := ⟨0, i, none⟩) (by have := h.lt; show 0 < B; omega)).trans (h i hi)
theorem Tab.alloc {w : World} (h : Tab w) (o : Obj) : Tab (w.alloc o) := h.below ((Below.refl _ _).alloc (Nat.le_refl _) o) (Nat.le_refl _)
theorem Tab.only {w w' : World} (h : Tab w) {b : Nat} (hb : Only b w w') (hg : b ≠ 0) : Tab w' := fun i hi => (hb.cell (p := ⟨0, i, none⟩) (fun e => hg e.symm)).trans (h i hi)

theorem xor_max {v : Nat} (hv : v < 4294967296) : bits .xor .u32 4294967295 (v : Int) = ((4294967295 - v : Nat) : Int) := by
  have h := u32_xor_nat 4294967295 v (by omega) hv
  rw [show ((4294967295 : Nat) : Int) = 4294967295 from rfl] at h
  rw [h]
  congr 1
  refine Nat.eq_of_testBit_eq fun j => ?_
  have h1 := Nat.testBit_two_pow_sub_succ (x := v) (n := 32) hv j
  have h2 := Nat.testBit_two_pow_sub_succ (x := 0) (n := 32) (by omega) j
  rw [show (2 : Nat) ^ 32 - (v + 1) = 4294967295 - v by omega] at h1
  rw [show (2 : Nat) ^ 32 - (0 + 1) = 4294967295 by omega] at h2
  rw [Nat.testBit_xor, h1, h2, Nat.zero_testBit]
  by_cases hj : j < 32
  · simp [hj]
  · rw [Nat.testBit_lt_two_pow (x := v) (i := j) (Nat.lt_of_lt_of_le hv (by rw [show (4294967296 : Nat) = 2 ^ 32 from rfl]; exact Nat.pow_le_pow_right (by omega) (by omega)))]
    simp [hj]
theorem nib_facts (v : Nat) (hv : v < 4294967296) {w : World} (hT : Tab w) : ∃ q r t u : Nat, r < 16 ∧ u < 4294967296 ∧ bits .and .u32 (v : Int) 15 = (r : Int) ∧ (v : Int) / 16 = (q : Int) ∧ bits .xor .u32 (q : Int) (t : Int) = (u : Int) ∧
    w.cell? ⟨0, r, none⟩ = some (.int .u32 (t : Int)) ∧ Hid (nibN v = u) := by
  have ht : tabN.getD (v % 16) 0 < 4294967296 := by
    have : ∀ r, r < 16 → tabN.getD r 0 < 4294967296 := by decide
    exact this _ (Nat.mod_lt _ (by omega))
  refine ⟨v / 16, v % 16, tabN.getD (v % 16) 0, nibN v, Nat.mod_lt _ (by omega), xor_lt 32 (by omega) ht, ?_, by omega, ?_, hT _ (Nat.mod_lt _ (by omega)), rfl⟩
  · have := u32_and_nat v 15 (by omega) (by omega)
    rw [show ((15 : Nat) : Int) = 15 from rfl] at this
    rw [this, show (15 : Nat) = 2 ^ 4 - 1 from rfl, Nat.and_two_pow_sub_one_eq_mod]
  · exact u32_xor_nat _ _ (by omega) ht
/-- m rows of bytes stand in a row of slices -/
structure Pieces (w : World) (a : Option Addr) (m : Nat) (pl : Nat → Nat) (pz : Nat → Nat → Int) : Prop where
  at' : ∀ k, k < m → ∃ b off, a = some ⟨b, off, none⟩ ∧ ∃ s cap, w.cell? ⟨b, off + k, none⟩ = some (.slice s (pl k) cap) ∧ Row w s (pl k) (pz k) ∧ (pl k : Int) ≤ 9223372036854775807

set_option maxRecDepth 100000 in
set_option maxHeartbeats 2000000 in
theorem crcSum_any (a : Option Addr) (m cap : Nat) (pl : Nat → Nat) (pz : Nat → Nat → Int) (w : World) (hl : (m : Int) ≤ 9223372036854775807) (hp : Pieces w a m pl pz) (hz : ∀ k, Byt (pz k)) (hT : Tab w) :
    Calls Tryd.prog 96 #[.slice a m cap] w fun e w' => e = .returned (.int .u32 ((4294967295 - foldP 4294967295 pl pz m : Nat) : Int)) ∧ w = w' := by
  have HT := Lib.hid hT
  have HP := Lib.hid hp
  clear hT hp
  go_enter Tryd.func96, Tryd.ntmps96
  go_wp2
  go_loop [3, 10] (fun v k => ∃ j : Nat, j ≤ m ∧ k = .int .i64 j ∧ v = .int .u32 ((foldP 4294967295 pl pz j : Nat) : Int)) (fun _ k => m - (intOf k).toNat)
  case atStart => exact ⟨0, by omega, rfl, rfl⟩
  case round =>
    obtain ⟨j, hj, rfl, rfl⟩ := hrel
    by_cases hlt : j < m
    · obtain ⟨b, off, rfl, s, cap', hc, hr, hlen⟩ := HP.out.at' j hlt
      have HR := Lib.hid hr
      have HV : Hid (foldP 4294967295 pl pz j < 4294967296) := foldP_lt (by omega) hz j
      have HS : Hid (foldN (foldP 4294967295 pl pz j) (pz j) 0 = foldP 4294967295 pl pz j ∧ foldP 4294967295 pl pz (j + 1) = foldN (foldP 4294967295 pl pz j) (pz j) (pl j)) := ⟨rfl, rfl⟩
      have hzj := hz j
      generalize foldP 4294967295 pl pz j = V at *
      clear hr
      go_wp2
      go_loop [3, 16] (fun v k => ∃ i : Nat, i ≤ pl j ∧ k = .int .i64 i ∧ v = .int .u32 ((foldN V (pz j) i : Nat) : Int)) (fun _ k => pl j - (intOf k).toNat)
      case atStart => exact ⟨0, by omega, rfl, rfl⟩
      case round =>
        obtain ⟨i, hi, rfl, rfl⟩ := hrel
        by_cases hlt2 : i < pl j
        · rcases HR.out with h0 | ⟨b', off', rfl, hseg⟩
          · omega
          have hc' := hseg i hlt2
          have hb := hzj i
          have HF : Hid (foldN V (pz j) i < 4294967296) := foldN_lt HV.out hzj i
          have HE : Hid (foldN V (pz j) (i + 1) = nibN (nibN (foldN V (pz j) i ^^^ (pz j i).toNat))) := by
            show stepN _ _ = _
            rw [nib_sh4, nib_sh4]; rfl
          generalize foldN V (pz j) i = v at *
          obtain ⟨v1, ev1⟩ : ∃ v1, v ^^^ (pz j i).toNat = v1 := ⟨_, rfl⟩
          have hv1 : v1 < 4294967296 := by rw [← ev1]; exact xor_lt 32 HF.out (by omega)
          have e1 : bits .xor .u32 (v : Int) (pz j i) = (v1 : Int) := by rw [u32_xor _ _ (by omega) (by have := HF.out; omega) hb.1 (by omega), Int.toNat_natCast, ev1]
          obtain ⟨q1, r1, t1, v2, hr1, hv2, e2, e3, e4, hct1, HN1⟩ := nib_facts v1 hv1 HT.out
          obtain ⟨q2, r2, t2, v3, hr2, hv3, e5, e6, e7, hct2, HN2⟩ := nib_facts v2 hv2 HT.out
          have HE2 : Hid (foldN V (pz j) (i + 1) = v3) := by show _ = _; rw [HE.out, ev1, HN1.out, HN2.out]
          clear HE HN1 HN2 ev1
          go_wp2
          go_round
          case rel => exact ⟨i + 1, by omega, by go_num, by rw [HE2.out]⟩
          case measure => simp [intOf]; omega
        · obtain rfl : i = pl j := by omega
          go_wp2
          go_round
          case rel => exact ⟨j + 1, by omega, by go_num, by rw [HS.out.2]⟩
          case measure => simp [intOf]; omega
    · obtain rfl : j = m := by omega
      have HN : Hid (bits .xor .u32 4294967295 ((foldP 4294967295 pl pz j : Nat) : Int) = ((4294967295 - foldP 4294967295 pl pz j : Nat) : Int)) := xor_max (foldP_lt (by omega) hz j)
      go_wp2
      go_ret
      exact ⟨by rw [show IntKind.u32.max = 4294967295 from by decide, HN.out]; rfl, rfl⟩

def iter (f : Nat → Nat) : Nat → Nat → Nat
  | 0, v => v
  | k + 1, v => f (iter f k v)
end Go.Proofs.YtnbmmhoofilmfaaDoor
