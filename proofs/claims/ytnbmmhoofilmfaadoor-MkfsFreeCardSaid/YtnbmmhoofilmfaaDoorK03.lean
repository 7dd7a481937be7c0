/- Texts of this claim, merged by a program (a claim may have 60 files): More, AppendB, Slice, Range, Tell. -/
import Derived.Test.YtnbmmhoofilmfaaDoorK02
import Derived.RangeFuncNested
import Derived.RangeFuncBound
import Derived.RangeFuncCalls
import Derived.RangeFuncLeaves
import Derived.RangeFuncWrites
import Derived.WalkKit
import Derived.OwnWalkIn
import Derived.Shelf.Abstract
import Derived.TacticsInMore
import Derived.LoopNIn
import Derived.LoopIn
import Derived.Lib.LazyBuf
/- More plain words on rows of bytes. -/
namespace Go.Proofs.YtnbmmhoofilmfaaDoor
open Go.RowKit
theorem Seg.alloc {w : World} {b off n : Nat} {z : Nat → Int} (h : Seg w b off n z) (o : Obj) : Seg (w.alloc o) b off n z := by
  intro i hi
  have h1 := h i hi
  have := World.block_lt_of_cell? w _ h1
  rw [World.cell?_of_block (w := w) (Below.heap_alloc w o b this)]; exact h1
theorem Soft.alloc {w : World} {b off n : Nat} (h : Soft w b off n) (hb : b < w.heap.size) (o : Obj) : Soft (w.alloc o) b off n := by
  intro i hi
  rw [World.frozen?_of_block (w := w) (Below.heap_alloc w o b hb)]; exact h i hi
theorem Row.alloc {w : World} {a : Option Addr} {n : Nat} {z : Nat → Int} (h : Row w a n z) (o : Obj) : Row (w.alloc o) a n z := by
  rcases h with h | ⟨b, off, rfl, hs⟩
  · exact .inl h
  · exact .inr ⟨b, off, rfl, hs.alloc o⟩
theorem Seg.lt {w : World} {b off n : Nat} {z : Nat → Int} (h : Seg w b off n z) (h0 : 0 < n) : b < w.heap.size := World.block_lt_of_cell? w _ (h 0 h0)
theorem Seg.below {w w' : World} {b off n : Nat} {z : Nat → Int} (h : Seg w b off n z) {B : Nat} (hb : Below B w w') (hB : b < B) : Seg w' b off n z :=
  fun i hi => (hb.cell (p := ⟨b, off + i, none⟩) hB).trans (h i hi)
theorem Soft.below {w w' : World} {b off n : Nat} (h : Soft w b off n) {B : Nat} (hb : Below B w w') (hB : b < B) : Soft w' b off n :=
  fun i hi => (hb.frozen (p := ⟨b, off + i, none⟩) hB).trans (h i hi)

theorem Row.take {w : World} {a : Option Addr} {n : Nat} {z : Nat → Int} (h : Row w a n z) (m : Nat) (hm : m ≤ n) : Row w a m z := by
  rcases h with h | ⟨b, off, rfl, hs⟩
  · exact .inl (by omega)
  · exact .inr ⟨b, off, rfl, hs.take m hm⟩
theorem byteOf_sum2 (v : Int) (h0 : 0 ≤ v) (h1 : v < 65536) : byteOf v 0 + 256 * byteOf v 1 = v := by
  rw [byteOf_succ, byteOf_zero, byteOf_zero]; omega
theorem byteOf_sum4 (v : Int) (h0 : 0 ≤ v) (h1 : v < 4294967296) : byteOf v 0 + 256 * byteOf v 1 + 65536 * byteOf v 2 + 16777216 * byteOf v 3 = v := by
  rw [byteOf_succ v 2, byteOf_succ (v / 256) 1, byteOf_succ v 1, byteOf_succ (v / 256) 0, byteOf_succ (v / 256 / 256) 0, byteOf_succ v 0]
  simp only [byteOf_zero]; omega
/-- what was put is got -/
theorem g32_over (z : Nat → Int) (k : Nat) (v : Int) (h0 : 0 ≤ v) (h1 : v < 4294967296) : g32 (over z k 4 (byteOf v)) k = v := by
  unfold g32 over
  rw [if_pos (by omega), if_pos (by omega), if_pos (by omega), if_pos (by omega), Nat.sub_self, show k + 1 - k = 1 by omega, show k + 2 - k = 2 by omega, show k + 3 - k = 3 by omega]
  exact byteOf_sum4 v h0 h1
/-- a number's halves -/
theorem g32_halves (z : Nat → Int) (k : Nat) : g32 z k = g16 z k + 65536 * g16 z (k + 2) := by unfold g32 g16; rw [show k + 2 + 1 = k + 3 from rfl]; omega
/-- elsewhere nothing is changed -/
theorem over_out (z : Nat → Int) (k n i : Nat) (f : Nat → Int) (h : i < k ∨ k + n ≤ i) : over z k n f i = z i := by unfold over; rw [if_neg (by omega)]
theorem over_in (z : Nat → Int) (k n i : Nat) (f : Nat → Int) (h : k ≤ i ∧ i < k + n) : over z k n f i = f (i - k) := by unfold over; rw [if_pos h]
theorem g32_out (z : Nat → Int) (k n i : Nat) (f : Nat → Int) (h : i + 4 ≤ k ∨ k + n ≤ i) : g32 (over z k n f) i = g32 z i := by
  unfold g32
  rw [over_out z k n i f (by omega), over_out z k n (i + 1) f (by omega), over_out z k n (i + 2) f (by omega), over_out z k n (i + 3) f (by omega)]
theorem g16_out (z : Nat → Int) (k n i : Nat) (f : Nat → Int) (h : i + 2 ≤ k ∨ k + n ≤ i) : g16 (over z k n f) i = g16 z i := by
  unfold g16
  rw [over_out z k n i f (by omega), over_out z k n (i + 1) f (by omega)]
theorem byteOf_g16 (z : Nat → Int) (hz : Byt z) (k i : Nat) (hi : i < 2) : byteOf (g16 z k) i = z (k + i) := by
  have h0 := hz k; have h1 := hz (k + 1)
  obtain rfl | rfl : i = 0 ∨ i = 1 := by omega
  · rw [byteOf_zero, Nat.add_zero]; unfold g16; omega
  · rw [byteOf_succ, byteOf_zero]; unfold g16; omega
end Go.Proofs.YtnbmmhoofilmfaaDoor

/- append of bytes onto a row of bytes of one's own, in this program's own numbers. -/
namespace Go.Proofs.YtnbmmhoofilmfaaDoor
open Go.RowKit
theorem info8 : (Tryd.prog.info? 5).map (fun i => (i.zero, i.size, i.bytes)) = some (some (.int .u8 0), 1, 1) := by kernel_rfl
theorem wp_appendB {w : World} {ops : Array Oper} {rest : List Oper} {o : Oper} {a : Act} {Q : Exit → Act → World → Prop} (hgd : o.guard = none) (s x : Operand)
    (ho : o.op = .call { callee := .builtin .append, args := #[s, x], argTypes := #[142, 142] }) (base : Nat)
    (sa : Option Addr) (n cap : Nat) (z : Nat → Int) (hs : a.eval s = .slice sa n cap) (hown : Mine w base 5 sa n cap z)
    (xa : Option Addr) (m c : Nat) (y : Nat → Int) (hx : a.eval x = .slice xa m c) (hc : xa = none → c = 0) (hr : Row w xa m y)
    (hm : n + m ≤ 140737488355328) (hbase : base ≤ w.heap.size)
    (h : ∀ sa' cap' w', Mine w' base 5 sa' (n + m) cap' (cat z n y) → w.grownBy w' (Value.slice sa n cap).ownBlock → (sa' = none → n + m = 0) → wpList Tryd.prog ops Q rest (a.put o.dst (.slice sa' (n + m) cap')) w') :
    wpList Tryd.prog ops Q (o :: rest) a w := by
  obtain ⟨i0, hi, hz0, hz1, hz2⟩ := info_parts info8
  exact wpList_append_bytes hgd s x _ ho base _ i0 Tryd.underlying142 hi hz0 hz1 hz2 sa n cap z hs hown xa m c y hx hc hr hm hbase h
end Go.Proofs.YtnbmmhoofilmfaaDoor

/- Slices of slices of bytes: what 's[k:]' is, in this program's own numbers. -/
namespace Go.Proofs.YtnbmmhoofilmfaaDoor
open Go.RowKit
/-- where 's[k:]' begins -/
def slAt (a : Option Addr) (k cap : Nat) : Option Addr := if cap = k then a else a.map (·.add k)
theorem Row.slice {w : World} {a : Option Addr} {len cap k : Nat} {z : Nat → Int} (h : Row w a len z) (hk : k ≤ len) (hc : len ≤ cap) : Row w (slAt a k cap) (len - k) (fun i => z (k + i)) := by
  by_cases h0 : len - k = 0
  · exact .inl h0
  · rcases h with h | ⟨b, off, rfl, hs⟩
    · omega
    · unfold slAt
      rw [if_neg (by omega)]
      refine .inr ⟨b, off + k, ?_, hs.sub k _ (by omega)⟩
      simp only [Option.map_some, Addr.add]
      by_cases hk0 : k = 0
      · subst hk0; rw [if_pos rfl, Nat.add_zero]
      · rw [if_neg hk0]
theorem run_sl_low (a : Option Addr) (len cap k : Nat) (K : Int) (hK : K = (k : Int)) (hk : k ≤ len) (w : World) :
    (Instr.slice 142 (.slice a len cap) (some (.int .i64 K)) none none).run Tryd.prog w = .ok (.slice (slAt a k cap) (len - k) (cap - k)) w := by
  subst hK
  have hsz : (Go.sizeOf 5).run Tryd.prog w = .ok 1 w := by kernel_rfl
  rw [run_slice_l w 142 a len cap (by kernel_rfl) .i64 (k : Int) (by omega) (by omega), show Tryd.prog.elem 142 = 5 from by kernel_rfl, hsz]
  simp only [Result.andThen, sliced, slAt, Int.toNat_natCast, Nat.mul_one]
end Go.Proofs.YtnbmmhoofilmfaaDoor

/- A range over a function whose iterator hands over a known row of values: a law for the caller, by the number of the rounds that are over. No program in sight. -/
namespace Go.Proofs.YtnbmmhoofilmfaaDoor
open Go.RowKit
variable {F : Fence} {n : Nat} {P : Program}

/-- what turns is new, or one of some blocks -/
def Turns (own : Nat → Prop) (A B : World) : Prop := ∃ row, A.grownBy B row ∧ ∀ r, row = some r → own r

/-- An iterator hands over N values, the k-th encs k. own: blocks that it turns itself. Need k: what it wants of memory, k rounds being over. -/
def IterIx (F : Fence) (n : Nat) (P : Program) (g : Nat) (lb : Array Value) (encs : Nat → Array Value) (N : Nat) (own : Nat → Prop) (Need : Nat → World → Prop) : Prop :=
  ∀ (l : Nat) (J Jx : Nat → World → Prop) (W : World),
    (∀ k A B, J k A → Turns own A B → J k B) → (∀ k A B, Jx k A → Turns own A B → Jx k B) →
    (∀ k A, k < N → J k A → Need k A → YieldAt F (n - 1) P l (encs k) A fun e B => (e = .returned (.bool true) ∧ J (k + 1) B ∧ Need k B) ∨ (e = .returned (.bool false) ∧ Jx k B)) →
    J 0 W → Need 0 W →
    CallsIn F n P g (#[.func (.yield l) #[] #[]] ++ lb) W fun e B => (∃ v, e = .returned v) ∧ (J N B ∨ ∃ k, k < N ∧ Jx k B)

/-- how the body of round k may be left -/
def roundIx (B : Nat) (J : Nat → World → Prop) (Jx : Code → Nat → World → Prop) (Need : Nat → World → Prop) (k : Nat) (W : World) : Exit → Act → World → Prop
  | .normal, _, W' => KeepsFrom B W W' ∧ J (k + 1) W' ∧ Need k W'
  | .ret, _, W' => KeepsFrom B W W' ∧ Jx .ret k W'
  | .exit id, _, W' => KeepsFrom B W W' ∧ Jx (.exit id) k W'
  | .goto t, _, W' => KeepsFrom B W W' ∧ Jx (.goto t) k W'
  | .panic _, _, _ => False
  | .outgrown, _, _ => False

theorem wpIn_rangeIx {g : Operand} {ps : Array Tmp} {assign body : Code} {Q : Exit → Act → World → Prop} {a : Act} {w : World}
    (hro : F.round = none) (h1 : 1 ≤ n) {gf : Nat} {lb : Array Value} (hg : a.eval g = .func (.func gf) #[] lb) (hFg : F.fn gf) (eg : ∀ args w, (callFunc gf args).run P w = .ok (.enter gf args) w)
    {encs : Nat → Array Value} {N : Nat} {own : Nat → Prop} {Need : Nat → World → Prop} (hit : IterIx F (n - 1) P gf lb encs N own Need)
    (hown : ∀ r, own r → r < w.heap.size) (hps : ∀ k, (encs k).size = ps.size)
    (J : Nat → World → Prop) (Jx : Code → Nat → World → Prop) (Ax : Nat → Act → World → Prop)
    (hJ : OwnFrom w.heap.size J) (hJx : ∀ c, OwnFrom w.heap.size (Jx c)) (hN : OwnFrom w.heap.size Need) (hAx : ∀ a', OwnFrom w.heap.size (fun k W => Ax k a' W))
    (hJo : ∀ k A B, J k A → Turns own A B → J k B) (hJxo : ∀ c k A B, Jx c k A → Turns own A B → Jx c k B)
    (h0 : J 0 w) (hn0 : Need 0 w)
    (hassign : ∀ (l k : Nat) (W : World) (K : Act → World → Prop), k < N → J k W → Need k W →
      (∀ a' W', KeepsFrom w.heap.size W W' → J k W' → Need k W' → Ax k a' W' → K a' W') →
      assign.wpIn (F.inRound l) (n - 1 - 1) P (Exit.then K (fun _ _ _ => False)) { tmps := (ps.zip (encs k)).foldl (fun t (p, v) => t.setIfInBounds p v) a.tmps, defers := [] } W)
    (hbody : ∀ (l k : Nat) (a' : Act) (W : World), k < N → J k W → Need k W → Ax k a' W → body.wpIn (F.inRound l) (n - 1 - 1) P (roundIx w.heap.size J Jx Need k W) a' W)
    (hdone : ∀ (D : Nat) (W : World), w.heap.size ≤ D → J N W → W.heap[D]? = some (.deferred (some [])) → Q .normal { a with defers := { target := .collected D, args := #[] } :: a.defers } W)
    (hstop : ∀ (D : Nat) (c : Code) (k : Nat) (W : World), w.heap.size ≤ D → k < N → Jx c k W → W.heap[D]? = some (.deferred (some [])) → c.wpIn F n P Q { a with defers := { target := .collected D, args := #[] } :: a.defers } W) :
    (Code.rangeFunc g ps assign body).wpIn F n P Q a w := by
  refine wpIn_rangeFunc ?_
  intro fn hfn
  rw [hro]
  -- the record of the loop, by its state and its pending jump
  generalize hrc : (fun (st : LoopState) (pe : Option Code) => ({ state := st, pending := pe, fn := fn, tmps := a.tmps, params := ps, assign := assign, body := body, defers := w.heap.size } : Loop)) = rc
  have hrcs : ∀ st pe, rc st pe = { state := st, pending := pe, fn := fn, tmps := a.tmps, params := ps, assign := assign, body := body, defers := w.heap.size } := fun st pe => by rw [← hrc]
  clear hrc
  let W1 := (w.alloc (.deferred (some []))).alloc (.loop (rc .ready none))
  have hL1 : W1.heap[w.heap.size + 1]? = some (.loop (rc .ready none)) := by
    have := World.alloc_heap_new (w.alloc (.deferred (some []))) (.loop (rc .ready none)); rwa [World.size_alloc] at this
  have hK1 : W1.heap[w.heap.size]? = some (.deferred (some [])) := (Below.heap_alloc _ _ _ (by simp)).trans (World.alloc_heap_new w _)
  have grow1 : w.grownBy W1 none := ⟨rfl, rfl, rfl, by simp [W1]; omega, fun k hk _ => by
    show ((w.alloc _).alloc _).heap[k]? = _
    rw [Below.heap_alloc _ _ _ (by simp; omega), Below.heap_alloc _ _ _ hk]⟩
  have keep : ∀ {X : Nat → World → Prop}, OwnFrom w.heap.size X → ∀ k, X k w → X k W1 := fun h k hx => h k w W1 none hx grow1 (fun r e => by cases e)
  -- the two facts of book-keeping abide what the iterator turns
  have book : ∀ {A B : World} {k : Nat} {o : Obj}, Turns own A B → w.heap.size ≤ k → A.heap[k]? = some o → B.heap[k]? = some o := by
    rintro A B k o ⟨row, hgr, hr⟩ hk ho
    refine (hgr.block k (Array.getElem?_eq_some_iff.1 ho).1 (fun e => ?_)).trans ho
    have := hown k (hr k e.symm)
    omega
  refine ⟨w.heap.size + 1, [{ target := .collected w.heap.size, args := #[] }], W1, { target := .fn (.func gf) lb, args := #[.func (.yield (w.heap.size + 1)) #[] #[]] }, W1, gf,
    #[.func (.yield (w.heap.size + 1)) #[] #[]] ++ lb, W1, ?_, ?_, ?_, ?_, fun _ => h1, ?_⟩
  · show _ = Result.ok (_, _) ((w.alloc (.deferred (some []))).alloc (.loop (rc .ready none)))
    rw [hrcs]; exact run_enterLoop_outer _ _ _ _ _
  · simp only [resolve, hg]
    simp [go_sem]
  · intro f' hf'; simp [Target.leads] at hf'; subst hf'; exact hFg
  · simp [invoke, go_sem, eg]
  refine (hit (w.heap.size + 1)
    (fun k W => J k W ∧ W.heap[w.heap.size + 1]? = some (.loop (rc .ready none)) ∧ W.heap[w.heap.size]? = some (.deferred (some [])))
    (fun k W => ∃ c, Jx c k W ∧ W.heap[w.heap.size + 1]? = some (.loop (rc .done (some c))) ∧ W.heap[w.heap.size]? = some (.deferred (some [])))
    W1
    (fun k A B hs ht => ⟨hJo k A B hs.1 ht, book ht (by omega) hs.2.1, book ht (Nat.le_refl _) hs.2.2⟩)
    (fun k A B hs ht => by
      obtain ⟨c, hc, hl, hk⟩ := hs
      exact ⟨c, hJxo c k A B hc ht, book ht (by omega) hl, book ht (Nat.le_refl _) hk⟩)
    ?_ ⟨keep hJ 0 h0, hL1, hK1⟩ (keep hN 0 hn0)).mono ?_
  · -- one round
    rintro k W hkN ⟨hj, hl, hd⟩ hnd
    have hy := run_yield (P := P) (args := encs k) hl (by rw [hrcs]; exact hps k)
    rw [hrcs] at hy
    refine ⟨fn, _, assign, body, hy, roundIn_of_wpIn hfn (hassign _ k W _ hkN hj hnd ?_)⟩
    intro a' V hkf hjV hndV hax
    have hlV := hkf.same _ _ (by omega) hl rfl
    have hdV := hkf.same _ _ (Nat.le_refl _) hd rfl
    have hltV : w.heap.size + 1 < V.heap.size := (Array.getElem?_eq_some_iff.1 hlV).1
    refine ⟨_, run_beginRound hlV (by rw [hrcs]), ?_⟩
    generalize hbz : ({ rc .ready none with state := .busy } : Loop) = bz
    have hl2 : (V.putObj (w.heap.size + 1) (.loop bz)).heap[w.heap.size + 1]? = some (.loop bz) := World.putObj_heap_same hltV
    have hd2 : (V.putObj (w.heap.size + 1) (.loop bz)).heap[w.heap.size]? = some (.deferred (some [])) := (World.putObj_heap_other (by omega)).trans hdV
    refine wpIn_mono (hbody _ k a' _ hkN (hJ.putObj _ hjV (by omega) hlV rfl) (hN.putObj _ hndV (by omega) hlV rfl) ((hAx a').putObj _ hax (by omega) hlV rfl)) ?_
    have fin : ∀ (jump : Option Code) (U : World), KeepsFrom w.heap.size (V.putObj (w.heap.size + 1) (.loop bz)) U →
        (Instr.endRound (w.heap.size + 1) jump).run P U = .ok (.bool jump.isNone) (U.putObj (w.heap.size + 1) (.loop (rc (if jump.isNone then .ready else .done) jump))) ∧
        U.heap[w.heap.size + 1]? = some (.loop bz) ∧
        (U.putObj (w.heap.size + 1) (.loop (rc (if jump.isNone then .ready else .done) jump))).heap[w.heap.size + 1]? = some (.loop (rc (if jump.isNone then .ready else .done) jump)) ∧
        (U.putObj (w.heap.size + 1) (.loop (rc (if jump.isNone then .ready else .done) jump))).heap[w.heap.size]? = some (.deferred (some [])) := by
      intro jump U hkU
      have hlU := hkU.same _ _ (by omega) hl2 rfl
      have he := run_endRound (P := P) jump hlU
      refine ⟨?_, hlU, World.putObj_heap_same (Array.getElem?_eq_some_iff.1 hlU).1, (World.putObj_heap_other (by omega)).trans (hkU.same _ _ (Nat.le_refl _) hd2 rfl)⟩
      rw [he, ← hbz, hrcs, hrcs]
    rintro e a3 U hp
    cases e with
    | normal =>
      obtain ⟨hkU, hjU, hndU⟩ := hp
      obtain ⟨hr, hlU, hl4, hd4⟩ := fin none U hkU
      exact ⟨_, _, hr, .inl ⟨rfl, ⟨hJ.putObj _ hjU (by omega) hlU rfl, hl4, hd4⟩, hN.putObj _ hndU (by omega) hlU rfl⟩⟩
    | ret =>
      obtain ⟨hkU, hjU⟩ := hp
      obtain ⟨hr, hlU, hl4, hd4⟩ := fin (some .ret) U hkU
      exact ⟨_, _, hr, .inr ⟨rfl, .ret, (hJx _).putObj _ hjU (by omega) hlU rfl, hl4, hd4⟩⟩
    | exit id =>
      obtain ⟨hkU, hjU⟩ := hp
      obtain ⟨hr, hlU, hl4, hd4⟩ := fin (some (.exit id)) U hkU
      exact ⟨_, _, hr, .inr ⟨rfl, .exit id, (hJx _).putObj _ hjU (by omega) hlU rfl, hl4, hd4⟩⟩
    | goto t =>
      obtain ⟨hkU, hjU⟩ := hp
      obtain ⟨hr, hlU, hl4, hd4⟩ := fin (some (.goto t)) U hkU
      exact ⟨_, _, hr, .inr ⟨rfl, .goto t, (hJx _).putObj _ hjU (by omega) hlU rfl, hl4, hd4⟩⟩
    | panic ch => exact hp.elim
    | outgrown => exact hp.elim
  · -- the iterator has returned
    rintro e W2 ⟨⟨v, rfl⟩, (⟨hj, hl, hd⟩ | ⟨k, hkN, c, hj, hl, hd⟩)⟩
    · exact ⟨none, _, by have := run_endLoop (P := P) hl (by rw [hrcs]; simp); rw [hrcs] at this; exact this, hdone _ _ (Nat.le_refl _) (hJ.putObj _ hj (by omega) hl rfl) ((World.putObj_heap_other (by omega)).trans hd)⟩
    · exact ⟨some c, _, by have := run_endLoop (P := P) hl (by rw [hrcs]; simp); rw [hrcs] at this; exact this, hstop _ c k _ (Nat.le_refl _) hkN ((hJx c).putObj _ hj (by omega) hl rfl) ((World.putObj_heap_other (by omega)).trans hd)⟩
end Go.Proofs.YtnbmmhoofilmfaaDoor

/- Contracts of slices.Clone at bytes, of nums.Tell and of the iterator that it hands back. -/
namespace Go.Proofs.YtnbmmhoofilmfaaDoor
open Go.RowKit Go.Shelf
set_option linter.unusedVariables false
attribute [local go_sem] Oper.semAt_some

theorem cell_boxed (w : World) (v : Value) (t : TypeId) : (w.alloc (.cells #[v] t)).cell? ⟨w.heap.size, 0, none⟩ = some v := by
  simp only [World.cell?, heap_alloc_new]; rfl

theorem clone_any (a : Option Addr) (len cap : Nat) (z : Nat → Int) (w : World) (hr : Row w a len z) (hc : a = none → cap = 0 ∧ len = 0) (hl : len ≤ 140737488355328) (base : Nat) (hb : base ≤ w.heap.size) :
    Calls Tryd.prog 175 #[.slice a len cap] w fun e w' => ∃ sa cap', e = .returned (.slice sa len cap') ∧ Mine w' base 5 sa len cap' z ∧ Below w.heap.size w w' := by
  have hq := fun w => run_eql_slice_nil (P := Tryd.prog) w 142 5 a len cap Tryd.underlying142
  have hcz : Hid (cat (fun _ => 0) 0 z = z) := by show _ = _; funext i; simp [cat]
  cases a with
  | none =>
    obtain ⟨rfl, rfl⟩ := hc rfl
    go_enter Tryd.func175, Tryd.ntmps175
    go_wp2_with fail
    go_ret
    exact ⟨none, 0, rfl, Mine.nil _ _ _ _, Below.refl _ _⟩
  | some x =>
    go_enter Tryd.func175, Tryd.ntmps175
    go_wp2_with (at_builtin; refine wp_appendB rfl (.tmp 5) (.tmp 6) rfl base _ 0 0 (fun _ => 0) rfl (Mine.made w base _ _ hb) (some x) len cap z rfl (fun h => by cases h) (hr.alloc _) (by omega) (by simp; omega) ?_)
    intro sa cap' w1 hm hg _
    rw [hcz.out] at hm
    go_wp2_with fail
    go_ret
    exact ⟨sa, cap', rfl, hm, ((Below.refl _ _).alloc (Nat.le_refl _) _).grown hg (by simp) (fun k hk => by cases hk; exact Nat.le_refl _)⟩

/-- what the iterator of Tell wants of memory -/
def TellNeed (B : Nat) (sa : Option Addr) (len cap : Nat) (z : Nat → Int) : Nat → World → Prop := fun _ W => W.cell? ⟨B, 0, none⟩ = some (.slice sa len cap) ∧ Row W sa len z
def tellEnc (z : Nat → Int) (k : Nat) : Array Value := #[.int .i64 (4 * (k : Int)), .int .u32 (g32 z (4 * k))]

theorem yield_not_nil (l : Nat) (W : World) : (binOp .eql 196 (.func (.yield l) #[] #[]) .nilFunc).run Tryd.prog W = .ok (.bool false) W := by kernel_rfl

set_option maxRecDepth 100000 in
set_option maxHeartbeats 2000000 in
theorem tell_iter (n : Nat) (hn : 1 ≤ n) (B : Nat) (sa : Option Addr) (len cap : Nat) (z : Nat → Int) (hz : Byt z) (hl : (len : Int) ≤ 140737488355328) :
    IterIx Fence.wide n Tryd.prog 176 #[.pointer (some ⟨B, 0, none⟩)] (tellEnc z) (len / 4) (fun _ => False) (TellNeed B sa len cap z) := by
  intro l J Jx W _ _ hY h0 hN
  have HY := Lib.hid hY
  clear hY
  have hnil := fun W => yield_not_nil l W
  refine callsIn_of_wp Tryd.func176 rfl trivial ?_ rfl
  simp only [Tryd.ntmps176, List.size_toArray, List.length_cons, List.length_nil, Nat.reduceAdd, Nat.reduceSub, Array.replicate_succ, Array.replicate_zero, List.push_toArray, List.append_toArray, List.nil_append, List.cons_append]
  gi_wp2
  gi_loopw [3] (fun i wr => ∃ k : Nat, k ≤ len / 4 ∧ i = .int .i64 (4 * (k : Int)) ∧ J k wr ∧ TellNeed B sa len cap z k wr) (fun i _ => len + 4 - (intOf i).toNat)
  case atStart => exact ⟨0, Nat.zero_le _, rfl, h0, hN⟩
  case round =>
    obtain ⟨k, hk, rfl, hJ, hnd⟩ := hrel
    have hcB := hnd.1
    have hrow := hnd.2
    have HND := Lib.hid hnd
    clear hnd
    by_cases hlt : k < len / 4
    · have f4 : Hid (fits 4 len (4 * (k : Int)) = true) := fits_yes ⟨by omega, by omega⟩
      have e4 : Hid ((4 * (k : Int)).toNat = 4 * k) := by show _ = _; omega
      obtain ⟨fn, tmps, assign, body, hy, hR⟩ := HY.out k wr hlt hJ HND.out
      dsimp only [tellEnc] at hy
      have HHY := Lib.hid hy
      clear hy
      gi_wp2_with (refine ⟨trivial, ?_⟩; gi_at_call 135; refine (callsIn_wide.2 (get32_any _ _ _ _ z _ (by omega) (by exact hrow) hz)).mono ?_; rintro e w' ⟨rfl, rfl⟩; rw [o32, f4.out, if_pos rfl, e4.out]; have hy := HHY.out)
      refine hR.mono ?_
      rintro e W3 (⟨rfl, hJ3, hN3⟩ | ⟨rfl, hJx3⟩)
      · gi_wp2
        go_roundw
        case rel => exact ⟨k + 1, by omega, int_eq (by omega), hJ3, hN3⟩
        case measure => simp [intOf]; omega
      · gi_wp2
        refine bodyPost_ret (results_none rfl _ _ _) rfl ?_
        exact ⟨⟨_, rfl⟩, .inr ⟨k, hlt, hJx3⟩⟩
    · have HK : Hid (k = len / 4) := by show _ = _; omega
      have f4 : Hid (fits 4 len (4 * (k : Int)) = false) := fits_no (by omega)
      gi_wp2_with (refine ⟨trivial, ?_⟩; gi_at_call 135; refine (callsIn_wide.2 (get32_any _ _ _ _ z _ (by omega) (by exact hrow) hz)).mono ?_; rintro e w' ⟨rfl, rfl⟩; rw [o32, f4.out, if_neg (by decide)])
      refine ⟨fun _ h => (by cases h), ?_⟩
      gi_wp2
      refine bodyPost_ret (results_none rfl _ _ _) rfl ?_
      exact ⟨⟨_, rfl⟩, .inl (by rw [← HK.out]; exact hJ)⟩

theorem tell_any (a : Option Addr) (len cap : Nat) (z : Nat → Int) (w : World) (hr : Row w a len z) (hc : a = none → cap = 0 ∧ len = 0) (hl : len ≤ 140737488355328) :
    Calls Tryd.prog 165 #[.slice a len cap] w fun e w' => ∃ B sa cap', e = .returned (.func (.func 176) #[] #[.pointer (some ⟨B, 0, none⟩)]) ∧ TellNeed B sa len cap' z 0 w' ∧ Below w.heap.size w w'
      ∧ w.heap.size ≤ B ∧ B < w'.heap.size ∧ (∀ x, sa = some x → w.heap.size ≤ x.block ∧ x.block < w'.heap.size) := by
  go_enter Tryd.func165, Tryd.ntmps165
  go_wp2_with fail
  refine (clone_any a len cap z w hr hc hl w.heap.size (Nat.le_refl _)).mono ?_
  rintro e w1 ⟨sa, cap', rfl, hm, hb⟩
  have hsz := hb.size
  go_wp2_with fail
  go_ret
  exact ⟨w1.heap.size, sa, cap', rfl, ⟨cell_boxed _ _ _, hm.row.alloc _⟩, hb.alloc hsz _, hsz, by simp, fun x hx => by have := hm.le x hx; simp; omega⟩
end Go.Proofs.YtnbmmhoofilmfaaDoor
