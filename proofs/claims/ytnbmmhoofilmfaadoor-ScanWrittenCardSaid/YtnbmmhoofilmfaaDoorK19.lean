/- Texts of this claim, merged by a program (a claim may have 60 files): Pk5. -/
import Derived.Test.YtnbmmhoofilmfaaDoorK13
import Derived.Shelf.Abstract
import Derived.TacticsInMore
import Derived.LoopNIn
import Derived.LoopIn
/- The iterators of pack.rows: rows of at most 30 copies, of at most 60 numbers. Printed by gen_pkrows.py. -/
namespace Go.Proofs.YtnbmmhoofilmfaaDoor
open Go.RowKit Go.Shelf
set_option linter.unusedVariables false
attribute [local go_sem] Oper.semAt_some
theorem At.set0 {W : World} {B : Nat} {T : TypeId} {v : Value} (h : At W B T #[v]) (u : Value) : At (W.setCell ⟨B, 0, none⟩ u) B T #[u] := by
  obtain ⟨hlt, hk⟩ := Array.getElem?_eq_some_iff.1 h
  show (W.heap.modify B _)[B]? = _
  rw [Array.getElem?_eq_getElem (by rw [Array.size_modify]; exact hlt), Array.getElem_modify_self, hk]
  rfl
theorem addr_add0 (x : Addr) : x.add 0 = x := by
  unfold Addr.add
  rw [if_pos rfl]
def lenAt (B : Nat) (W : World) : Nat := match W.cell? ⟨B, 0, none⟩ with | some (.slice _ l _) => l | _ => 0
theorem lenAt_eq {W : World} {B l c : Nat} {T : TypeId} {a : Option Addr} (h : At W B T #[.slice a l c]) : lenAt B W = l := by
  unfold lenAt; rw [h.cell (i := 0) (v := .slice a l c) rfl]

/-- where a row of copies begins, and what the iterator keeps -/
def isSlC (b off n k : Nat) (sv : Value) : Prop := ∃ ad c, sv = .slice ad (n - 30 * k) c ∧ (k < (n + 29) / 30 → ad = some ⟨b, off + 30 * k * 257, none⟩ ∧ n - 30 * k ≤ c)
def rowEncC (b off n k : Nat) : Array Value := #[.slice (some ⟨b, off + 30 * k * 257, none⟩) (min 30 (n - 30 * k)) (min 30 (n - 30 * k))]
def rowNeedC (B nb b off n : Nat) (k : Nat) (W : World) : Prop := (∃ sv, isSlC b off n k sv ∧ At W B 49 #[sv]) ∧ At W nb 3 #[.int .i64 30]
set_option maxRecDepth 100000 in
theorem run_takeC (a : Option Addr) (len cap k : Nat) (K : Int) (hK : K = (k : Int)) (hk : k ≤ cap) (w : World) :
    (Instr.slice 49 (.slice a len cap) none (some (.int .i64 K)) (some (.int .i64 K))).run Tryd.prog w = .ok (.slice a k k) w := by
  subst hK
  have hsz : (sizeOf 101).run Tryd.prog w = .ok 257 w := by kernel_rfl
  rw [run_slice_hm w 49 a len cap (by kernel_rfl) .i64 .i64 (k : Int) (k : Int) (by omega) (by omega) (by omega), show Tryd.prog.elem 49 = 101 from by kernel_rfl, hsz]
  simp only [Result.andThen, sliced, Int.toNat_natCast, Nat.zero_mul, Nat.sub_zero]
  congr 2
  split
  · rfl
  · cases a with
    | none => rfl
    | some x => rw [Option.map_some, addr_add0]
set_option maxRecDepth 100000 in
theorem run_dropC (a : Option Addr) (len cap k : Nat) (K : Int) (hK : K = (k : Int)) (hk : k ≤ len) (w : World) :
    (Instr.slice 49 (.slice a len cap) (some (.int .i64 K)) none none).run Tryd.prog w = .ok (.slice (if cap = k then a else a.map (·.add (k * 257))) (len - k) (cap - k)) w := by
  subst hK
  have hsz : (sizeOf 101).run Tryd.prog w = .ok 257 w := by kernel_rfl
  rw [run_slice_l w 49 a len cap (by kernel_rfl) .i64 (k : Int) (by omega) (by omega), show Tryd.prog.elem 49 = 101 from by kernel_rfl, hsz]
  simp only [Result.andThen, sliced, Int.toNat_natCast]
theorem isSlC_next {b off n k : Nat} {c : Nat} (hk : k < (n + 29) / 30) (hc : n - 30 * k ≤ c) {t : Nat} (ht : t = min 30 (n - 30 * k)) :
    isSlC b off n (k + 1) (.slice (if c = t then some ⟨b, off + 30 * k * 257, none⟩ else (some ⟨b, off + 30 * k * 257, none⟩ : Option Addr).map (·.add (t * 257))) (n - 30 * k - t) (c - t)) := by
  refine ⟨if c = t then some ⟨b, off + 30 * k * 257, none⟩ else (some ⟨b, off + 30 * k * 257, none⟩ : Option Addr).map (·.add (t * 257)), c - t, ?_, fun h => ⟨?_, by omega⟩⟩
  · rw [show n - 30 * (k + 1) = n - 30 * k - t by omega]
  · rw [if_neg (by omega), show t = 30 by omega]
    simp only [Option.map_some, addr_add]
    congr 2
    omega

set_option maxRecDepth 100000 in
set_option maxHeartbeats 4000000 in
theorem rowsC_iter (f : Nat) (hf : 1 ≤ f) (B nb b off n : Nat) (hne : B ≠ nb) (hn : n ≤ 4096) :
    IterK Fence.wide f Tryd.prog 90 #[.pointer (some ⟨B, 0, none⟩), .pointer (some ⟨nb, 0, none⟩)] (rowEncC b off n) ((n + 29) / 30) (fun r => r = B) (rowNeedC B nb b off n) := by
  intro l J Jx W hJt hJxt hY h0 hN
  have HY := Lib.hid hY
  have HJT : Hid (∀ k A C, J k A → Turns (fun r => r = B) A C → J k C) := hJt
  clear hY hJt hJxt
  refine callsIn_of_wp Tryd.func90 rfl trivial ?_ rfl
  simp only [Tryd.ntmps90, List.size_toArray, List.length_cons, List.length_nil, Nat.reduceAdd, Nat.reduceSub, Array.replicate_succ, Array.replicate_zero, List.push_toArray, List.append_toArray, List.nil_append, List.cons_append]
  gi_wp2
  gi_loopw [4] (fun _ wr => ∃ k : Nat, k ≤ (n + 29) / 30 ∧ J k wr ∧ rowNeedC B nb b off n k wr) (fun _ wr => lenAt B wr)
  case atStart => exact ⟨0, Nat.zero_le _, h0, hN⟩
  case round =>
    obtain ⟨k, hk, hJ, hnd⟩ := hrel
    have HND := Lib.hid hnd
    obtain ⟨⟨sv, ⟨ad, c, rfl, had⟩, hB⟩, hb⟩ := hnd
    have c0 : wr.cell? ⟨B, 0, none⟩ = some (.slice ad (n - 30 * k) c) := hB.cell (i := 0) rfl
    have c1 : wr.cell? ⟨nb, 0, none⟩ = some (.int .i64 30) := hb.cell (i := 0) rfl
    have HLEN := Lib.hid (lenAt_eq hB)
    clear hb
    by_cases hlt : k < (n + 29) / 30
    · obtain ⟨rfl, hc⟩ := had hlt
      clear had
      obtain ⟨fn, tmps, assign, body, hy, hR⟩ := HY.out k wr hlt hJ HND.out
      dsimp only [rowEncC] at hy
      have hpos : 0 < n - 30 * k := by omega
      obtain ⟨L, hL⟩ : ∃ L, L = n - 30 * k := ⟨_, rfl⟩
      rw [← hL] at hc hy hpos c0 HLEN
      have hL4 : L ≤ 4096 := by omega
      have hL' : (0 : Int) < (L : Int) := by omega
      clear hB
      by_cases h30 : (30 : Int) ≤ (L : Int)
      · rw [show min 30 L = 30 by omega] at hy
        have htk := fun W => run_takeC (some ⟨b, off + 30 * k * 257, none⟩) L c 30 30 rfl (by omega) W
        have HTL : Hid (30 = min 30 (n - 30 * k) ∧ L = n - 30 * k ∧ 0 < 30) := ⟨by omega, hL, by omega⟩
        clear hL
        gi_wp2
        refine hR.mono ?_
        clear hR hy htk c0 c1
        rintro e W3 (⟨rfl, hJ3, hN3⟩ | ⟨rfl, hJx3⟩)
        · obtain ⟨⟨sv, ⟨ad, c', rfl, had⟩, hB3⟩, hb3⟩ := hN3
          obtain ⟨rfl, hc'⟩ := had hlt
          clear had
          have hsl := isSlC_next (b := b) (off := off) hlt hc' (t := 30) HTL.out.1
          rw [← HTL.out.2.1] at hsl hB3 hc'
          have c0 : W3.cell? ⟨B, 0, none⟩ = some (.slice (some ⟨b, off + 30 * k * 257, none⟩) L c') := hB3.cell (i := 0) rfl
          have f0 : W3.frozen? ⟨B, 0, none⟩ = false := soft_of_heap hB3 0
          have hdr := fun W => run_dropC (some ⟨b, off + 30 * k * 257, none⟩) L c' 30 30 rfl (by omega) W
          obtain ⟨ad2, had2⟩ : ∃ ad2 : Option Addr, ad2 = (if c' = 30 then some ⟨b, off + 30 * k * 257, none⟩ else (some ⟨b, off + 30 * k * 257, none⟩ : Option Addr).map (·.add (30 * 257))) := ⟨_, rfl⟩
          rw [← had2] at hsl
          have hB4 := hB3.set0 (.slice ad2 (L - 30) (c' - 30))
          have HLN : Hid (lenAt B (W3.setCell ⟨B, 0, none⟩ (.slice ad2 (L - 30) (c' - 30))) < lenAt B wr) := by
            show lenAt _ _ < lenAt _ _
            rw [lenAt_eq hB4, HLEN.out]; have := HTL.out; omega
          have HND4 : Hid (rowNeedC B nb b off n (k + 1) (W3.setCell ⟨B, 0, none⟩ (.slice ad2 (L - 30) (c' - 30)))) := ⟨⟨_, hsl, hB4⟩, hb3.only (Only.setCell W3 ⟨B, 0, none⟩ (.slice ad2 (L - 30) (c' - 30))) (fun e => hne e.symm)⟩
          have HJ4 : Hid (J (k + 1) (W3.setCell ⟨B, 0, none⟩ (.slice ad2 (L - 30) (c' - 30)))) := HJT.out _ _ _ hJ3 ⟨some B, (Only.setCell W3 ⟨B, 0, none⟩ (.slice ad2 (L - 30) (c' - 30))).grown, fun r e => by cases e; rfl⟩
          simp only [← had2] at hdr
          clear hsl hB3 hc' hB4 had2 HND HLEN hJ3 hb3
          try simp only [Nat.sub_self] at HJ4 HND4 HLN
          gi_wp2
          go_roundw
          case rel => exact ⟨k + 1, by omega, HJ4.out, HND4.out⟩
          case measure => exact HLN.out
        · gi_wp2
          refine bodyPost_ret (results_none rfl _ _ _) rfl ?_
          exact ⟨⟨_, rfl⟩, .inr ⟨k, hlt, hJx3⟩⟩
      · rw [show min 30 L = L by omega] at hy
        have htk := fun W => run_takeC (some ⟨b, off + 30 * k * 257, none⟩) L c L (L : Int) rfl (by omega) W
        have HTL : Hid (L = min 30 (n - 30 * k) ∧ L = n - 30 * k ∧ 0 < L) := ⟨by omega, hL, by omega⟩
        clear hL
        gi_wp2
        refine hR.mono ?_
        clear hR hy htk c0 c1
        rintro e W3 (⟨rfl, hJ3, hN3⟩ | ⟨rfl, hJx3⟩)
        · obtain ⟨⟨sv, ⟨ad, c', rfl, had⟩, hB3⟩, hb3⟩ := hN3
          obtain ⟨rfl, hc'⟩ := had hlt
          clear had
          have hsl := isSlC_next (b := b) (off := off) hlt hc' (t := L) HTL.out.1
          rw [← HTL.out.2.1] at hsl hB3 hc'
          have c0 : W3.cell? ⟨B, 0, none⟩ = some (.slice (some ⟨b, off + 30 * k * 257, none⟩) L c') := hB3.cell (i := 0) rfl
          have f0 : W3.frozen? ⟨B, 0, none⟩ = false := soft_of_heap hB3 0
          have hdr := fun W => run_dropC (some ⟨b, off + 30 * k * 257, none⟩) L c' L (L : Int) rfl (by omega) W
          obtain ⟨ad2, had2⟩ : ∃ ad2 : Option Addr, ad2 = (if c' = L then some ⟨b, off + 30 * k * 257, none⟩ else (some ⟨b, off + 30 * k * 257, none⟩ : Option Addr).map (·.add (L * 257))) := ⟨_, rfl⟩
          rw [← had2] at hsl
          have hB4 := hB3.set0 (.slice ad2 (L - L) (c' - L))
          have HLN : Hid (lenAt B (W3.setCell ⟨B, 0, none⟩ (.slice ad2 (L - L) (c' - L))) < lenAt B wr) := by
            show lenAt _ _ < lenAt _ _
            rw [lenAt_eq hB4, HLEN.out]; have := HTL.out; omega
          have HND4 : Hid (rowNeedC B nb b off n (k + 1) (W3.setCell ⟨B, 0, none⟩ (.slice ad2 (L - L) (c' - L)))) := ⟨⟨_, hsl, hB4⟩, hb3.only (Only.setCell W3 ⟨B, 0, none⟩ (.slice ad2 (L - L) (c' - L))) (fun e => hne e.symm)⟩
          have HJ4 : Hid (J (k + 1) (W3.setCell ⟨B, 0, none⟩ (.slice ad2 (L - L) (c' - L)))) := HJT.out _ _ _ hJ3 ⟨some B, (Only.setCell W3 ⟨B, 0, none⟩ (.slice ad2 (L - L) (c' - L))).grown, fun r e => by cases e; rfl⟩
          simp only [← had2] at hdr
          clear hsl hB3 hc' hB4 had2 HND HLEN hJ3 hb3
          try simp only [Nat.sub_self] at HJ4 HND4 HLN
          gi_wp2
          go_roundw
          case rel => exact ⟨k + 1, by omega, HJ4.out, HND4.out⟩
          case measure => exact HLN.out
        · gi_wp2
          refine bodyPost_ret (results_none rfl _ _ _) rfl ?_
          exact ⟨⟨_, rfl⟩, .inr ⟨k, hlt, hJx3⟩⟩
    · have hz : n - 30 * k = 0 := by omega
      have HK : Hid (k = (n + 29) / 30) := by show _ = _; omega
      rw [hz] at c0
      clear hz had hB HLEN
      gi_wp2
      refine bodyPost_end (results_none rfl _ _ _) rfl ?_
      exact ⟨⟨_, rfl⟩, .inl (by rw [← HK.out]; exact hJ)⟩
theorem rowsC_any (a : Option Addr) (n cap : Nat) (w : World) :
    Calls Tryd.prog 47 #[.slice a n cap, .int .i64 30] w fun e w' => e = .returned (.func (.func 90) #[] #[.pointer (some ⟨w.heap.size, 0, none⟩), .pointer (some ⟨w.heap.size + 1, 0, none⟩)]) ∧ (w.alloc (.cells #[.slice a n cap] 49)).alloc (.cells #[.int .i64 30] 3) = w' := by
  go_enter Tryd.func47, Tryd.ntmps47
  go_wp2
  go_ret
  exact ⟨rfl, rfl⟩

/-- where a row of numbers begins, and what the iterator keeps -/
def isSlN (b off n k : Nat) (sv : Value) : Prop := ∃ ad c, sv = .slice ad (n - 60 * k) c ∧ (k < (n + 59) / 60 → ad = some ⟨b, off + 60 * k, none⟩ ∧ n - 60 * k ≤ c)
def rowEncN (b off n k : Nat) : Array Value := #[.slice (some ⟨b, off + 60 * k, none⟩) (min 60 (n - 60 * k)) (min 60 (n - 60 * k))]
def rowNeedN (B nb b off n : Nat) (k : Nat) (W : World) : Prop := (∃ sv, isSlN b off n k sv ∧ At W B 45 #[sv]) ∧ At W nb 3 #[.int .i64 60]
set_option maxRecDepth 100000 in
theorem run_takeN (a : Option Addr) (len cap k : Nat) (K : Int) (hK : K = (k : Int)) (hk : k ≤ cap) (w : World) :
    (Instr.slice 45 (.slice a len cap) none (some (.int .i64 K)) (some (.int .i64 K))).run Tryd.prog w = .ok (.slice a k k) w := by
  subst hK
  have hsz : (sizeOf 3).run Tryd.prog w = .ok 1 w := by kernel_rfl
  rw [run_slice_hm w 45 a len cap (by kernel_rfl) .i64 .i64 (k : Int) (k : Int) (by omega) (by omega) (by omega), show Tryd.prog.elem 45 = 3 from by kernel_rfl, hsz]
  simp only [Result.andThen, sliced, Int.toNat_natCast, Nat.zero_mul, Nat.sub_zero]
  congr 2
  split
  · rfl
  · cases a with
    | none => rfl
    | some x => rw [Option.map_some, addr_add0]
set_option maxRecDepth 100000 in
theorem run_dropN (a : Option Addr) (len cap k : Nat) (K : Int) (hK : K = (k : Int)) (hk : k ≤ len) (w : World) :
    (Instr.slice 45 (.slice a len cap) (some (.int .i64 K)) none none).run Tryd.prog w = .ok (.slice (if cap = k then a else a.map (·.add (k))) (len - k) (cap - k)) w := by
  subst hK
  have hsz : (sizeOf 3).run Tryd.prog w = .ok 1 w := by kernel_rfl
  rw [run_slice_l w 45 a len cap (by kernel_rfl) .i64 (k : Int) (by omega) (by omega), show Tryd.prog.elem 45 = 3 from by kernel_rfl, hsz]
  simp only [Result.andThen, sliced, Int.toNat_natCast, Nat.mul_one]
theorem isSlN_next {b off n k : Nat} {c : Nat} (hk : k < (n + 59) / 60) (hc : n - 60 * k ≤ c) {t : Nat} (ht : t = min 60 (n - 60 * k)) :
    isSlN b off n (k + 1) (.slice (if c = t then some ⟨b, off + 60 * k, none⟩ else (some ⟨b, off + 60 * k, none⟩ : Option Addr).map (·.add (t))) (n - 60 * k - t) (c - t)) := by
  refine ⟨if c = t then some ⟨b, off + 60 * k, none⟩ else (some ⟨b, off + 60 * k, none⟩ : Option Addr).map (·.add (t)), c - t, ?_, fun h => ⟨?_, by omega⟩⟩
  · rw [show n - 60 * (k + 1) = n - 60 * k - t by omega]
  · rw [if_neg (by omega), show t = 60 by omega]
    simp only [Option.map_some, addr_add]
    congr 2

set_option maxRecDepth 100000 in
set_option maxHeartbeats 4000000 in
theorem rowsN_iter (f : Nat) (hf : 1 ≤ f) (B nb b off n : Nat) (hne : B ≠ nb) (hn : n ≤ 4096) :
    IterK Fence.wide f Tryd.prog 93 #[.pointer (some ⟨B, 0, none⟩), .pointer (some ⟨nb, 0, none⟩)] (rowEncN b off n) ((n + 59) / 60) (fun r => r = B) (rowNeedN B nb b off n) := by
  intro l J Jx W hJt hJxt hY h0 hN
  have HY := Lib.hid hY
  have HJT : Hid (∀ k A C, J k A → Turns (fun r => r = B) A C → J k C) := hJt
  clear hY hJt hJxt
  refine callsIn_of_wp Tryd.func93 rfl trivial ?_ rfl
  simp only [Tryd.ntmps93, List.size_toArray, List.length_cons, List.length_nil, Nat.reduceAdd, Nat.reduceSub, Array.replicate_succ, Array.replicate_zero, List.push_toArray, List.append_toArray, List.nil_append, List.cons_append]
  gi_wp2
  gi_loopw [4] (fun _ wr => ∃ k : Nat, k ≤ (n + 59) / 60 ∧ J k wr ∧ rowNeedN B nb b off n k wr) (fun _ wr => lenAt B wr)
  case atStart => exact ⟨0, Nat.zero_le _, h0, hN⟩
  case round =>
    obtain ⟨k, hk, hJ, hnd⟩ := hrel
    have HND := Lib.hid hnd
    obtain ⟨⟨sv, ⟨ad, c, rfl, had⟩, hB⟩, hb⟩ := hnd
    have c0 : wr.cell? ⟨B, 0, none⟩ = some (.slice ad (n - 60 * k) c) := hB.cell (i := 0) rfl
    have c1 : wr.cell? ⟨nb, 0, none⟩ = some (.int .i64 60) := hb.cell (i := 0) rfl
    have HLEN := Lib.hid (lenAt_eq hB)
    clear hb
    by_cases hlt : k < (n + 59) / 60
    · obtain ⟨rfl, hc⟩ := had hlt
      clear had
      obtain ⟨fn, tmps, assign, body, hy, hR⟩ := HY.out k wr hlt hJ HND.out
      dsimp only [rowEncN] at hy
      have hpos : 0 < n - 60 * k := by omega
      obtain ⟨L, hL⟩ : ∃ L, L = n - 60 * k := ⟨_, rfl⟩
      rw [← hL] at hc hy hpos c0 HLEN
      have hL4 : L ≤ 4096 := by omega
      have hL' : (0 : Int) < (L : Int) := by omega
      clear hB
      by_cases h30 : (60 : Int) ≤ (L : Int)
      · rw [show min 60 L = 60 by omega] at hy
        have htk := fun W => run_takeN (some ⟨b, off + 60 * k, none⟩) L c 60 60 rfl (by omega) W
        have HTL : Hid (60 = min 60 (n - 60 * k) ∧ L = n - 60 * k ∧ 0 < 60) := ⟨by omega, hL, by omega⟩
        clear hL
        gi_wp2
        refine hR.mono ?_
        clear hR hy htk c0 c1
        rintro e W3 (⟨rfl, hJ3, hN3⟩ | ⟨rfl, hJx3⟩)
        · obtain ⟨⟨sv, ⟨ad, c', rfl, had⟩, hB3⟩, hb3⟩ := hN3
          obtain ⟨rfl, hc'⟩ := had hlt
          clear had
          have hsl := isSlN_next (b := b) (off := off) hlt hc' (t := 60) HTL.out.1
          rw [← HTL.out.2.1] at hsl hB3 hc'
          have c0 : W3.cell? ⟨B, 0, none⟩ = some (.slice (some ⟨b, off + 60 * k, none⟩) L c') := hB3.cell (i := 0) rfl
          have f0 : W3.frozen? ⟨B, 0, none⟩ = false := soft_of_heap hB3 0
          have hdr := fun W => run_dropN (some ⟨b, off + 60 * k, none⟩) L c' 60 60 rfl (by omega) W
          obtain ⟨ad2, had2⟩ : ∃ ad2 : Option Addr, ad2 = (if c' = 60 then some ⟨b, off + 60 * k, none⟩ else (some ⟨b, off + 60 * k, none⟩ : Option Addr).map (·.add (60))) := ⟨_, rfl⟩
          rw [← had2] at hsl
          have hB4 := hB3.set0 (.slice ad2 (L - 60) (c' - 60))
          have HLN : Hid (lenAt B (W3.setCell ⟨B, 0, none⟩ (.slice ad2 (L - 60) (c' - 60))) < lenAt B wr) := by
            show lenAt _ _ < lenAt _ _
            rw [lenAt_eq hB4, HLEN.out]; have := HTL.out; omega
          have HND4 : Hid (rowNeedN B nb b off n (k + 1) (W3.setCell ⟨B, 0, none⟩ (.slice ad2 (L - 60) (c' - 60)))) := ⟨⟨_, hsl, hB4⟩, hb3.only (Only.setCell W3 ⟨B, 0, none⟩ (.slice ad2 (L - 60) (c' - 60))) (fun e => hne e.symm)⟩
          have HJ4 : Hid (J (k + 1) (W3.setCell ⟨B, 0, none⟩ (.slice ad2 (L - 60) (c' - 60)))) := HJT.out _ _ _ hJ3 ⟨some B, (Only.setCell W3 ⟨B, 0, none⟩ (.slice ad2 (L - 60) (c' - 60))).grown, fun r e => by cases e; rfl⟩
          simp only [← had2] at hdr
          clear hsl hB3 hc' hB4 had2 HND HLEN hJ3 hb3
          try simp only [Nat.sub_self] at HJ4 HND4 HLN
          gi_wp2
          go_roundw
          case rel => exact ⟨k + 1, by omega, HJ4.out, HND4.out⟩
          case measure => exact HLN.out
        · gi_wp2
          refine bodyPost_ret (results_none rfl _ _ _) rfl ?_
          exact ⟨⟨_, rfl⟩, .inr ⟨k, hlt, hJx3⟩⟩
      · rw [show min 60 L = L by omega] at hy
        have htk := fun W => run_takeN (some ⟨b, off + 60 * k, none⟩) L c L (L : Int) rfl (by omega) W
        have HTL : Hid (L = min 60 (n - 60 * k) ∧ L = n - 60 * k ∧ 0 < L) := ⟨by omega, hL, by omega⟩
        clear hL
        gi_wp2
        refine hR.mono ?_
        clear hR hy htk c0 c1
        rintro e W3 (⟨rfl, hJ3, hN3⟩ | ⟨rfl, hJx3⟩)
        · obtain ⟨⟨sv, ⟨ad, c', rfl, had⟩, hB3⟩, hb3⟩ := hN3
          obtain ⟨rfl, hc'⟩ := had hlt
          clear had
          have hsl := isSlN_next (b := b) (off := off) hlt hc' (t := L) HTL.out.1
          rw [← HTL.out.2.1] at hsl hB3 hc'
          have c0 : W3.cell? ⟨B, 0, none⟩ = some (.slice (some ⟨b, off + 60 * k, none⟩) L c') := hB3.cell (i := 0) rfl
          have f0 : W3.frozen? ⟨B, 0, none⟩ = false := soft_of_heap hB3 0
          have hdr := fun W => run_dropN (some ⟨b, off + 60 * k, none⟩) L c' L (L : Int) rfl (by omega) W
          obtain ⟨ad2, had2⟩ : ∃ ad2 : Option Addr, ad2 = (if c' = L then some ⟨b, off + 60 * k, none⟩ else (some ⟨b, off + 60 * k, none⟩ : Option Addr).map (·.add (L))) := ⟨_, rfl⟩
          rw [← had2] at hsl
          have hB4 := hB3.set0 (.slice ad2 (L - L) (c' - L))
          have HLN : Hid (lenAt B (W3.setCell ⟨B, 0, none⟩ (.slice ad2 (L - L) (c' - L))) < lenAt B wr) := by
            show lenAt _ _ < lenAt _ _
            rw [lenAt_eq hB4, HLEN.out]; have := HTL.out; omega
          have HND4 : Hid (rowNeedN B nb b off n (k + 1) (W3.setCell ⟨B, 0, none⟩ (.slice ad2 (L - L) (c' - L)))) := ⟨⟨_, hsl, hB4⟩, hb3.only (Only.setCell W3 ⟨B, 0, none⟩ (.slice ad2 (L - L) (c' - L))) (fun e => hne e.symm)⟩
          have HJ4 : Hid (J (k + 1) (W3.setCell ⟨B, 0, none⟩ (.slice ad2 (L - L) (c' - L)))) := HJT.out _ _ _ hJ3 ⟨some B, (Only.setCell W3 ⟨B, 0, none⟩ (.slice ad2 (L - L) (c' - L))).grown, fun r e => by cases e; rfl⟩
          simp only [← had2] at hdr
          clear hsl hB3 hc' hB4 had2 HND HLEN hJ3 hb3
          try simp only [Nat.sub_self] at HJ4 HND4 HLN
          gi_wp2
          go_roundw
          case rel => exact ⟨k + 1, by omega, HJ4.out, HND4.out⟩
          case measure => exact HLN.out
        · gi_wp2
          refine bodyPost_ret (results_none rfl _ _ _) rfl ?_
          exact ⟨⟨_, rfl⟩, .inr ⟨k, hlt, hJx3⟩⟩
    · have hz : n - 60 * k = 0 := by omega
      have HK : Hid (k = (n + 59) / 60) := by show _ = _; omega
      rw [hz] at c0
      clear hz had hB HLEN
      gi_wp2
      refine bodyPost_end (results_none rfl _ _ _) rfl ?_
      exact ⟨⟨_, rfl⟩, .inl (by rw [← HK.out]; exact hJ)⟩
theorem rowsN_any (a : Option Addr) (n cap : Nat) (w : World) :
    Calls Tryd.prog 49 #[.slice a n cap, .int .i64 60] w fun e w' => e = .returned (.func (.func 93) #[] #[.pointer (some ⟨w.heap.size, 0, none⟩), .pointer (some ⟨w.heap.size + 1, 0, none⟩)]) ∧ (w.alloc (.cells #[.slice a n cap] 45)).alloc (.cells #[.int .i64 60] 3) = w' := by
  go_enter Tryd.func49, Tryd.ntmps49
  go_wp2
  go_ret
  exact ⟨rfl, rfl⟩
end Go.Proofs.YtnbmmhoofilmfaaDoor
