/- Contracts of slices.Clone at bytes, of nums.Tell and of the iterator that it hands back. -/
import Derived.Test.YtlgjpjccjklnnaaRange
import Derived.Test.YtlgjpjccjklnnaaAppendB
import Derived.Test.YtlgjpjccjklnnaaMore
import Derived.Shelf.Abstract
import Derived.TacticsInMore
import Derived.LoopNIn
import Derived.LoopIn
import Derived.Lib.LazyBuf
namespace Go.Proofs.Ytlgjpjccjklnnaa
open Go.RowKit Go.Shelf
set_option linter.unusedVariables false
attribute [local go_sem] Oper.semAt_some

theorem cell_boxed (w : World) (v : Value) (t : TypeId) : (w.alloc (.cells #[v] t)).cell? ⟨w.heap.size, 0, none⟩ = some v := by
  simp only [World.cell?, heap_alloc_new]; rfl

theorem clone_any (a : Option Addr) (len cap : Nat) (z : Nat → Int) (w : World) (hr : Row w a len z) (hc : a = none → cap = 0 ∧ len = 0) (hl : len ≤ 140737488355328) (base : Nat) (hb : base ≤ w.heap.size) :
    Calls Try.prog 35 #[.slice a len cap] w fun e w' => ∃ sa cap', e = .returned (.slice sa len cap') ∧ Mine w' base 5 sa len cap' z ∧ Below w.heap.size w w' := by
  have hq := fun w => run_eql_slice_nil (P := Try.prog) w 47 5 a len cap Try.underlying47
  have hcz : Hid (cat (fun _ => 0) 0 z = z) := by show _ = _; funext i; simp [cat]
  cases a with
  | none =>
    obtain ⟨rfl, rfl⟩ := hc rfl
    go_enter Try.func35, Try.ntmps35
    go_wp2_with fail
    go_ret
    exact ⟨none, 0, rfl, Mine.nil _ _ _ _, Below.refl _ _⟩
  | some x =>
    go_enter Try.func35, Try.ntmps35
    go_wp2_with (at_builtin; refine wp_appendB rfl (.tmp 5) (.tmp 6) rfl base _ 0 0 (fun _ => 0) rfl (Mine.made w base _ _ hb) (some x) len cap z rfl (fun h => by cases h) (hr.alloc _) (by omega) (by simp; omega) ?_)
    intro sa cap' w1 hm hg _
    rw [hcz.out] at hm
    go_wp2_with fail
    go_ret
    exact ⟨sa, cap', rfl, hm, ((Below.refl _ _).alloc (Nat.le_refl _) _).grown hg (by simp) (fun k hk => by cases hk; exact Nat.le_refl _)⟩

/-- what the iterator of Tell wants of memory -/
def TellNeed (B : Nat) (sa : Option Addr) (len cap : Nat) (z : Nat → Int) : Nat → World → Prop := fun _ W => W.cell? ⟨B, 0, none⟩ = some (.slice sa len cap) ∧ Row W sa len z
def tellEnc (z : Nat → Int) (k : Nat) : Array Value := #[.int .i64 (4 * (k : Int)), .int .u32 (g32 z (4 * k))]

theorem yield_not_nil (l : Nat) (W : World) : (binOp .eql 58 (.func (.yield l) #[] #[]) .nilFunc).run Try.prog W = .ok (.bool false) W := by kernel_rfl

set_option maxRecDepth 100000 in
set_option maxHeartbeats 2000000 in
theorem tell_iter (n : Nat) (hn : 1 ≤ n) (B : Nat) (sa : Option Addr) (len cap : Nat) (z : Nat → Int) (hz : Byt z) (hl : (len : Int) ≤ 140737488355328) :
    IterIx Fence.wide n Try.prog 36 #[.pointer (some ⟨B, 0, none⟩)] (tellEnc z) (len / 4) (fun _ => False) (TellNeed B sa len cap z) := by
  intro l J Jx W _ _ hY h0 hN
  have HY := Lib.hid hY
  clear hY
  have hnil := fun W => yield_not_nil l W
  refine callsIn_of_wp Try.func36 rfl trivial ?_ rfl
  simp only [Try.ntmps36, List.size_toArray, List.length_cons, List.length_nil, Nat.reduceAdd, Nat.reduceSub, Array.replicate_succ, Array.replicate_zero, List.push_toArray, List.append_toArray, List.nil_append, List.cons_append]
  gi_wp2
  gi_loopw [3] (fun i wr => ∃ k : Nat, k ≤ len / 4 ∧ i = .int .i64 (4 * (k : Int)) ∧ J k wr ∧ TellNeed B sa len cap z k wr) (fun i _ => len + 4 - (intOf i).toNat)
  case atStart => exact ⟨0, Nat.zero_le _, rfl, h0, hN⟩
  case round =>
    obtain ⟨k, hk, rfl, hJ, hnd⟩ := hrel
    have hcB := hnd.1
    have hrow := hnd.2
    have HND := Lib.hid hnd
    clear hnd
    by_cases hlt : k < len / 4
    · have f4 : Hid (fits 4 len (4 * (k : Int)) = true) := fits_yes ⟨by omega, by omega⟩
      have e4 : Hid ((4 * (k : Int)).toNat = 4 * k) := by show _ = _; omega
      obtain ⟨fn, tmps, assign, body, hy, hR⟩ := HY.out k wr hlt hJ HND.out
      dsimp only [tellEnc] at hy
      have HHY := Lib.hid hy
      clear hy
      gi_wp2_with (refine ⟨trivial, ?_⟩; gi_at_call 26; refine (callsIn_wide.2 (get32_any _ _ _ _ z _ (by omega) (by exact hrow) hz)).mono ?_; rintro e w' ⟨rfl, rfl⟩; rw [o32, f4.out, if_pos rfl, e4.out]; have hy := HHY.out)
      refine hR.mono ?_
      rintro e W3 (⟨rfl, hJ3, hN3⟩ | ⟨rfl, hJx3⟩)
      · gi_wp2
        go_roundw
        case rel => exact ⟨k + 1, by omega, int_eq (by omega), hJ3, hN3⟩
        case measure => simp [intOf]; omega
      · gi_wp2
        refine bodyPost_ret (results_none rfl _ _ _) rfl ?_
        exact ⟨⟨_, rfl⟩, .inr ⟨k, hlt, hJx3⟩⟩
    · have HK : Hid (k = len / 4) := by show _ = _; omega
      have f4 : Hid (fits 4 len (4 * (k : Int)) = false) := fits_no (by omega)
      gi_wp2_with (refine ⟨trivial, ?_⟩; gi_at_call 26; refine (callsIn_wide.2 (get32_any _ _ _ _ z _ (by omega) (by exact hrow) hz)).mono ?_; rintro e w' ⟨rfl, rfl⟩; rw [o32, f4.out, if_neg (by decide)])
      refine ⟨fun _ h => (by cases h), ?_⟩
      gi_wp2
      refine bodyPost_ret (results_none rfl _ _ _) rfl ?_
      exact ⟨⟨_, rfl⟩, .inl (by rw [← HK.out]; exact hJ)⟩

theorem tell_any (a : Option Addr) (len cap : Nat) (z : Nat → Int) (w : World) (hr : Row w a len z) (hc : a = none → cap = 0 ∧ len = 0) (hl : len ≤ 140737488355328) :
    Calls Try.prog 27 #[.slice a len cap] w fun e w' => ∃ B sa cap', e = .returned (.func (.func 36) #[] #[.pointer (some ⟨B, 0, none⟩)]) ∧ TellNeed B sa len cap' z 0 w' ∧ Below w.heap.size w w'
      ∧ w.heap.size ≤ B ∧ B < w'.heap.size ∧ (∀ x, sa = some x → w.heap.size ≤ x.block ∧ x.block < w'.heap.size) := by
  go_enter Try.func27, Try.ntmps27
  go_wp2_with fail
  refine (clone_any a len cap z w hr hc hl w.heap.size (Nat.le_refl _)).mono ?_
  rintro e w1 ⟨sa, cap', rfl, hm, hb⟩
  have hsz := hb.size
  go_wp2_with fail
  go_ret
  exact ⟨w1.heap.size, sa, cap', rfl, ⟨cell_boxed _ _ _, hm.row.alloc _⟩, hb.alloc hsz _, hsz, by simp, fun x hx => by have := hm.le x hx; simp; omega⟩
end Go.Proofs.Ytlgjpjccjklnnaa
