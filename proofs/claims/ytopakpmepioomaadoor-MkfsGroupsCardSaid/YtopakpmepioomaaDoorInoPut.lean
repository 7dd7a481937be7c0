/- The contract of inode.Put. -/
import Derived.Test.YtopakpmepioomaaDoorWords
import Derived.Test.YtopakpmepioomaaDoorMg0
import Derived.Test.YtopakpmepioomaaDoorMg1
namespace Go.Proofs.YtopakpmepioomaaDoor
open Go.RowKit Go.Shelf
set_option linter.unusedVariables false
attribute [local go_sem] Oper.semAt_some

/-- may x be put at a place? -/
def putOk (a : Int) (x : Ino) : Bool := placeB a && decide x.May
def putErr (a : Int) (x : Ino) : Int := if placeB a then (if decide x.May then 0 else 70) else 2
def putZ (z : Nat → Int) (a : Int) (x : Ino) : Nat → Int := if putOk a x then over z a.toNat 64 x.byte else z

theorem inoPut_nil (a : Int) (x : Ino) (w : World) :
    Calls Tryd.prog 36 #[.pointer none, .int .i64 a, x.val] w fun e w' => e = .returned (.int .i64 1) ∧ Below w.heap.size w w' := by
  refine (callsIn_wide (n := 5)).1 (callsIn_of_wp_marks Tryd.func36 rfl trivial ?_ rfl)
  refine wpIn_wide.2 ?_
  simp only [Tryd.ntmps36, List.size_toArray, List.length_cons, List.length_nil, Nat.reduceAdd, Nat.reduceSub, Array.replicate_succ, Array.replicate_zero, List.push_toArray, List.append_toArray, List.nil_append, List.cons_append]
  go_wp2_with fail
  exact bodyPostM_early (results_tmp rfl _ _ _) ⟨rfl, (Below.refl _ _).alloc (Nat.le_refl _) _⟩

set_option maxRecDepth 100000 in
set_option maxHeartbeats 4000000 in
theorem inoPut_no (g : Nat) (a : Int) (x : Ino) (hx : x.Ok) (w : World) (h0 : -9223372036854775808 ≤ a) (h1 : a ≤ 9223372036854775807) (hno : putOk a x = false) :
    Calls Tryd.prog 36 #[.pointer (some ⟨g, 0, none⟩), .int .i64 a, x.val] w fun e w' => e = .returned (.int .i64 (putErr a x)) ∧ Below w.heap.size w w' := by
  refine (callsIn_wide (n := 5)).1 (callsIn_of_wp_marks Tryd.func36 rfl trivial ?_ rfl)
  refine wpIn_wide.2 ?_
  simp only [Tryd.ntmps36, List.size_toArray, List.length_cons, List.length_nil, Nat.reduceAdd, Nat.reduceSub, Array.replicate_succ, Array.replicate_zero, List.push_toArray, List.append_toArray, List.nil_append, List.cons_append]
  have HNO := Lib.hid hno
  clear hno
  go_wp2_with fail
  refine (place_any a _ h0 h1).mono ?_
  rintro e w1 ⟨rfl, rfl⟩
  by_cases hp : placeB a = true
  · have hm : Hid (decide x.May = false) := by have := HNO.out; unfold putOk at this; rw [hp, Bool.true_and] at this; exact this
    have he : Hid (putErr a x = 70) := by show _ = _; unfold putErr; rw [hp, hm.out]; rfl
    rw [hp]
    clear hp HNO
    go_wp2_with fail
    refine (may_any x hx _).mono ?_
    rintro e w2 ⟨rfl, hb⟩
    rw [hm.out]
    go_wp2_with fail
    refine bodyPostM_early (results_tmp rfl _ _ _) ⟨?_, ?_⟩
    · rw [he.out]; rfl
    · exact ((Below.refl _ _).alloc (Nat.le_refl _) _).trans (hb.mono (by simp))
  · rw [Bool.not_eq_true] at hp
    have he : Hid (putErr a x = 2) := by show _ = _; unfold putErr; rw [hp]; rfl
    rw [hp]
    clear hp HNO
    go_wp2_with fail
    refine bodyPostM_early (results_tmp rfl _ _ _) ⟨?_, (Below.refl _ _).alloc (Nat.le_refl _) _⟩
    rw [he.out]; rfl

end Go.Proofs.YtopakpmepioomaaDoor
