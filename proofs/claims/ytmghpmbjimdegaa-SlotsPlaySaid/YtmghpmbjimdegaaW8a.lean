/- The walk of the law SlotsWords. -/
import Derived.Test.YtmghpmbjimdegaaS8g
import Derived.Test.YtmghpmbjimdegaaOpen
namespace Go.Proofs.Ytmghpmbjimdegaa
open Go.RowKit
set_option linter.unusedVariables false

def okL (l : List UInt8) : Bool := l.all fun c => c != 47 && c != 0
theorem okL_contains (l : List UInt8) : okL l = (!l.contains 47 && !l.contains 0) := by
  induction l with
  | nil => rfl
  | cons c l ih =>
    unfold okL at ih ⊢
    rw [List.all_cons, ih, List.contains_cons, List.contains_cons]
    rw [BEq.comm (a := 47), BEq.comm (a := 0), bne, bne]
    cases c == 47 <;> cases c == 0 <;> simp
theorem byte_ne (c : UInt8) : ((c.toNat : Int) != 47) = (c != 47) := by
  rw [Bool.eq_iff_iff, bne_iff_ne, bne_iff_ne, Ne, Ne, ← UInt8.toNat_inj]
  show ¬ ((c.toNat : Int) = 47) ↔ ¬ (c.toNat = 47)
  omega
theorem byte_ne0 (c : UInt8) : ((c.toNat : Int) != 0) = (c != 0) := by
  rw [Bool.eq_iff_iff, bne_iff_ne, bne_iff_ne, Ne, Ne, ← UInt8.toNat_inj]
  show ¬ ((c.toNat : Int) = 0) ↔ ¬ (c.toNat = 0)
  omega
def preL (l : List UInt8) : Bool := decide (1 ≤ l.length) && (decide (l.length ≤ 27) && (l != [46] && l != [46, 46]))
theorem mayL_pre (l : List UInt8) : mayL l = (preL l && okL l) := by unfold mayL preL; rw [okL_contains]; simp only [Bool.and_assoc]
theorem okL_take (l : List UInt8) (k : Nat) (h : k < l.length) : okL (l.take (k + 1)) = (okL (l.take k) && (l[k] != 47 && l[k] != 0)) := by
  unfold okL
  rw [List.take_succ_eq_append_getElem h, List.all_append]; simp

set_option maxRecDepth 100000 in
set_option maxHeartbeats 4000000 in
theorem words_walk (s : ByteArray) (hs : s.size ≤ 9223372036854775807) (w : World) :
    Calls Try.prog 5 #[.string s] w fun e w' => e = .returned (.bool true) ∧ Below w.heap.size w w' := by
  go_enter Try.func5, Try.ntmps5
  go_wp2_with fail
  refine (awake8 _).mono ?_
  rintro e w1 ⟨rfl, hL1⟩
  by_cases h20 : 20000 < s.size
  · have d : (20000 : Int) < s.size := by omega
    go_wp2_with fail
    go_ret
    exact ⟨rfl, hL1⟩
  have d : ¬ (20000 : Int) < s.size := by omega
  have HP : Hid (preL s.toList = (decide (1 ≤ s.size) && (decide (s.size ≤ 27) && (!s.toList == [46] && !s.toList == [46, 46])))) := by
    show _ = _
    unfold preL; rw [ByteArray.toList_eq]; rfl
  go_wp2_with fail
  all_goals
    go_loopw [3, 4] (fun f u wr => ∃ k : Nat, k ≤ s.size ∧ u = .int .i64 (k : Int) ∧ f = .bool (preL s.toList && okL (s.toList.take k)) ∧ wr = w1) (fun f u _ => s.size - (intOf u).toNat)
    case atStart =>
      refine ⟨0, by omega, rfl, ?_, rfl⟩
      rw [HP.out]
      congr 1
      first
      | (rw [decide_eq_false (show ¬ 1 ≤ s.size by omega)]; rfl)
      | (rw [decide_eq_false (show ¬ s.size ≤ 27 by omega)]; simp)
      | (rw [decide_eq_true (show 1 ≤ s.size by omega), decide_eq_true (show s.size ≤ 27 by omega)]; simp_all [okL])
    case round =>
      obtain ⟨k, hk, rfl, rfl, rfl⟩ := hrel
      by_cases hlt : k < s.size
      · have hidx : s.data.size = s.size := rfl
        have HO : Hid (okL (s.toList.take (k + 1)) = (okL (s.toList.take k) && ((s[k].toNat : Int) != 47 && (s[k].toNat : Int) != 0))) := by
          show _ = _
          rw [ByteArray.toList_eq, okL_take _ _ (by simpa using hlt), byte_ne, byte_ne0]; simp; rfl
        cases hf : (preL s.toList && okL (s.toList.take k)) with
        | false =>
          go_wp2_with fail
          all_goals exact ⟨⟨k + 1, by omega, by go_num, by rw [HO.out, ← Bool.and_assoc, hf]; rfl, trivial⟩, by simp [intOf]; omega⟩
        | true =>
          go_wp2_with fail
          all_goals exact ⟨⟨k + 1, by omega, by go_num, by rw [HO.out, ← Bool.and_assoc, hf]; simp_all, trivial⟩, by simp [intOf]; omega⟩
      · obtain rfl : k = s.size := by omega
        have HM : Hid (mayB s = (preL s.toList && okL (s.toList.take s.size))) := by
          show _ = _
          unfold mayB; rw [mayL_pre, ByteArray.toList_eq, show s.size = s.data.toList.length from rfl, List.take_length]
        generalize (preL s.toList && okL (s.toList.take s.size)) = f at *
        go_wp2_with fail
        refine (mayName_any s hs _).mono ?_
        rintro e w2 ⟨rfl, rfl⟩
        rw [HM.out]
        clear HM
        cases f <;> (go_wp2_with fail; go_ret; exact ⟨rfl, hL1⟩)
end Go.Proofs.Ytmghpmbjimdegaa
